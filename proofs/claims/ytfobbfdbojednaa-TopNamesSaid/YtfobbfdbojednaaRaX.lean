/- Evaluation of abstract code: what must hold of its outcome, all as one proposition. -/
import Derived.Test.YtfobbfdbojednaaRaW
namespace Go.Ra
set_option linter.unusedVariables false
set_option linter.unusedSimpArgs false

def mapX (f : XV → Option (List Bool × XV)) : List XV → Option (List Bool × List XV)
  | [] => some ([], [])
  | v :: r =>
    match f v, mapX f r with
    | some (nd, u), some (nd', us) => some (nd ++ nd', u :: us)
    | _, _ => none

/-- Own memory taken as memory that nobody writes. -/
def frzX (H : List (Nat × Option XV)) : Nat → XV → Option (List Bool × XV)
  | 0, v => bif v.idf then some ([], v) else none
  | k + 1, v =>
    match v with
    | .sl id path off kk len es =>
      match rowX H es (.sl id path off kk len es) with
      | some (nd, n, f) => some (nd, .row false es n f)
      | none => none
    | .ptr id path off =>
      match loadX H (.ptr id path off) with
      | some (nd, u) =>
        match frzX H k u with
        | some (nd', u') => some (nd ++ nd', .fptr u')
        | none => none
      | none => none
    | .agg n ts =>
      match mapX (frzX H k) ts with
      | some (nd, us) => some (nd, .agg n us)
      | none => none
    | .tup ts =>
      match mapX (frzX H k) ts with
      | some (nd, us) => some (nd, .tup us)
      | none => none
    | .clo f ts =>
      match mapX (frzX H k) ts with
      | some (nd, us) => some (nd, .clo f us)
      | none => none
    | .raw (.sc v) => some ([], .raw (.sc v))
    | .raw _ => none
    | .opt _ _ => none
    | .tri _ _ => none
    | v => bif v.idf then some ([], v) else none

theorem mapX_con {f : XV → Option (List Bool × XV)} {g : AV → Option AV} (hf : ∀ v nd u, f v = some (nd, u) → allT nd → g (con v) = some (con u)) : ∀ {l : List XV} {nd : List Bool} {us : List XV}, mapX f l = some (nd, us) → allT nd → mapO g (cons l) = some (cons us)
  | [], nd, us, h, hn => by
    simp only [mapX, Option.some.injEq, Prod.mk.injEq] at h
    obtain ⟨_, rfl⟩ := h; rfl
  | v :: r, nd, us, h, hn => by
    simp only [mapX] at h
    split at h
    · rename_i nd1 u nd2 us' h1 h2
      simp only [Option.some.injEq, Prod.mk.injEq] at h
      obtain ⟨rfl, rfl⟩ := h
      rw [allT_app] at hn
      simp only [cons, mapO, hf _ _ _ h1 hn.1, mapX_con hf h2 hn.2]
    · cases h

theorem frzX_con {H : List (Nat × Option XV)} {σ : St} (hH : ∀ i, σ.H i = (lookX H i).map con) : ∀ (k : Nat) (v : XV) (nd : List Bool) (u : XV), frzX H k v = some (nd, u) → allT nd → frz σ k (con v) = some (con u)
  | 0, v, nd, u, h, hn => by
    simp only [frzX] at h
    cases hc : v.idf <;> rw [hc] at h
    · cases h
    · simp only [cond_true, Option.some.injEq, Prod.mk.injEq] at h
      obtain ⟨_, rfl⟩ := h
      simp only [frz, con_idf, hc, if_true]
  | k + 1, v, nd, u, h, hn => by
    have ih := frzX_con hH k
    cases v <;> simp only [frzX] at h
    case sl id path off kk len es =>
      split at h
      · rename_i nd' n f hr
        simp only [Option.some.injEq, Prod.mk.injEq] at h
        obtain ⟨rfl, rfl⟩ := h
        have := rowX_con hH hr hn
        simp only [con] at this
        simp only [con, frz, this]
      · cases h
    case ptr id path off =>
      split at h
      · rename_i nd' w hl
        split at h
        · rename_i nd2 w' hw
          simp only [Option.some.injEq, Prod.mk.injEq] at h
          obtain ⟨rfl, rfl⟩ := h
          rw [allT_app] at hn
          have := loadX_con hH hl hn.1
          simp only [con] at this
          simp only [con, frz, this, ih _ _ _ hw hn.2]
        · cases h
      · cases h
    case agg n ts =>
      split at h
      · rename_i nd' us hm
        simp only [Option.some.injEq, Prod.mk.injEq] at h
        obtain ⟨rfl, rfl⟩ := h
        simp only [con, frz, mapX_con ih hm hn]
      · cases h
    case tup ts =>
      split at h
      · rename_i nd' us hm
        simp only [Option.some.injEq, Prod.mk.injEq] at h
        obtain ⟨rfl, rfl⟩ := h
        simp only [con, frz, mapX_con ih hm hn]
      · cases h
    case clo f ts =>
      split at h
      · rename_i nd' us hm
        simp only [Option.some.injEq, Prod.mk.injEq] at h
        obtain ⟨rfl, rfl⟩ := h
        simp only [con, frz, mapX_con ih hm hn]
      · cases h
    case raw w =>
      cases w <;> simp only [frzX, Option.some.injEq, Prod.mk.injEq, reduceCtorEq] at h
      obtain ⟨_, rfl⟩ := h
      rfl
    case opt => cases h
    case tri => cases h
    all_goals
      simp only [XV.idf, cond_true, Option.some.injEq, Prod.mk.injEq] at h
      obtain ⟨_, rfl⟩ := h
      rfl

/-- All of these, and then that. -/
def need : List Bool → Prop → Prop
  | [], p => p
  | b :: l, p => cond b (need l p) False
theorem need_iff : ∀ {l : List Bool} {p : Prop}, need l p ↔ allT l ∧ p
  | [], p => by simp [need, allT_nil]
  | b :: l, p => by
    cases b
    · simp [need, allT_cons]
    · simp only [need, cond_true, need_iff (l := l), allT_cons, true_and]
/-- All of these if g, and then that. -/
def needG (g : Bool) : List Bool → Prop → Prop
  | [], p => p
  | b :: l, p => cond (bif b then true else !g) (needG g l p) False
theorem needG_iff {g : Bool} : ∀ {l : List Bool} {p : Prop}, needG g l p ↔ (g = true → allT l) ∧ p
  | [], p => by simp [needG, allT_nil]
  | b :: l, p => by
    cases b
    · cases g
      · simp [needG, needG_iff (l := l)]
      · simp [needG, allT_cons]
    · simp only [needG, cond_true, needG_iff (l := l), allT_cons, true_and]

def strip : XV → XV
  | .opt _ v => v
  | v => v
/-- What must hold for a value to be there. -/
def isThere : XV → List Bool
  | .opt g _ => [g]
  | _ => []
theorem strip_con {v : XV} (h : allT (isThere v)) : con v = con (strip v) := by
  cases v <;> try rfl
  rename_i g v
  simp only [isThere, allT_cons] at h
  simp only [con, strip, h.1, cond_true]

def theres (e : AX → XV) : List AX → List Bool
  | [] => []
  | x :: l => isThere (e x) ++ theres e l
theorem theres_spec {e : AX → XV} : ∀ {l : List AX}, allT (theres e l) → ∀ x ∈ l, con (e x) = con (strip (e x))
  | [], h, x, hx => by cases hx
  | y :: l, h, x, hx => by
    simp only [theres, allT_app] at h
    rcases List.mem_cons.1 hx with rfl | hx
    · exact strip_con h.1
    · exact theres_spec h.2 x hx

def condX (a b : XV) (c : Bool) : List Bool :=
  match a, b with
  | .opt ga _, .opt gb _ => [bif c then ga else gb]
  | .opt ga _, _ => [bif c then ga else true]
  | _, .opt gb _ => [bif c then true else gb]
  | _, _ => []

def pickX (c a b : XV) : Option (List Bool × XV) :=
  match strip c with
  | .bool t =>
    match a, b with
    | _, .tup [] => some (isThere c ++ t :: isThere a, strip a)
    | .tup [], _ => some (isThere c ++ (!t) :: isThere b, strip b)
    | _, _ => some (isThere c ++ condX a b t, mrg t (strip a) (strip b))
  | _ => none

theorem pickX_con {σ : St} {e : AX → XV} {c a b : AX} {nd : List Bool} {v : XV} (he : ∀ x, σ.ev x = con (e x)) (h : pickX (e c) (e a) (e b) = some (nd, v)) (hn : allT nd) : stepE (.pick c a b) σ = some (con v, σ) := by
  unfold pickX at h
  split at h
  · rename_i t hc
    split at h
    · rename_i ha hb
      simp only [Option.some.injEq, Prod.mk.injEq] at h
      obtain ⟨rfl, rfl⟩ := h
      rw [allT_app, allT_cons] at hn
      have h1 := strip_con hn.1
      rw [hc] at h1
      simp only [stepE, he, h1, con]
      rw [hn.2.1]
      simp only [if_true]
      rw [strip_con hn.2.2]
    · rename_i ha hb
      simp only [Option.some.injEq, Prod.mk.injEq] at h
      obtain ⟨rfl, rfl⟩ := h
      rw [allT_app, allT_cons] at hn
      have h1 := strip_con hn.1
      rw [hc] at h1
      simp only [stepE, he, h1, con]
      have ht : t = false := by simpa using hn.2.1
      rw [ht]
      simp only [Bool.false_eq_true, if_false]
      rw [strip_con hn.2.2]
    · simp only [Option.some.injEq, Prod.mk.injEq] at h
      obtain ⟨rfl, rfl⟩ := h
      rw [allT_app] at hn
      have h1 := strip_con hn.1
      rw [hc] at h1
      simp only [stepE, he, h1, con, con_mrg]
      have h2 := hn.2
      unfold condX at h2
      cases t
      · simp only [Bool.false_eq_true, if_false, cond_false]
        congr 2
        refine strip_con ?_
        cases ha : e a <;> cases hb : e b <;> simp only [ha, hb, isThere, allT_nil, allT_cons, cond_false] at h2 ⊢ <;> exact h2
      · simp only [if_true, cond_true]
        congr 2
        refine strip_con ?_
        cases ha : e a <;> cases hb : e b <;> simp only [ha, hb, isThere, allT_nil, allT_cons, cond_true] at h2 ⊢ <;> exact h2
  · cases h

inductive XG where
  | one (d : Option Nat) (o : AOp)
  | run (t : Nat) (b : Bool) (l : List (Option Nat × AOp))

def isD (d : Option Nat) (t : Nat) : Bool :=
  match d with
  | some d => Nat.beq d t
  | none => false

/-- Operations under one guard, together. -/
def addG (d : Option Nat) (o : AOp) (t : Nat) (b : Bool) : List XG → List XG
  | .run t' b' l :: gs => bif (Nat.beq t t' && (b == b') && !isD d t) then .run t b ((d, o) :: l) :: gs else .run t b [(d, o)] :: .run t' b' l :: gs
  | gs => .run t b [(d, o)] :: gs
def grp : List AG → List XG
  | [] => []
  | ⟨d, o, none⟩ :: r => .one d o :: grp r
  | ⟨d, o, some (t, b)⟩ :: r => addG d o t b (grp r)

def ungR (t : Nat) (b : Bool) : List (Option Nat × AOp) → List AG → List AG
  | [], r => r
  | (d, o) :: l, r => ⟨d, o, some (t, b)⟩ :: ungR t b l r
def ung : List XG → List AG
  | [] => []
  | .one d o :: r => ⟨d, o, none⟩ :: ung r
  | .run t b l :: r => ungR t b l (ung r)
/-- No operation but the last writes the guard. -/
def okRun (t : Nat) : List (Option Nat × AOp) → Bool
  | [] => true
  | [_] => true
  | (d, _) :: l => !isD d t && okRun t l
def okG : List XG → Bool
  | [] => true
  | .one _ _ :: r => okG r
  | .run t _ l :: r => okRun t l && okG r

theorem addG_ung {d : Option Nat} {o : AOp} {t : Nat} {b : Bool} {gs : List XG} (h : okG gs = true) : ung (addG d o t b gs) = ⟨d, o, some (t, b)⟩ :: ung gs ∧ okG (addG d o t b gs) = true := by
  unfold addG
  split
  · rename_i t' b' l gs'
    cases hc : (Nat.beq t t' && (b == b') && !isD d t)
    · exact ⟨rfl, by simpa [okG, okRun] using h⟩
    · simp only [Bool.and_eq_true, beq_iff_eq] at hc
      have := Nat.eq_of_beq_eq_true hc.1.1
      have h2 := hc.1.2
      subst this
      subst h2
      refine ⟨rfl, ?_⟩
      simp only [okG, Bool.and_eq_true] at h
      simp only [cond_true, okG, Bool.and_eq_true]
      refine ⟨?_, h.2⟩
      cases l with
      | nil => rfl
      | cons x l => simp only [okRun, hc.2, Bool.true_and]; exact h.1
  · exact ⟨rfl, by simpa [okG, okRun] using h⟩
theorem grp_ung : ∀ l : List AG, ung (grp l) = l ∧ okG (grp l) = true
  | [] => ⟨rfl, rfl⟩
  | ⟨d, o, none⟩ :: r => by
    obtain ⟨h1, h2⟩ := grp_ung r
    exact ⟨by simp only [grp, ung, h1], by simpa [grp, okG] using h2⟩
  | ⟨d, o, some (t, b)⟩ :: r => by
    obtain ⟨h1, h2⟩ := grp_ung r
    obtain ⟨h3, h4⟩ := addG_ung (d := d) (o := o) (t := t) (b := b) h2
    exact ⟨by simp only [grp, h3, h1], by simpa [grp] using h4⟩

/-- What is told of functions. -/
structure Tab where
  codes : Nat → Option (Nat × List AR × AC)
  q : Nat → Bool
  sp : Nat → List XV → Option (List Bool × XV)
  sg : Nat → List XV → XSt → Option (List Bool × XV × XSt)

section
variable (T : Tab)

/-- An operation of a run. -/
def oneR (H : List (Nat × Option XV)) (e : AX → XV) (o : AOp) : Option (List Bool × XV) :=
  match o with
  | .pick c a b => pickX (e c) (e a) (e b)
  | .call f args =>
    bif (T.q f && XV.idfs (args.map fun x => strip (e x))) then
      match T.sp f (args.map fun x => strip (e x)) with
      | some (nd, v) => some (theres e args ++ nd, v)
      | none => none
    else none
  | o =>
    match stepR H (fun x => strip (e x)) o with
    | some (nd, v) => some (theres e (opnds o) ++ nd, v)
    | none => none

def putE (d : Option Nat) (v : XV) (env : List (Nat × XV)) : List (Nat × XV) :=
  match d with
  | some d => (d, v) :: env
  | none => env
def evE (env : List (Nat × XV)) : AX → XV
  | .t i => getX env i
  | .c v => lift v

/-- A run, carried out: what must hold, and the names behind it, the new ones counted. -/
def runX (H : List (Nat × Option XV)) : List (Option Nat × AOp) → List (Nat × XV) → Option (List Bool × List (Nat × XV))
  | [], env => some ([], env)
  | (d, o) :: l, env =>
    match oneR T H (evE env) o with
    | some (nd, v) =>
      match runX H l (putE d v env) with
      | some (nd', env') => some (nd ++ nd', env')
      | none => none
    | none => none

def cntR : List (Option Nat × AOp) → Nat
  | [] => 0
  | (some _, _) :: l => cntR l + 1
  | (none, _) :: l => cntR l
/-- The first so many names are there only if g. -/
def wrap (g : Bool) : Nat → List (Nat × XV) → List (Nat × XV)
  | k + 1, (i, v) :: l => (i, .opt g v) :: wrap g k l
  | _, l => l
def skips : List (Option Nat × AOp) → List (Nat × XV) → List (Nat × XV)
  | [], env => env
  | (d, _) :: l, env => skips l (putE d (.tup []) env)

/-- Is a run taken: what its guard says. -/
def guardX (v : XV) (b : Bool) : Option Bool :=
  match v with
  | .bool c => some (bif b then c else !c)
  | .opt g (.bool c) => some (bif g then (bif b then c else !c) else false)
  | .tup [] => some false
  | _ => none

variable (ci : Nat → List XV → XSt → (XV → XSt → Prop) → Prop)

def exOne (d : Option Nat) (o : AOp) (σ : XSt) (K : XSt → Prop) : Prop :=
  match o with
  | .pick c a b =>
    match pickX (σ.ev c) (σ.ev a) (σ.ev b) with
    | some (nd, v) => need nd (K (σ.put d v))
    | none => False
  | .call f args => need (theres σ.ev args) (ci f (args.map fun x => strip (σ.ev x)) σ fun v τ => K ((σ.back τ).put d v))
  | .callv x args =>
    match strip (σ.ev x) with
    | .clo f caps => cond (T.q f) (need (theres σ.ev (x :: args)) (ci f ((args.map fun x => strip (σ.ev x)) ++ caps) σ fun v τ => K ((σ.back τ).put d v))) False
    | _ => False
  | o =>
    match stepR σ.hl (fun x => strip (σ.ev x)) o with
    | some (nd, v) => need (theres σ.ev (opnds o)) (need nd (K (σ.put d v)))
    | none =>
      match stepW σ (fun x => strip (σ.ev x)) o with
      | some (nd, v, τ) => need (theres σ.ev (opnds o)) (need nd (K (τ.put d v)))
      | none => False

def exRun : List (Option Nat × AOp) → XSt → (XSt → Prop) → Prop
  | [], σ, K => K σ
  | (d, o) :: l, σ, K => exOne T ci d o σ fun σ' => exRun l σ' K

def exO : List XG → XSt → (XSt → Prop) → Prop
  | [], σ, K => K σ
  | .one d o :: r, σ, K => exOne T ci d o σ fun σ' => exO r σ' K
  | .run t b l :: r, σ, K =>
    match guardX (getX σ.env t) b with
    | some g =>
      match runX T σ.hl l σ.env with
      | some (nd, env) => needG g nd (exO r ⟨wrap g (cntR l) env, σ.hl, σ.n⟩ K)
      | none => cond g (exRun T ci l σ fun σ' => exO r σ' K) (exO r ⟨skips l σ.env, σ.hl, σ.n⟩ K)
    | none => False

def iterX : Nat → (XSt → (AE → XSt → Prop) → Prop) → XSt → (AE → XSt → Prop) → Prop
  | 0, _, _, _ => False
  | n + 1, g, σ, K => g σ fun e σ' =>
    match e with
    | .normal => iterX n g σ' K
    | e => K e σ'

/-- Code: what must hold of its outcome. -/
def exC (u : Nat) : AC → XSt → (AE → XSt → Prop) → Prop
  | .skip, σ, K => K .normal σ
  | .ops l, σ, K => exO T ci (grp l) σ (K .normal)
  | .seq a b, σ, K => exC u a σ fun e σ' =>
    match e with
    | .normal => exC u b σ' K
    | e => K e σ'
  | .cond c x y, σ, K =>
    match strip (σ.ev c) with
    | .bool b => need (isThere (σ.ev c)) (cond b (exC u x σ K) (exC u y σ K))
    | _ => False
  | .block id c, σ, K => exC u c σ fun e σ' =>
    match e with
    | .exit i => cond (Nat.beq i id) (K .normal σ') (K (.exit i) σ')
    | e => K e σ'
  | .loop c, σ, K => iterX u (exC u c) σ K
  | .exit id, σ, K => K (.exit id) σ
  | .ret, σ, K => K .ret σ

def resX (σ : XSt) : AR → Option (List Bool × XV)
  | .tmp t => some ([], getX σ.env t)
  | .cell t ag n =>
    match loadX σ.hl (getX σ.env t) with
    | some (nd, u) => bif (u.isAgg == ag && Nat.beq u.size n) then some (nd, u) else none
    | none => none
def resXs (σ : XSt) : List AR → Option (List Bool × List XV)
  | [] => some ([], [])
  | r :: rs =>
    match resX σ r, resXs σ rs with
    | some (nd, v), some (nd', vs) => some (nd ++ nd', v :: vs)
    | _, _ => none
def tupX : List XV → XV
  | [v] => v
  | vs => .tup vs
def retX (rs : List AR) (K : XV → XSt → Prop) : AE → XSt → Prop
  | .exit _, _ => False
  | _, σ =>
    match resXs σ rs with
    | some (nd, vs) => need nd (K (tupX vs) σ)
    | none => False
def envX : Nat → List XV → List (Nat × XV)
  | _, [] => []
  | k, v :: r => (k, v) :: envX (k + 1) r
end

def frzK (K : XV → Prop) (v : XV) (τ : XSt) : Prop :=
  match frzX τ.hl 6 v with
  | some (nd, r) => need nd (K r)
  | none => False

/-- A function that leaves memory alone. -/
def quietGo (T : Tab) (u : Nat) (ci : Nat → List XV → XSt → (XV → XSt → Prop) → Prop) (f : Nat) (args : List XV) (K : XV → Prop) : Prop :=
  match T.sp f args with
  | some (nd, v) => need nd (K v)
  | none =>
    match T.codes f with
    | some (nt, rs, c) => cond (Nat.ble args.length nt) (exC T ci u c ⟨envX 0 args, [], 0⟩ (retX rs (frzK K))) False
    | none => False

/-- A call, its function's code gone through. -/
def callI (T : Tab) (u : Nat) : Nat → Nat → List XV → XSt → (XV → XSt → Prop) → Prop
  | 0, _, _, _, _ => False
  | k + 1, f, args, σ, K =>
    cond (T.q f)
      (cond (XV.idfs args) (quietGo T u (callI T u k) f args fun v => K v σ)
        (match mapX (frzX σ.hl 6) args with
        | some (nd, args') => need nd (quietGo T u (callI T u k) f args' fun v => cond v.sol (K v σ) False)
        | none => False))
      (match T.sg f args σ with
      | some (nd, v, τ) => need nd (K v τ)
      | none =>
        match T.codes f with
        | some (nt, rs, c) => cond (Nat.ble args.length nt && !T.q (f + 1000000)) (exC T (callI T u k) u c ⟨envX 0 args, σ.hl, σ.n⟩ (retX rs K)) False
        | none => False)
end Go.Ra
