/- Rows of structs: their fields, and when two are one. -/
import Derived.Test.YtfobbfdbojednaaRaZd
namespace Go.Ra
set_option linter.unusedVariables false
set_option linter.unusedSimpArgs false

def asB : XV → Bool
  | .bool b => b
  | _ => false
/-- A struct's field. -/
def fld (k : Nat) : XV → XV
  | .agg _ ts =>
    match nth ts k with
    | some t => t
    | none => .unk
  | _ => .unk
/-- Is it of these kinds? -/
inductive KD where
  | i (k : IntKind)
  | b
def isK : KD → XV → Bool
  | .i k, .int k' _ => decide (k = k')
  | .b, .bool _ => true
  | _, _ => false
def isKs : List KD → List XV → Bool
  | [], [] => true
  | k :: ks, t :: ts => bif isK k t then isKs ks ts else false
  | _, _ => false
def isS (ks : List KD) : XV → Bool
  | .agg n ts => bif Nat.beq n ks.length then isKs ks ts else false
  | _ => false
def mkK : KD → XV → XV
  | .i k, v => .int k (asN v)
  | .b, v => .bool (asB v)
def mkKs : List KD → Nat → XV → List XV
  | [], _, _ => []
  | k :: ks, j, v => mkK k (fld j v) :: mkKs ks (j + 1) v
/-- The struct, its fields read and put together. -/
def mkS (ks : List KD) (v : XV) : XV := .agg ks.length (mkKs ks 0 v)

theorem mkK_eq {k : KD} {v : XV} (h : isK k v = true) : mkK k v = v := by
  cases k <;> cases v <;> simp only [isK, Bool.false_eq_true, decide_eq_true_eq] at h
  · subst h; rfl
  · rfl
theorem mkKs_eq : ∀ (ks : List KD) (pre ts : List XV) (n : Nat), isKs ks ts = true → mkKs ks pre.length (.agg n (pre ++ ts)) = ts
  | [], pre, [], n, h => rfl
  | k :: ks, pre, t :: ts, n, h => by
    simp only [isKs] at h
    cases hk : isK k t <;> rw [hk] at h
    · cases h
    · have h1 : fld pre.length (.agg n (pre ++ t :: ts)) = t := by
        simp only [fld, nth_get]
        rw [List.getElem?_append_right (Nat.le_refl _), Nat.sub_self]
        rfl
      have h2 := mkKs_eq ks (pre ++ [t]) ts n h
      simp only [List.length_append, List.length_cons, List.length_nil, List.append_assoc, List.cons_append, List.nil_append] at h2
      simp only [mkKs, h1, mkK_eq hk]
      rw [show pre.length + 1 = pre.length + (0 + 1) from rfl, h2]
  | [], pre, _ :: _, n, h => by simp [isKs] at h
  | _ :: _, pre, [], n, h => by simp [isKs] at h
theorem mkS_eq {ks : List KD} {v : XV} (h : isS ks v = true) : mkS ks v = v := by
  cases v <;> simp only [isS, Bool.false_eq_true] at h
  rename_i n ts
  cases hn : Nat.beq n ks.length <;> rw [hn] at h
  · cases h
  · have := Nat.eq_of_beq_eq_true hn
    subst this
    rw [cond_true] at h
    have h1 := mkKs_eq ks [] ts ks.length h
    simp only [List.length_nil, List.nil_append] at h1
    simp only [mkS, h1]

/-- Rows of one length, alike in each place. -/
def eqR (n m : Nat) (p : Nat → Bool) : Bool := bif Nat.beq n m then allN p n else false
theorem eqR_iff {n m : Nat} {p : Nat → Bool} : eqR n m p = true ↔ n = m ∧ ∀ i, i < n → p i = true := by
  unfold eqR
  cases h : Nat.beq n m
  · simp only [cond_false, Bool.false_eq_true, false_iff]
    rintro ⟨h1, _⟩
    subst h1
    rw [Nat.beq_refl] at h
    cases h
  · rw [cond_true, allN_iff]
    exact ⟨fun h1 => ⟨Nat.eq_of_beq_eq_true h, h1⟩, fun h1 => h1.2⟩
theorem eqR_self {n : Nat} {p : Nat → Bool} (h : ∀ i, i < n → p i = true) : eqR n n p = true := eqR_iff.2 ⟨rfl, h⟩

/-- Whether two rows are alike. -/
def eqRow (p : XV → XV → Bool) (n m : Nat) (f g : Nat → XV) : Bool := eqR n m fun i => p (f i) (g i)
theorem eqRow_self {p : XV → XV → Bool} (hp : ∀ a, p a a = true) (n : Nat) (f : Nat → XV) : eqRow p n n f f = true := eqR_self fun i _ => hp (f i)

def okE (e es n : Nat) : Bool := Nat.beq e es || Nat.beq n 0

theorem con_row {x : Bool} {es n : Nat} {f g : Nat → XV} (h : ∀ i, i < n → con (f i) = con (g i)) : con (.row x es n f) = con (.row x es n g) := by
  simp only [con]
  rw [tabL_congr h]

/-- The same but for what an empty row's elements would be. -/
def nilEq (a b : AV) : Prop := a = b ∨ ∃ x es es', a = .fro x es [] ∧ b = .fro x es' []
inductive nilEqs : List AV → List AV → Prop
  | nil : nilEqs [] []
  | cons {a b : AV} {l r : List AV} : nilEq a b → nilEqs l r → nilEqs (a :: l) (b :: r)
theorem nilEq.rel {w : World} {F : Nat → Prop} {ρ : Nat → Option Loc} {a b : AV} {v : Value} (h : nilEq a b) (hr : RelV w F ρ a v) : RelV w F ρ b v := by
  rcases h with rfl | ⟨x, es, es', rfl, rfl⟩
  · exact hr
  · obtain ⟨a, cap, rfl, _, hc, _⟩ := hr.fro_inv
    exact .one (.fro0 fun hx => hc hx) rfl
theorem nilEqs.rel {w : World} {F : Nat → Prop} {ρ : Nat → Option Loc} : ∀ {l r : List AV} {vs : List Value}, nilEqs l r → RelVs w F ρ l vs → RelVs w F ρ r vs
  | _, _, _, .nil, .nil => .nil
  | _, _, _, .cons h1 h2, .cons h3 h4 => .cons (h1.rel h3) (nilEqs.rel h2 h4)
theorem Pure.nilEqs {P : Program} {f : Nat} {l r : List AV} {v : AV} (hp : Pure P f r v) (h : nilEqs l r) : Pure P f l v :=
  ⟨hp.1, fun w F vs hF hr => hp.2 w F vs hF (h.rel hr)⟩

theorem nil_row {x : Bool} {e es n : Nat} {f g : Nat → XV} (ho : okE e es n = true) (h : ∀ i, i < n → con (f i) = con (g i)) : nilEq (con (.row x e n f)) (con (.row x es n g)) := by
  simp only [okE, Bool.or_eq_true] at ho
  rcases ho with ho | ho
  · have := Nat.eq_of_beq_eq_true ho
    subst this
    exact .inl (con_row h)
  · have := Nat.eq_of_beq_eq_true ho
    subst this
    exact .inr ⟨x, e, es, rfl, rfl⟩
theorem nil_self (a : AV) : nilEq a a := .inl rfl

/-- Whether two rows of such structs are one. -/
def sameS (es : Nat) (ks : List KD) (p : XV → XV → Bool) : List XV → Option (List Bool × XV)
  | [.row _ e1 n f, .row _ e2 m g] => bif (okE e1 es n && okE e2 es m) then some ([decide (n ≤ 4611686018427387904), allN (fun i => isS ks (f i)) n, allN (fun i => isS ks (g i)) m], .bool (eqRow p n m f g)) else none
  | _ => none
theorem sameS_ok {P : Program} {fn es : Nat} {ks : List KD} {p : XV → XV → Bool}
    (h : ∀ (x y : Bool) (n m : Nat) (f g : Nat → XV), n ≤ 4611686018427387904 → Pure P fn (cons [.row x es n (fun i => mkS ks (f i)), .row y es m (fun i => mkS ks (g i))]) (B (eqR n m fun i => p (mkS ks (f i)) (mkS ks (g i))))) :
    SpOk P (fn, sameS es ks p) := by
  intro args nd v ha hn
  simp only [sameS] at ha
  split at ha
  · rename_i x e1 n f y e2 m g
    cases hc : (okE e1 es n && okE e2 es m) <;> rw [hc] at ha
    · cases ha
    · simp only [cond_true, Option.some.injEq, Prod.mk.injEq] at ha
      obtain ⟨rfl, rfl⟩ := ha
      simp only [Bool.and_eq_true] at hc
      simp only [allT_cons, decide_eq_true_eq, allN_iff] at hn
      have h1 := h x y n m f g hn.1
      unfold eqRow
      have h2 : eqR n m (fun i => p (mkS ks (f i)) (mkS ks (g i))) = eqR n m fun i => p (f i) (g i) := by
        rw [Bool.eq_iff_iff, eqR_iff, eqR_iff]
        constructor
        · rintro ⟨h3, h4⟩
          subst h3
          exact ⟨rfl, fun i hi => by have := h4 i hi; rw [mkS_eq (hn.2.1 i hi), mkS_eq (hn.2.2.1 i hi)] at this; exact this⟩
        · rintro ⟨h3, h4⟩
          subst h3
          exact ⟨rfl, fun i hi => by rw [mkS_eq (hn.2.1 i hi), mkS_eq (hn.2.2.1 i hi)]; exact h4 i hi⟩
      rw [h2] at h1
      refine h1.nilEqs (.cons (nil_row hc.1 fun i hi => ?_) (.cons (nil_row hc.2 fun i hi => ?_) .nil))
      · rw [mkS_eq (hn.2.1 i hi)]
      · rw [mkS_eq (hn.2.2.1 i hi)]
  · cases ha

/-- What a function of a row of structs, and of more, gives. -/
def rowSp (es : Nat) (ks : List KD) (N : Nat) (g : Nat → (Nat → XV) → List XV → Option (List Bool × XV)) : List XV → Option (List Bool × XV)
  | .row _ e n f :: rest => bif okE e es n then
      match g n f rest with
      | some (nd, v) => some (decide (n ≤ N) :: allN (fun i => isS ks (f i)) n :: nd, v)
      | none => none
    else none
  | _ => none
theorem nilEqs_refl : ∀ l : List AV, nilEqs l l
  | [] => .nil
  | a :: l => .cons (nil_self a) (nilEqs_refl l)
theorem rowSp_ok {P : Program} {fn es N : Nat} {ks : List KD} {g : Nat → (Nat → XV) → List XV → Option (List Bool × XV)}
    (h : ∀ (x : Bool) (n : Nat) (f : Nat → XV) (rest : List XV) (nd : List Bool) (v : XV), n ≤ N → g n f rest = some (nd, v) → allT nd → Pure P fn (cons (.row x es n (fun i => mkS ks (f i)) :: rest)) (con v)) : SpOk P (fn, rowSp es ks N g) := by
  intro args nd v ha hn
  simp only [rowSp] at ha
  split at ha
  · rename_i x e n f rest
    cases hc : okE e es n <;> rw [hc] at ha
    · cases ha
    · rw [cond_true] at ha
      split at ha
      · rename_i nd' v' hg
        simp only [Option.some.injEq, Prod.mk.injEq] at ha
        obtain ⟨rfl, rfl⟩ := ha
        simp only [allT_cons, decide_eq_true_eq, allN_iff] at hn
        refine (h x n f rest nd' v' hn.1 hg hn.2.2).nilEqs (.cons (nil_row hc fun i hi => ?_) (nilEqs_refl _))
        rw [mkS_eq (hn.2.1 i hi)]
      · cases ha
  · cases ha

/-- What a function of a row of plain values, and of more, gives. -/
def rowKSp (es : Nat) (k : KD) (N : Nat) (g : Nat → (Nat → XV) → List XV → Option (List Bool × XV)) : List XV → Option (List Bool × XV)
  | .row _ e n f :: rest => bif okE e es n then
      match g n f rest with
      | some (nd, v) => some (decide (n ≤ N) :: allN (fun i => isK k (f i)) n :: nd, v)
      | none => none
    else none
  | _ => none
theorem rowKSp_ok {P : Program} {fn es N : Nat} {k : KD} {g : Nat → (Nat → XV) → List XV → Option (List Bool × XV)}
    (h : ∀ (x : Bool) (n : Nat) (f : Nat → XV) (rest : List XV) (nd : List Bool) (v : XV), n ≤ N → g n f rest = some (nd, v) → allT nd → Pure P fn (cons (.row x es n (fun i => mkK k (f i)) :: rest)) (con v)) : SpOk P (fn, rowKSp es k N g) := by
  intro args nd v ha hn
  simp only [rowKSp] at ha
  split at ha
  · rename_i x e n f rest
    cases hc : okE e es n <;> rw [hc] at ha
    · cases ha
    · rw [cond_true] at ha
      split at ha
      · rename_i nd' v' hg
        simp only [Option.some.injEq, Prod.mk.injEq] at ha
        obtain ⟨rfl, rfl⟩ := ha
        simp only [allT_cons, decide_eq_true_eq, allN_iff] at hn
        refine (h x n f rest nd' v' hn.1 hg hn.2.2).nilEqs (.cons (nil_row hc fun i hi => ?_) (nilEqs_refl _))
        rw [mkK_eq (hn.2.1 i hi)]
      · cases ha
  · cases ha
end Go.Ra
