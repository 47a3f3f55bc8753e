/- Functions: how they are entered, what is known of them, how they are called. -/
import Derived.Test.YtfobbfdbojednaaRaM
namespace Go.Ra
set_option linter.unusedVariables false
set_option linter.unusedSimpArgs false

/-- The functions that leave memory alone, by number. -/
def qs (l : List Nat) (n : Nat) : Bool := l.contains n

/-- Where a result lies. -/
inductive AR where
  | tmp (t : Nat)
  | cell (t : Nat) (ag : Bool) (n : Nat)
  deriving Inhabited

def trR (P : Program) : ResultVar → Option AR
  | .tmp t => some (.tmp t)
  | .cell a t =>
    match isAggT P t, szT P t with
    | some ag, some n => some (.cell a ag n)
    | _, _ => none

def mapO {α β : Type} (f : α → Option β) : List α → Option (List β)
  | [] => some []
  | x :: xs =>
    match f x, mapO f xs with
    | some y, some ys => some (y :: ys)
    | _, _ => none

/-- A function in abstract code: how many temporaries it has, its results, its body. -/
def trF (P : Program) (q : Nat → Bool) (f : Nat) : Option (Nat × List AR × AC) :=
  match P.funcs[f]? with
  | some fn =>
    if fn.name == "runtime.NumGoroutine" then none else
    match fn.body with
    | some c =>
      match trC P fn.ntmps (okR q) (q (f + 2000000)) c, mapO (trR P) fn.results.toList with
      | some ac, some rs => some (fn.ntmps, rs, ac)
      | _, _ => none
    | none => none
  | none => none

def resV (σ : St) : AR → Option AV
  | .tmp t => some (get σ.env t)
  | .cell t ag n =>
    match σ.loadA (get σ.env t) with
    | some u => if u.isAgg = ag ∧ u.size = n then some u else none
    | none => none

def resA (σ : St) : List AR → Option (List AV)
  | [] => some []
  | r :: rs =>
    match resV σ r, resA σ rs with
    | some v, some vs => some (v :: vs)
    | _, _ => none

def tupV : List AV → AV
  | [v] => v
  | vs => .tup vs

/-- What is asked behind a body. -/
def retP (rs : List AR) (K : AV → St → Prop) : AE → St → Prop
  | .exit _, _ => False
  | _, σ =>
    match resA σ rs with
    | some vs => K (tupV vs) σ
    | none => False

def envOf : Nat → List AV → List (Nat × AV)
  | _, [] => []
  | k, v :: r => (k, v) :: envOf (k + 1) r

theorem get_envOf : ∀ (args : List AV) (k t : Nat), get (envOf k args) (k + t) = args.getD t .unk
  | [], k, t => by simp [envOf, get]
  | v :: r, k, 0 => by simp [envOf, get]
  | v :: r, k, t + 1 => by
    simp only [envOf, get]
    rw [if_neg (by omega)]
    have := get_envOf r (k + 1) t
    rw [show k + (t + 1) = k + 1 + t by omega, this]
    simp

theorem get_envOf_lt : ∀ (args : List AV) (k t : Nat), t < k → get (envOf k args) t = .unk
  | [], k, t, h => by simp [envOf, get]
  | v :: r, k, t, h => by
    simp only [envOf, get]
    rw [if_neg (by omega)]
    exact get_envOf_lt r (k + 1) t (by omega)

section
variable {P : Program} {q : Nat → Bool} {C : Orc}

theorem RelVs.len {w : World} {F : Nat → Prop} {ρ : Nat → Option Loc} : ∀ {ts : List AV} {vs : List Value}, RelVs w F ρ ts vs → vs.length = ts.length
  | _, _, .nil => rfl
  | _, _, .cons _ h => by simp [RelVs.len h]

def resF (tmps : Array Value) (x : ResultVar) : Sem Value :=
  match x with
  | .tmp t => pure (tmps.getD t undef)
  | .cell a t => do loadVar t (← asAddr (tmps.getD a undef))

theorem run_results {fr : Fr} {G : Gh} {w : World} {σ : St} {a : Act} (hown : Own fr G w σ) (henv : Env G w σ a) : ∀ (l : List ResultVar) (rs : List AR) (vs : List AV), mapO (trR P) l = some rs → resA σ rs = some vs →
    ∃ us : List Value, (l.mapM (resF a.tmps)).run P w = .ok us w ∧ RelVs w G.F G.ρ vs us
  | [], rs, vs, h1, h2 => by
    simp only [mapO, Option.some.injEq] at h1
    subst h1
    simp only [resA, Option.some.injEq] at h2
    subst h2
    exact ⟨[], by simp, .nil⟩
  | x :: l, rs, vs, h1, h2 => by
    simp only [mapO] at h1
    split at h1
    · rename_i r rs' hr hrs
      simp only [Option.some.injEq] at h1
      subst h1
      simp only [resA] at h2
      split at h2
      · rename_i v vs' hv hvs
        simp only [Option.some.injEq] at h2
        subst h2
        obtain ⟨us, h3, h4⟩ := run_results hown henv l rs' vs' hrs hvs
        rw [List.mapM_cons]
        cases x with
        | tmp t =>
          simp only [trR, Option.some.injEq] at hr
          subst hr
          simp only [resV, Option.some.injEq] at hv
          subst hv
          exact ⟨a.tmps.getD t undef :: us, by simp only [resF, Sem.run_bind, Sem.run_pure, Result.andThen, h3], .cons (henv t) h4⟩
        | cell b t =>
          simp only [trR] at hr
          split at hr
          · rename_i ag n hag hn
            simp only [Option.some.injEq] at hr
            subst hr
            simp only [resV] at hv
            split at hv
            · rename_i u hu
              split at hv
              · rename_i hc
                simp only [Option.some.injEq] at hv
                subst hv
                obtain ⟨b', o', cs, hv2, hrel, hrd⟩ := loadA_rel hown.1 (fun k t h => h) hu (henv b)
                have hlen : cs.length = n := by rw [hrel.size, hc.2]
                have hrun := run_loadVar (P := P) hag hn hlen hrd (fun hf => hrel.single (by rw [hc.1, hf]))
                refine ⟨(if ag = true then Value.agg cs.toArray else cs.headD undef) :: us, ?_, .cons ?_ h4⟩
                · have hadr : (asAddr (a.tmps.getD b undef)).run P w = .ok ⟨b', o', none⟩ w := by rw [hv2]; rfl
                  have hone : (resF a.tmps (.cell b t)).run P w = .ok (if ag = true then Value.agg cs.toArray else cs.headD undef) w := by
                    simp only [resF, Sem.run_bind, hadr, Result.andThen, hrun]
                  simp only [Sem.run_bind, hone, Sem.run_pure, Result.andThen, h3]
                · cases ag with
                  | true => simpa using RelV.agg hrel hc.1
                  | false =>
                    obtain ⟨v, rfl⟩ := hrel.single hc.1
                    simpa using RelV.one hrel hc.1
              · cases hv
            · cases hv
          · cases hr
      · cases h2
    · cases h1

theorem trF_inv {f nt : Nat} {rs : List AR} {ac : AC} (h : trF P q f = some (nt, rs, ac)) : ∃ fn c, P.funcs[f]? = some fn ∧ (fn.name == "runtime.NumGoroutine") = false ∧ fn.body = some c ∧ fn.ntmps = nt ∧ trC P nt (okR q) (q (f + 2000000)) c = some ac ∧ mapO (trR P) fn.results.toList = some rs := by
  unfold trF at h
  split at h
  · rename_i fn hf
    split at h
    · cases h
    · rename_i hn
      split at h
      · rename_i c hb
        split at h
        · rename_i ac' rs' h1 h2
          simp only [Option.some.injEq, Prod.mk.injEq] at h
          obtain ⟨rfl, rfl, rfl⟩ := h
          exact ⟨fn, c, hf, by simpa using hn, hb, rfl, h1, h2⟩
        · cases h
      · cases h
  · cases h

theorem trF_known {f nt : Nat} {rs : List AR} {ac : AC} (h : trF P q f = some (nt, rs, ac)) : Known P f := by
  obtain ⟨fn, c, h1, h2, h3, _⟩ := trF_inv h
  exact ⟨fn, h1, h2, by rw [h3]; rfl⟩

theorem enter (hmix : P.follows .mixedOrders = true) (hC : OrcOk P C) (hq : Quiet q C) {f nt : Nat} {rs : List AR} {ac : AC} (hF : trF P q f = some (nt, rs, ac)) {fr : Fr} {G : Gh} {w : World} {args : List AV} {vs : List Value}
    {hl : List (Nat × Option AV)} {hb : Nat → Option AV} {n : Nat} {K : AV → St → Prop} (hlen : args.length ≤ nt) (hown : Own fr G w ⟨envOf 0 args, hl, hb, n⟩) (hr : RelVs w G.F G.ρ args vs) (h : wpC C ac ⟨envOf 0 args, hl, hb, n⟩ (retP rs K)) :
    Calls P f vs.toArray w fun e w' => ∃ u G' v τ, e = .returned u ∧ Goto fr G w G' w' τ ∧ RelV w' G'.F G'.ρ v u ∧ K v τ := by
  obtain ⟨fn, c, h1, h2, h3, h4, h5, h6⟩ := trF_inv hF
  refine calls_of_wp h1 h3 ?_
  have hvl := hr.len
  have hs : Sim fr G w nt ⟨envOf 0 args, hl, hb, n⟩ { tmps := vs.toArray ++ Array.replicate (fn.ntmps - vs.toArray.size) undef, defers := [] } w := by
    refine ⟨G, hown.goto, fun t => ?_, rfl, ?_⟩
    · have hg := get_envOf args 0 t
      rw [Nat.zero_add] at hg
      rw [hg]
      by_cases ht : t < args.length
      · rw [List.getD_eq_getElem?_getD, List.getElem?_eq_getElem ht, Option.getD_some]
        obtain ⟨v, hv, hrel⟩ := hr.nth (List.getElem?_eq_getElem ht)
        rw [Array.getD_eq_getD_getElem?, Array.getElem?_append_left (by simp; omega)]
        simp only [List.getElem?_toArray, hv, Option.getD_some]
        exact hrel
      · rw [List.getD_eq_getElem?_getD, List.getElem?_eq_none (by omega), Option.getD_none]
        exact .unk
    · simp; omega
  refine wp_mono (wpC_sound hmix hC hq c ac _ _ w _ h5 hs h) fun e a w' he => ?_
  have key : ∀ σ, Sim fr G w nt σ a w' → (match resA σ rs with | some vs => K (tupV vs) σ | none => False) → a.defers = [] ∧ ∃ v, (results fn a.tmps).run P w' = .ok v w' ∧ ∃ u G' v' τ, Ending.returned v = .returned u ∧ Goto fr G w G' w' τ ∧ RelV w' G'.F G'.ρ v' u ∧ K v' τ := by
    intro σ hs hk
    obtain ⟨G', s1, s2, s3, s4⟩ := hs
    split at hk
    · rename_i rvs hrv
      obtain ⟨us, hrun, hrel⟩ := run_results (P := P) s1.own s2 fn.results.toList rs rvs h6 hrv
      have hul := hrel.len
      have hrun2 : (results fn a.tmps).run P w' = .ok (if h : us.toArray.size = 1 then us.toArray[0] else .tuple us.toArray) w' := by
        have e : results fn a.tmps = (do
            let vs ← fn.results.mapM (resF a.tmps)
            pure (if h : vs.size = 1 then vs[0] else .tuple vs)) := rfl
        rw [e, Array.mapM_eq_mapM_toList]
        simp only [Sem.run_bind, map_eq_pure_bind, hrun, Result.andThen, Sem.run_pure]
      refine ⟨s3, _, hrun2, _, G', tupV rvs, σ, rfl, s1, ?_, hk⟩
      cases hrel with
      | nil => simpa [tupV] using RelV.tup (.nil)
      | cons r1 r2 =>
        cases r2 with
        | nil => simpa [tupV] using r1
        | cons r3 r4 =>
          rw [dif_neg (by simp)]
          exact .tup (.cons r1 (.cons r3 r4))
    · cases hk
  cases e <;> simp only [post] at he
  case normal =>
    obtain ⟨σ, hs, hk⟩ := he
    exact key σ hs hk
  case exit i =>
    obtain ⟨σ, hs, hk⟩ := he
    cases hk
  case ret =>
    obtain ⟨σ, hs, hk⟩ := he
    exact key σ hs hk
end
end Go.Ra
