/- The evaluation is sound. -/
import Derived.Test.YtfobbfdbojednaaRaX
namespace Go.Ra
set_option linter.unusedVariables false
set_option linter.unusedSimpArgs false

structure TabOk (P : Program) (T : Tab) : Prop where
  codes : ∀ f r, T.codes f = some r → trF P T.q f = some r
  sp : ∀ f args nd v, T.sp f args = some (nd, v) → allT nd → Pure P f (cons args) (con v)
  sg : ∀ f args σ nd v τ, T.sg f args σ = some (nd, v, τ) → allT nd → T.q f = false → Ok P T.q f (cons args) σ.st (con v) τ.st

section
variable {P : Program} {T : Tab}
abbrev CiOk (P : Program) (q : Nat → Bool) (ci : Nat → List XV → XSt → (XV → XSt → Prop) → Prop) : Prop :=
  ∀ f args σ K, ci f args σ K → ∃ v τ, Ok P q f (cons args) σ.st (con v) τ.st ∧ K v τ

theorem wpOps_eff {C : Orc} {d : Option Nat} {o : AOp} {r : List AG} {s t : St} {v : AV} {K : St → Prop} (h : stepE o s = some (v, t)) (hK : wpOps C r (t.put d v) K) : wpOps C (⟨d, o, none⟩ :: r) s K := by
  unfold wpOps
  simp only
  split
  · simp [stepE] at h
  · simp [stepE] at h
  · rw [h]; exact hK

theorem args_con {e : AX → XV} {σ : St} (he : ∀ x, σ.ev x = con (e x)) : ∀ {l : List AX}, allT (theres e l) → l.map σ.ev = cons (l.map fun x => strip (e x))
  | [], h => rfl
  | x :: l, h => by
    simp only [theres, allT_app] at h
    simp only [List.map_cons, cons, he x, strip_con h.1, args_con he h.2]

variable {ci : Nat → List XV → XSt → (XV → XSt → Prop) → Prop}

theorem stepW_env {σ τ : XSt} {e : AX → XV} {o : AOp} {nd : List Bool} {v : XV} (h : stepW σ e o = some (nd, v, τ)) : τ = σ.back τ := by
  cases o <;> simp only [stepW, reduceCtorEq] at h
  case box x =>
    cases hc : (e x).stor <;> rw [hc] at h
    · cases h
    · simp only [cond_true, Option.some.injEq, Prod.mk.injEq] at h
      obtain ⟨_, _, rfl⟩ := h; rfl
  case store n x w =>
    repeat' split at h
    all_goals first | (cases h; done) | skip
    rename_i u _ _ _ _ _
    revert h
    generalize (Nat.beq _ n && _ && _) = c
    intro h
    cases c
    · cases h
    · simp only [cond_true, Option.some.injEq, Prod.mk.injEq] at h
      obtain ⟨_, _, rfl⟩ := h; rfl
  case mks es bytes zero len =>
    split at h
    · cases hc : Nat.blt 0 bytes <;> rw [hc] at h
      · cases h
      · simp only [cond_true, Option.some.injEq, Prod.mk.injEq] at h
        obtain ⟨_, _, rfl⟩ := h; rfl
    · cases h
  case app es bytes y x =>
    repeat' split at h
    all_goals first | (cases h; done) | skip
    all_goals
      revert h
      generalize (_ && Nat.blt 0 bytes) = c
      intro h
      cases c
      · cases h
      · simp only [cond_true, Option.some.injEq, Prod.mk.injEq] at h
        obtain ⟨_, _, rfl⟩ := h; rfl
  case copy es x y =>
    repeat' split at h
    all_goals first | (cases h; done) | skip
    revert h
    generalize (_ && _ && _ && _) = c
    intro h
    cases c
    · cases h
    · simp only [cond_true, Option.some.injEq, Prod.mk.injEq] at h
      obtain ⟨_, _, rfl⟩ := h; rfl

theorem exOne_ok (hci : CiOk P T.q ci) {d : Option Nat} {o : AOp} {σ : XSt} {K : XSt → Prop} (h : exOne T ci d o σ K) : ∃ σ', K σ' ∧ (∃ v τ, σ' = (σ.back τ).put d v) ∧ ∀ r Φ, wpOps (Ok P T.q) r σ'.st Φ → wpOps (Ok P T.q) (⟨d, o, none⟩ :: r) σ.st Φ := by
  unfold exOne at h
  split at h
  · rename_i c a b
    split at h
    · rename_i nd v hp
      rw [need_iff] at h
      exact ⟨_, h.2, ⟨v, σ, rfl⟩, fun r Φ hr => wpOps_eff (pickX_con (st_ev σ) hp h.1) (by rw [← put_st]; exact hr)⟩
    · cases h
  · rename_i f args
    rw [need_iff] at h
    obtain ⟨v, τ, h1, h2⟩ := hci _ _ _ _ h.2
    refine ⟨_, h2, ⟨v, τ, rfl⟩, fun r Φ hr => ?_⟩
    refine ⟨con v, τ.st, ?_, by rw [← back_st, ← put_st]; exact hr⟩
    rw [args_con (st_ev σ) h.1]
    exact h1
  · rename_i x args
    split at h
    · rename_i f caps hx
      cases hqf : T.q f <;> rw [hqf] at h
      · exact h.elim
      rw [cond_true, need_iff] at h
      simp only [theres, allT_app] at h
      obtain ⟨v, τ, h1, h2⟩ := hci _ _ _ _ h.2
      have hsame := Ok.quiet.1 _ _ _ _ _ h1 hqf
      refine ⟨_, h2, ⟨v, τ, rfl⟩, fun r Φ hr => ?_⟩
      have hx2 : σ.st.ev x = .clo f (cons caps) := by rw [st_ev, strip_con h.1.1, hx]; rfl
      unfold wpOps
      simp only [hx2]
      refine ⟨con v, τ.st, ?_, hsame, by rw [← back_st, ← put_st]; exact hr⟩
      rw [args_con (st_ev σ) h.1.2]
      rw [cons_map, List.map_append, ← cons_map, ← cons_map] at h1
      exact h1
    · cases h
  · have he : allT (theres σ.ev (opnds o)) → ∀ x ∈ opnds o, σ.st.ev x = con (strip (σ.ev x)) := fun ht x hx => by
      rw [st_ev]; exact theres_spec ht x hx
    split at h
    · rename_i nd v hs
      rw [need_iff, need_iff] at h
      exact ⟨_, h.2.2, ⟨v, σ, rfl⟩, fun r Φ hr => wpOps_eff (stepR_con (st_H σ) (he h.1) hs h.2.1) (by rw [← put_st]; exact hr)⟩
    · split at h
      · rename_i nd v τ hs
        rw [need_iff, need_iff] at h
        exact ⟨_, h.2.2, ⟨v, τ, by rw [← stepW_env hs]⟩, fun r Φ hr => wpOps_eff (stepW_con rfl (he h.1) hs h.2.1) (by rw [← put_st]; exact hr)⟩
      · cases h

theorem oneR_ok (hT : TabOk P T) {σ : XSt} {o : AOp} {nd : List Bool} {v : XV} {d : Option Nat} (h : oneR T σ.hl (evE σ.env) o = some (nd, v)) (hn : allT nd) {r : List AG} {Φ : St → Prop} (hr : wpOps (Ok P T.q) r (σ.put d v).st Φ) : wpOps (Ok P T.q) (⟨d, o, none⟩ :: r) σ.st Φ := by
  have hev : evE σ.env = σ.ev := by funext x; cases x <;> rfl
  rw [hev] at h
  rw [put_st] at hr
  unfold oneR at h
  split at h
  · exact wpOps_eff (pickX_con (st_ev σ) h hn) hr
  · rename_i f args
    cases hc : (T.q f && XV.idfs (args.map fun x => strip (σ.ev x))) <;> rw [hc] at h
    · cases h
    · rw [cond_true] at h
      split at h
      · rename_i nd' v' hs
        simp only [Option.some.injEq, Prod.mk.injEq] at h
        obtain ⟨rfl, rfl⟩ := h
        rw [allT_app] at hn
        simp only [Bool.and_eq_true] at hc
        have ha := args_con (st_ev σ) hn.1
        exact call_pure (by rw [ha]; exact hT.sp _ _ _ _ hs hn.2) (by rw [ha, cons_idf]; exact hc.2) hr
      · cases h
  · split at h
    · rename_i nd' v' hs
      simp only [Option.some.injEq, Prod.mk.injEq] at h
      obtain ⟨rfl, rfl⟩ := h
      rw [allT_app] at hn
      refine wpOps_eff (stepR_con (st_H σ) (fun x hx => ?_) hs hn.2) hr
      rw [st_ev]; exact theres_spec hn.1 x hx
    · cases h

theorem isD_iff {d : Option Nat} {t : Nat} : isD d t = true ↔ d = some t := by
  cases d with
  | none => simp [isD]
  | some d => simp only [isD, Option.some.injEq]; exact ⟨Nat.eq_of_beq_eq_true, fun e => by rw [e, Nat.beq_refl]⟩

theorem put_is {σ : XSt} {d : Option Nat} {v : XV} : σ.put d v = ⟨putE d v σ.env, σ.hl, σ.n⟩ := by cases d <;> rfl

theorem guard_run {C : Orc} {d : Option Nat} {o : AOp} {t : Nat} {b : Bool} {r : List AG} {s : St} {Φ : St → Prop} (hg : get s.env t = .sc (.bool b)) (h : wpOps C (⟨d, o, none⟩ :: r) s Φ) : wpOps C (⟨d, o, some (t, b)⟩ :: r) s Φ := by
  rw [wpOps_guard, hg]
  exact ⟨fun _ => h, fun e => absurd rfl e⟩
theorem guard_skip {C : Orc} {d : Option Nat} {o : AOp} {t : Nat} {b : Bool} {r : List AG} {s : St} {Φ : St → Prop} (hg : get s.env t = .sc (.bool (!b)) ∨ get s.env t = .tup []) (h : wpOps C r (s.put d (.tup [])) Φ) : wpOps C (⟨d, o, some (t, b)⟩ :: r) s Φ := by
  rw [wpOps_guard]
  rcases hg with hg | hg
  · rw [hg]
    refine ⟨fun e => ?_, fun _ => h⟩
    cases b <;> cases e
  · rw [hg]; exact h

theorem run_true (hT : TabOk P T) {t : Nat} {b : Bool} {H : List (Nat × Option XV)} {n : Nat} {r : List AG} {Φ : St → Prop} : ∀ (l : List (Option Nat × AOp)) (env env' : List (Nat × XV)) (nd : List Bool), runX T H l env = some (nd, env') → allT nd → okRun t l = true →
    get (conE env) t = .sc (.bool b) → wpOps (Ok P T.q) r (XSt.st ⟨env', H, n⟩) Φ → wpOps (Ok P T.q) (ungR t b l r) (XSt.st ⟨env, H, n⟩) Φ
  | [], env, env', nd, h, hn, hok, hg, hr => by
    simp only [runX, Option.some.injEq, Prod.mk.injEq] at h
    obtain ⟨_, rfl⟩ := h
    exact hr
  | (d, o) :: l, env, env', nd, h, hn, hok, hg, hr => by
    simp only [runX] at h
    split at h
    · rename_i nd1 v h1
      split at h
      · rename_i nd2 env2 h2
        simp only [Option.some.injEq, Prod.mk.injEq] at h
        obtain ⟨rfl, rfl⟩ := h
        rw [allT_app] at hn
        refine guard_run hg (oneR_ok (σ := ⟨env, H, n⟩) hT h1 hn.1 ?_)
        rw [put_is]
        cases l with
        | nil =>
          simp only [runX, Option.some.injEq, Prod.mk.injEq] at h2
          obtain ⟨_, rfl⟩ := h2
          exact hr
        | cons x l =>
          simp only [okRun, Bool.and_eq_true, Bool.not_eq_true'] at hok
          refine run_true hT (x :: l) (putE d v env) env2 nd2 h2 hn.2 hok.2 ?_ hr
          rw [get_conE] at hg ⊢
          cases d with
          | none => exact hg
          | some d =>
            have : ¬ t = d := fun e => by have := hok.1; rw [e] at this; simp [isD] at this
            show con (getX ((d, v) :: env) t) = _
            simp only [getX, beq_if, if_neg this]
            exact hg
      · cases h
    · cases h

theorem run_skip {C : Orc} {t : Nat} {b : Bool} {H : List (Nat × Option XV)} {n : Nat} {r : List AG} {Φ : St → Prop} : ∀ (l : List (Option Nat × AOp)) (env : List (Nat × XV)), (get (conE env) t = .sc (.bool (!b)) ∨ get (conE env) t = .tup []) →
    wpOps C r (XSt.st ⟨skips l env, H, n⟩) Φ → wpOps C (ungR t b l r) (XSt.st ⟨env, H, n⟩) Φ
  | [], env, hg, h => h
  | (d, o) :: l, env, hg, h => by
    refine guard_skip (s := XSt.st ⟨env, H, n⟩) hg ?_
    have : (XSt.st ⟨env, H, n⟩).put d (.tup []) = XSt.st ⟨putE d (.tup []) env, H, n⟩ := by cases d <;> rfl
    rw [this]
    refine run_skip l _ ?_ h
    cases d with
    | none => exact hg
    | some d =>
      show get (conE ((d, .tup []) :: env)) t = _ ∨ get (conE ((d, .tup []) :: env)) t = _
      rw [get_conE]
      simp only [getX, beq_if]
      split
      · exact .inr rfl
      · rw [← get_conE]; exact hg

theorem runX_keys {H : List (Nat × Option XV)} : ∀ (l : List (Option Nat × AOp)) (env env' : List (Nat × XV)) (nd : List Bool), runX T H l env = some (nd, env') → ∃ dl, env' = dl ++ env ∧ dl.length = cntR l ∧ conE (skips l env) = (dl.map fun p => (p.1, AV.tup [])) ++ conE env
  | [], env, env', nd, h => by
    simp only [runX, Option.some.injEq, Prod.mk.injEq] at h
    obtain ⟨_, rfl⟩ := h
    exact ⟨[], rfl, rfl, rfl⟩
  | (d, o) :: l, env, env', nd, h => by
    simp only [runX] at h
    split at h
    · rename_i nd1 v h1
      split at h
      · rename_i nd2 env2 h2
        simp only [Option.some.injEq, Prod.mk.injEq] at h
        obtain ⟨rfl, rfl⟩ := h
        obtain ⟨dl, h3, h4, h5⟩ := runX_keys l _ _ _ h2
        cases d with
        | none =>
          refine ⟨dl, h3, h4, ?_⟩
          -- the names are the same whatever the values
          exact h5
        | some d =>
          refine ⟨dl ++ [(d, v)], by rw [h3]; simp [putE], by simp [cntR, h4], ?_⟩
          show conE (skips l ((d, .tup []) :: env)) = _
          have key : ∀ (l : List (Option Nat × AOp)) (e1 e2 : List (Nat × XV)) (x : List (Nat × AV)), conE (skips l e1) = x ++ conE e1 → conE (skips l e2) = x ++ conE e2 := by
            intro l
            induction l with
            | nil =>
              intro e1 e2 x hx
              have : x = [] := by
                have := congrArg List.length hx
                simp only [skips, List.length_append] at this
                exact List.eq_nil_of_length_eq_zero (by omega)
              subst this; rfl
            | cons p l ih =>
              intro e1 e2 x hx
              obtain ⟨d', o'⟩ := p
              cases d' with
              | none => exact ih e1 e2 x hx
              | some d' =>
                -- peel the last name
                have hlen : ∀ (l : List (Option Nat × AOp)) (e : List (Nat × XV)), ∃ y, conE (skips l e) = y ++ conE e := by
                  intro l
                  induction l with
                  | nil => exact fun e => ⟨[], rfl⟩
                  | cons p l ih =>
                    intro e
                    obtain ⟨d'', o''⟩ := p
                    obtain ⟨y, hy⟩ := ih (putE d'' (.tup []) e)
                    cases d'' with
                    | none => exact ⟨y, hy⟩
                    | some d'' => exact ⟨y ++ [(d'', .tup [])], by show conE (skips l _) = _; rw [hy]; simp [putE, conE, con, cons]⟩
                obtain ⟨y, hy⟩ := hlen l ((d', .tup []) :: e1)
                have hx' : x = y ++ [(d', .tup [])] := by
                  have h6 : conE (skips l ((d', .tup []) :: e1)) = x ++ conE e1 := hx
                  rw [hy] at h6
                  have h7 : y ++ ((d', AV.tup []) :: conE e1) = x ++ conE e1 := h6
                  have h8 : (y ++ [(d', AV.tup [])]) ++ conE e1 = x ++ conE e1 := by simpa using h7
                  exact (List.append_cancel_right h8).symm
                have := ih _ ((d', .tup []) :: e2) y hy
                show conE (skips l ((d', .tup []) :: e2)) = _
                rw [this, hx']
                simp [conE, con, cons]
          have := key l _ ((d, .tup []) :: env) _ h5
          rw [this]
          simp [conE, con, cons]
      · cases h
    · cases h

theorem wrap_true : ∀ (k : Nat) (env : List (Nat × XV)), conE (wrap true k env) = conE env
  | 0, env => by cases env <;> rfl
  | k + 1, [] => rfl
  | k + 1, (i, v) :: l => by
    have := wrap_true k l
    simp only [conE] at this
    simp only [wrap, conE, List.map_cons, con, cond_true, this]
theorem wrap_false : ∀ (dl env : List (Nat × XV)), conE (wrap false dl.length (dl ++ env)) = (dl.map fun p => (p.1, AV.tup [])) ++ conE env
  | [], env => by cases env <;> rfl
  | (i, v) :: l, env => by
    have := wrap_false l env
    simp only [conE] at this
    simp only [List.cons_append, List.length_cons, wrap, conE, List.map_cons, con, cond_false, this]

theorem exRun_ok (hci : CiOk P T.q ci) {t : Nat} {b : Bool} : ∀ (l : List (Option Nat × AOp)) (σ : XSt) (K : XSt → Prop), exRun T ci l σ K → okRun t l = true → get (conE σ.env) t = .sc (.bool b) → ∃ σ', K σ' ∧ ∀ r Φ, wpOps (Ok P T.q) r σ'.st Φ → wpOps (Ok P T.q) (ungR t b l r) σ.st Φ
  | [], σ, K, h, hok, hg => ⟨σ, h, fun r Φ hr => hr⟩
  | (d, o) :: l, σ, K, h, hok, hg => by
    simp only [exRun] at h
    obtain ⟨σ1, h1, ⟨v, τ, h2⟩, h3⟩ := exOne_ok hci h
    cases l with
    | nil => exact ⟨σ1, h1, fun r Φ hr => guard_run hg (h3 r Φ hr)⟩
    | cons x l =>
      simp only [okRun, Bool.and_eq_true, Bool.not_eq_true'] at hok
      obtain ⟨σ', h4, h5⟩ := exRun_ok hci (x :: l) σ1 K h1 hok.2 (by
        rw [h2, put_is, get_conE] at *
        cases d with
        | none => exact hg
        | some d =>
          have : ¬ t = d := fun e => by have := hok.1; rw [e] at this; simp [isD] at this
          show con (getX ((d, v) :: σ.env) t) = _
          simp only [getX, beq_if, if_neg this]
          exact hg)
      exact ⟨σ', h4, fun r Φ hr => guard_run hg (h3 _ Φ (h5 r Φ hr))⟩

theorem guardX_true {v : XV} {b : Bool} (h : guardX v b = some true) : con v = .sc (.bool b) := by
  unfold guardX at h
  split at h <;> simp only [Option.some.injEq, reduceCtorEq] at h
  · rename_i c
    cases b <;> cases c <;> first | rfl | cases h
  · rename_i g c
    cases g <;> cases b <;> cases c <;> first | rfl | cases h
theorem guardX_false {v : XV} {b : Bool} (h : guardX v b = some false) : con v = .sc (.bool (!b)) ∨ con v = .tup [] := by
  unfold guardX at h
  split at h <;> simp only [Option.some.injEq, reduceCtorEq] at h
  · rename_i c
    cases b <;> cases c <;> first | exact .inl rfl | cases h
  · rename_i g c
    cases g <;> cases b <;> cases c <;> first | exact .inl rfl | exact .inr rfl | cases h
  · exact .inr rfl

theorem exO_ok (hT : TabOk P T) (hci : CiOk P T.q ci) : ∀ (gs : List XG) (σ : XSt) (K : XSt → Prop), exO T ci gs σ K → okG gs = true → ∃ σ', K σ' ∧ ∀ Φ, Φ σ'.st → wpOps (Ok P T.q) (ung gs) σ.st Φ
  | [], σ, K, h, hok => ⟨σ, h, fun Φ hr => hr⟩
  | .one d o :: r, σ, K, h, hok => by
    simp only [exO] at h
    obtain ⟨σ1, h1, _, h3⟩ := exOne_ok hci h
    obtain ⟨σ', h4, h5⟩ := exO_ok hT hci r σ1 K h1 (by simpa [okG] using hok)
    exact ⟨σ', h4, fun Φ hr => h3 _ Φ (h5 Φ hr)⟩
  | .run t b l :: r, σ, K, h, hok => by
    simp only [okG, Bool.and_eq_true] at hok
    simp only [exO] at h
    split at h
    · rename_i g hg
      have hgt : get (conE σ.env) t = con (getX σ.env t) := get_conE _ _
      split at h
      · rename_i nd env hx
        rw [needG_iff] at h
        obtain ⟨σ', h4, h5⟩ := exO_ok hT hci r _ K h.2 hok.2
        refine ⟨σ', h4, fun Φ hr => ?_⟩
        have h6 := h5 Φ hr
        cases g with
        | true =>
          refine run_true (σ.hl |> fun _ => hT) l σ.env env nd hx (h.1 rfl) hok.1 (by rw [hgt, guardX_true hg]) ?_
          have : XSt.st ⟨wrap true (cntR l) env, σ.hl, σ.n⟩ = XSt.st ⟨env, σ.hl, σ.n⟩ := by simp only [XSt.st, wrap_true]
          rw [this] at h6
          exact h6
        | false =>
          refine run_skip l σ.env (by rw [hgt]; exact guardX_false hg) ?_
          obtain ⟨dl, e1, e2, e3⟩ := runX_keys l _ _ _ hx
          have : XSt.st ⟨wrap false (cntR l) env, σ.hl, σ.n⟩ = XSt.st ⟨skips l σ.env, σ.hl, σ.n⟩ := by
            simp only [XSt.st]
            rw [e3, ← e2, e1, wrap_false]
          rw [this] at h6
          exact h6
      · cases g with
        | true =>
          simp only [cond_true] at h
          obtain ⟨σ1, h1, h2⟩ := exRun_ok hci l σ _ h hok.1 (by rw [hgt, guardX_true hg])
          obtain ⟨σ', h4, h5⟩ := exO_ok hT hci r σ1 K h1 hok.2
          exact ⟨σ', h4, fun Φ hr => h2 _ Φ (h5 Φ hr)⟩
        | false =>
          simp only [cond_false] at h
          obtain ⟨σ', h4, h5⟩ := exO_ok hT hci r _ K h hok.2
          exact ⟨σ', h4, fun Φ hr => run_skip l σ.env (by rw [hgt]; exact guardX_false hg) (h5 Φ hr)⟩
    · cases h

theorem Weak.refl (σ : St) : Weak σ σ := ⟨fun _ => .inr (.inl rfl), fun _ => .inr rfl, Nat.le_refl _⟩

theorem iterX_ok {c : AC} {g : XSt → (AE → XSt → Prop) → Prop} (hg : ∀ σ K, g σ K → ∃ e σ', K e σ' ∧ ∀ Φ, Φ e σ'.st → wpC (Ok P T.q) c σ.st Φ) : ∀ (n : Nat) (σ : XSt) (K : AE → XSt → Prop), iterX n g σ K →
    ∃ (S : Nat → XSt) (m : Nat) (e : AE) (σ' : XSt), S 0 = σ ∧ K e σ' ∧ (∀ i, i < m → ∀ Φ, Φ .normal (S (i + 1)).st → wpC (Ok P T.q) c (S i).st Φ) ∧ (∀ Φ, Φ e σ'.st → wpC (Ok P T.q) c (S m).st Φ) ∧ e ≠ .normal
  | 0, σ, K, h => h.elim
  | n + 1, σ, K, h => by
    simp only [iterX] at h
    obtain ⟨e, σ1, h1, h2⟩ := hg _ _ h
    cases e with
    | normal =>
      obtain ⟨S, m, e, σ', g1, g2, g3, g4, g5⟩ := iterX_ok hg n σ1 K h1
      refine ⟨fun i => match i with | 0 => σ | i + 1 => S i, m + 1, e, σ', rfl, g2, fun i hi Φ hr => ?_, g4, g5⟩
      cases i with
      | zero => exact h2 Φ (by rw [← g1]; exact hr)
      | succ i => exact g3 i (by omega) Φ hr
    | exit id => exact ⟨fun _ => σ, 0, _, σ1, rfl, h1, fun i hi => by omega, h2, by simp⟩
    | ret => exact ⟨fun _ => σ, 0, _, σ1, rfl, h1, fun i hi => by omega, h2, by simp⟩

theorem exC_ok (hT : TabOk P T) (hci : CiOk P T.q ci) {u : Nat} : ∀ (c : AC) (σ : XSt) (K : AE → XSt → Prop), exC T ci u c σ K → ∃ e σ', K e σ' ∧ ∀ Φ, Φ e σ'.st → wpC (Ok P T.q) c σ.st Φ
  | .skip, σ, K, h => ⟨_, _, h, fun Φ hr => hr⟩
  | .ops l, σ, K, h => by
    simp only [exC] at h
    obtain ⟨h1, h2⟩ := grp_ung l
    obtain ⟨σ', h3, h4⟩ := exO_ok hT hci (grp l) σ _ h h2
    rw [h1] at h4
    exact ⟨.normal, σ', h3, fun Φ hr => h4 (Φ .normal) hr⟩
  | .seq a b, σ, K, h => by
    simp only [exC] at h
    obtain ⟨e, σ1, h1, h2⟩ := exC_ok hT hci a σ _ h
    cases e with
    | normal =>
      obtain ⟨e, σ', h3, h4⟩ := exC_ok hT hci b σ1 K h1
      exact ⟨e, σ', h3, fun Φ hr => h2 _ (h4 Φ hr)⟩
    | exit id => exact ⟨_, σ1, h1, fun Φ hr => h2 _ hr⟩
    | ret => exact ⟨_, σ1, h1, fun Φ hr => h2 _ hr⟩
  | .cond c x y, σ, K, h => by
    simp only [exC] at h
    split at h
    · rename_i b hb
      rw [need_iff] at h
      have hc : σ.st.ev c = .sc (.bool b) := by rw [st_ev, strip_con h.1, hb]; rfl
      cases b with
      | true =>
        obtain ⟨e, σ', h1, h2⟩ := exC_ok hT hci x σ K h.2
        refine ⟨e, σ', h1, fun Φ hr => ?_⟩
        unfold wpC
        rw [hc]
        exact ⟨fun _ => h2 Φ hr, fun e => by cases e⟩
      | false =>
        obtain ⟨e, σ', h1, h2⟩ := exC_ok hT hci y σ K h.2
        refine ⟨e, σ', h1, fun Φ hr => ?_⟩
        unfold wpC
        rw [hc]
        exact ⟨fun e => by (cases e), fun _ => h2 Φ hr⟩
    · cases h
  | .block id c, σ, K, h => by
    simp only [exC] at h
    obtain ⟨e, σ1, h1, h2⟩ := exC_ok hT hci c σ _ h
    cases e with
    | normal => exact ⟨_, σ1, h1, fun Φ hr => h2 (AE.inBlock id Φ) hr⟩
    | exit i =>
      cases hi : Nat.beq i id <;> simp only [hi, cond_true, cond_false] at h1
      · exact ⟨_, σ1, h1, fun Φ hr => h2 (AE.inBlock id Φ) (by simp only [AE.inBlock]; rw [if_neg (Nat.ne_of_beq_eq_false hi)]; exact hr)⟩
      · exact ⟨_, σ1, h1, fun Φ hr => h2 (AE.inBlock id Φ) (by simp only [AE.inBlock]; rw [if_pos (Nat.eq_of_beq_eq_true hi)]; exact hr)⟩
    | ret => exact ⟨_, σ1, h1, fun Φ hr => h2 (AE.inBlock id Φ) hr⟩
  | .loop c, σ, K, h => by
    simp only [exC] at h
    obtain ⟨S, m, e, σ', g1, g2, g3, g4, g5⟩ := iterX_ok (c := c) (fun σ K h => exC_ok hT hci c σ K h) u σ K h
    refine ⟨e, σ', g2, fun Φ hr => ?_⟩
    refine wpC_for (fun i => (S i).st) (fun i => i ≤ m) (fun i => m - i) 0 (Nat.zero_le _) (by rw [g1]; exact Weak.refl _) fun i hi => ?_
    by_cases him : i = m
    · subst him
      refine g4 _ ?_
      cases e with
      | normal => exact absurd rfl g5
      | exit id => exact hr
      | ret => exact hr
    · exact g3 i (by omega) _ ⟨i + 1, by omega, Weak.refl _, by omega⟩
  | .exit id, σ, K, h => ⟨_, _, h, fun Φ hr => hr⟩
  | .ret, σ, K, h => ⟨_, _, h, fun Φ hr => hr⟩

theorem envX_con : ∀ (k : Nat) (args : List XV), conE (envX k args) = envOf k (cons args)
  | k, [] => rfl
  | k, v :: r => by
    have := envX_con (k + 1) r
    simp only [conE] at this
    simp only [envX, conE, List.map_cons, cons, envOf, this]

theorem cons_len (l : List XV) : (cons l).length = l.length := by simp [cons_map]

theorem resXs_con {σ : XSt} : ∀ {rs : List AR} {nd : List Bool} {vs : List XV}, resXs σ rs = some (nd, vs) → allT nd → resA σ.st rs = some (cons vs)
  | [], nd, vs, h, hn => by
    simp only [resXs, Option.some.injEq, Prod.mk.injEq] at h
    obtain ⟨_, rfl⟩ := h; rfl
  | r :: rs, nd, vs, h, hn => by
    simp only [resXs] at h
    split at h
    · rename_i nd1 v nd2 vs' h1 h2
      simp only [Option.some.injEq, Prod.mk.injEq] at h
      obtain ⟨rfl, rfl⟩ := h
      rw [allT_app] at hn
      have h3 : resV σ.st r = some (con v) := by
        cases r with
        | tmp t =>
          simp only [resX, Option.some.injEq, Prod.mk.injEq] at h1
          obtain ⟨_, rfl⟩ := h1
          simp only [resV]
          exact congrArg some (get_conE _ _)
        | cell t ag n =>
          simp only [resX] at h1
          split at h1
          · rename_i nd' u hl
            cases hc : (u.isAgg == ag && Nat.beq u.size n) <;> rw [hc] at h1
            · cases h1
            · simp only [cond_true, Option.some.injEq, Prod.mk.injEq] at h1
              obtain ⟨rfl, rfl⟩ := h1
              simp only [Bool.and_eq_true, beq_iff_eq] at hc
              have h4 := loadX_con (st_H σ) hl hn.1
              rw [← get_conE] at h4
              simp only [resV]
              show (match σ.st.loadA (get (conE σ.env) t) with | some u => _ | none => _) = _
              rw [h4]
              simp only [con_isAgg, con_size]
              rw [if_pos ⟨hc.1, Nat.eq_of_beq_eq_true hc.2⟩]
          · cases h1
      simp only [resA, h3, resXs_con h2 hn.2, cons]
    · cases h

theorem tupX_con : ∀ vs : List XV, tupV (cons vs) = con (tupX vs)
  | [] => rfl
  | [v] => rfl
  | v :: w :: r => rfl

theorem retX_ok {rs : List AR} {K : XV → XSt → Prop} {e : AE} {σ : XSt} (h : retX rs K e σ) : ∃ v, K v σ ∧ ∀ Φ : AV → St → Prop, Φ (con v) σ.st → retP rs Φ e σ.st := by
  have key : (match resXs σ rs with | some (nd, vs) => need nd (K (tupX vs) σ) | none => False) → ∃ v, K v σ ∧ ∀ Φ : AV → St → Prop, Φ (con v) σ.st → (match resA σ.st rs with | some vs => Φ (tupV vs) σ.st | none => False) := by
    intro h
    split at h
    · rename_i nd vs hv
      rw [need_iff] at h
      refine ⟨_, h.2, fun Φ hr => ?_⟩
      rw [resXs_con hv h.1]
      simp only [tupX_con]
      exact hr
    · cases h
  cases e with
  | normal => exact key h
  | exit i => exact h.elim
  | ret => exact key h

theorem quietGo_ok (hmix : P.follows .mixedOrders = true) (hT : TabOk P T) (hci : CiOk P T.q ci) {u f : Nat} {args : List XV} {K : XV → Prop} (h : quietGo T u ci f args K) : ∃ v, Pure P f (cons args) (con v) ∧ K v := by
  unfold quietGo at h
  split at h
  · rename_i nd v hs
    rw [need_iff] at h
    exact ⟨v, hT.sp _ _ _ _ hs h.1, h.2⟩
  · split at h
    · rename_i nt rs c hc
      cases hl : Nat.ble args.length nt <;> rw [hl] at h
      · exact h.elim
      · rw [cond_true] at h
        obtain ⟨e, σ', h1, h2⟩ := exC_ok hT hci c _ _ h
        obtain ⟨v, h3, h4⟩ := retX_ok h1
        unfold frzK at h3
        split at h3
        · rename_i nd r hz
          rw [need_iff] at h3
          refine ⟨r, ?_, h3.2⟩
          have hw := h2 _ (h4 (fun v τ => frz τ 6 v = some (con r)) (frzX_con (st_H σ') 6 v nd r hz h3.1))
          refine pure_of (k := 6) hmix Ok.ok Ok.quiet (hT.codes _ _ hc) (by rw [cons_len]; exact Nat.le_of_ble_eq_true hl) ?_
          simpa [XSt.st, envX_con, conH] using hw
        · cases h3
    · cases h

theorem callI_ok (hmix : P.follows .mixedOrders = true) (hT : TabOk P T) {u : Nat} : ∀ k : Nat, CiOk P T.q (callI T u k)
  | 0 => fun f args σ K h => h.elim
  | k + 1 => fun f args σ K h => by
    have ih := callI_ok hmix hT (u := u) k
    simp only [callI] at h
    cases hq : T.q f <;> rw [hq] at h
    · rw [cond_false] at h
      split at h
      · rename_i nd v τ hs
        rw [need_iff] at h
        exact ⟨v, τ, hT.sg _ _ _ _ _ _ hs h.1 hq, h.2⟩
      · split at h
        · rename_i nt rs c hc
          cases hl' : (Nat.ble args.length nt && !T.q (f + 1000000)) <;> rw [hl'] at h
          · exact h.elim
          · rw [cond_true] at h
            simp only [Bool.and_eq_true, Bool.not_eq_true'] at hl'
            obtain ⟨hl, hal⟩ := hl'
            obtain ⟨e, σ', h1, h2⟩ := exC_ok hT ih c _ _ h
            obtain ⟨v, h3, h4⟩ := retX_ok h1
            refine ⟨v, σ', .inr (.inr (.inl ⟨hq, hal, trF_known (hT.codes _ _ hc), fun fr G w vs hown hr => ?_⟩)), h3⟩
            have hw := h2 _ (h4 (fun v' τ => v' = con v ∧ τ = σ'.st) ⟨rfl, rfl⟩)
            have hw' : wpC (Ok P T.q) c ⟨envOf 0 (cons args), conH σ.hl, fun _ => none, σ.n⟩ (retP rs fun v' τ => v' = con v ∧ τ = σ'.st) := by
              simpa [XSt.st, envX_con] using hw
            refine (enter hmix Ok.ok Ok.quiet (hT.codes _ _ hc) (by rw [cons_len]; exact Nat.le_of_ble_eq_true hl) hown hr hw').mono fun e w' ⟨u', G', v', τ, g1, g2, g3, g4, g5⟩ => ?_
            subst g4 g5
            exact ⟨u', G', g1, g2, g3⟩
        · cases h
    · rw [cond_true] at h
      cases hi : XV.idfs args <;> rw [hi] at h
      · rw [cond_false] at h
        split at h
        · rename_i nd args' hm
          rw [need_iff] at h
          obtain ⟨v, h1, h2⟩ := quietGo_ok hmix hT ih h.2
          cases hsol : v.sol <;> rw [hsol] at h2
          · exact h2.elim
          · exact ⟨v, σ, .inr (.inl ⟨rfl, con_sol v hsol, 6, cons args', mapX_con (frzX_con (st_H σ) 6) hm h.1, h1⟩), h2⟩
        · cases h
      · rw [cond_true] at h
        obtain ⟨v, h1, h2⟩ := quietGo_ok hmix hT ih h
        exact ⟨v, σ, .inl ⟨rfl, by rw [cons_idf]; exact hi, h1⟩, h2⟩

/-- A function that leaves memory alone, gone through. -/
theorem pureX (hmix : P.follows .mixedOrders = true) (hT : TabOk P T) {u k f : Nat} {args : List XV} {r : AV} (h : quietGo T u (callI T u k) f args fun v => con v = r) : Pure P f (cons args) r := by
  obtain ⟨v, h1, h2⟩ := quietGo_ok hmix hT (callI_ok hmix hT k) h
  rw [← h2]; exact h1

/-- Code that is part of a function, gone through. -/
theorem codeX (hmix : P.follows .mixedOrders = true) (hT : TabOk P T) {u k : Nat} {c : AC} {σ : XSt} {Φ : AE → St → Prop} (h : exC T (callI T u k) u c σ fun e σ' => Φ e σ'.st) : wpC (Ok P T.q) c σ.st Φ := by
  obtain ⟨e, σ', h1, h2⟩ := exC_ok hT (callI_ok hmix hT k) c _ _ h
  exact h2 Φ h1
end
end Go.Ra
