/- Texts put together. -/
import Derived.KernelRfl
import GoSem.ClaimJoined
import Derived.ProofKit
import Derived.OpenShut
import Derived.WideShapes
import Derived.Carry
import Derived.ChangeOld
import Derived.SizedLaws
import Derived.Test.YtmfbaglhmiadjaaProg
import Derived.Test.YtmfbaglhmiadjaaPk2
/- The evaluation is sound. -/
namespace Go.Ra
set_option linter.unusedVariables false
set_option linter.unusedSimpArgs false

structure TabOk (P : Program) (T : Tab) : Prop where
  codes : ∀ f r, T.codes f = some r → trF P T.q f = some r
  sp : ∀ f args nd v, T.sp f args = some (nd, v) → allT nd → Pure P f (cons args) (con v)
  sg : ∀ f args σ nd v τ, T.sg f args σ = some (nd, v, τ) → allT nd → T.q f = false → Ok P T.q f (cons args) σ.st (con v) τ.st
  sk : ∀ f args W, T.sk f args = some W → ∀ K : XV → Prop, W K → ∃ v, Pure P f (cons args) (con v) ∧ K v
  gk : ∀ f args σ W, T.gk f args σ = some W → T.q f = false → ∀ K : XV → XSt → Prop, W K → ∃ v τ, Ok P T.q f (cons args) σ.st (con v) τ.st ∧ K v τ

section
variable {P : Program} {T : Tab}
abbrev CiOk (P : Program) (q : Nat → Bool) (ci : Nat → List XV → XSt → (XV → XSt → Prop) → Prop) : Prop :=
  ∀ f args σ K, ci f args σ K → ∃ v τ, Ok P q f (cons args) σ.st (con v) τ.st ∧ K v τ

theorem wpOps_eff {C : Orc} {d : Option Nat} {o : AOp} {r : List AG} {s t : St} {v : AV} {K : St → Prop} (h : stepE o s = some (v, t)) (hK : wpOps C r (t.put d v) K) : wpOps C (⟨d, o, none⟩ :: r) s K := by
  unfold wpOps
  simp only
  split
  · simp [stepE] at h
  · simp [stepE] at h
  · simp [stepE] at h
  · rw [h]; exact hK

theorem args_con {e : AX → XV} {σ : St} (he : ∀ x, σ.ev x = con (e x)) : ∀ {l : List AX}, allT (theres e l) → l.map σ.ev = cons (l.map fun x => strip (e x))
  | [], h => rfl
  | x :: l, h => by
    simp only [theres, allT_app] at h
    simp only [List.map_cons, cons, he x, strip_con h.1, args_con he h.2]

variable {ci : Nat → List XV → XSt → (XV → XSt → Prop) → Prop}

theorem stepW_env {σ τ : XSt} {e : AX → XV} {o : AOp} {nd : List Bool} {v : XV} (h : stepW σ e o = some (nd, v, τ)) : τ = σ.back τ := by
  cases o <;> simp only [stepW, reduceCtorEq] at h
  case box x =>
    cases hc : (e x).stor <;> rw [hc] at h
    · cases h
    · simp only [cond_true, Option.some.injEq, Prod.mk.injEq] at h
      obtain ⟨_, _, rfl⟩ := h; rfl
  case store n x w =>
    repeat' split at h
    all_goals first | (cases h; done) | skip
    rename_i u _ _ _ _ _
    revert h
    generalize (Nat.beq _ n && _ && _) = c
    intro h
    cases c
    · cases h
    · simp only [cond_true, Option.some.injEq, Prod.mk.injEq] at h
      obtain ⟨_, _, rfl⟩ := h; rfl
  case mks es bytes zero len =>
    split at h
    · cases hc : Nat.blt 0 bytes <;> rw [hc] at h
      · cases h
      · simp only [cond_true, Option.some.injEq, Prod.mk.injEq] at h
        obtain ⟨_, _, rfl⟩ := h; rfl
    · cases h
  case app es bytes y x =>
    repeat' split at h
    all_goals first | (cases h; done) | skip
    all_goals
      revert h
      generalize (_ && Nat.blt 0 bytes) = c
      intro h
      cases c
      · cases h
      · simp only [cond_true, Option.some.injEq, Prod.mk.injEq] at h
        obtain ⟨_, _, rfl⟩ := h; rfl
  case copy es x y =>
    repeat' split at h
    all_goals first | (cases h; done) | skip
    revert h
    generalize (_ && _ && _ && _) = c
    intro h
    cases c
    · cases h
    · simp only [cond_true, Option.some.injEq, Prod.mk.injEq] at h
      obtain ⟨_, _, rfl⟩ := h; rfl

theorem exOne_ok (hT : TabOk P T) (hci : CiOk P T.q ci) {d : Option Nat} {o : AOp} {σ : XSt} {K : XSt → Prop} (h : exOne T ci d o σ K) : ∃ σ', K σ' ∧ (∃ v τ, σ' = (σ.back τ).put d v) ∧ ∀ r Φ, wpOps (Ok P T.q) r σ'.st Φ → wpOps (Ok P T.q) (⟨d, o, none⟩ :: r) σ.st Φ := by
  unfold exOne at h
  split at h
  · rename_i c a b
    split at h
    · rename_i nd v hp
      rw [need_iff] at h
      exact ⟨_, h.2, ⟨v, σ, rfl⟩, fun r Φ hr => wpOps_eff (pickX_con (st_ev σ) hp h.1) (by rw [← put_st]; exact hr)⟩
    · cases h
  · rename_i f args
    rw [need_iff] at h
    obtain ⟨v, τ, h1, h2⟩ := hci _ _ _ _ h.2
    refine ⟨_, h2, ⟨v, τ, rfl⟩, fun r Φ hr => ?_⟩
    refine ⟨con v, τ.st, ?_, by rw [← back_st, ← put_st]; exact hr⟩
    rw [args_con (st_ev σ) h.1]
    exact h1
  · rename_i x args
    split at h
    · rename_i f caps hx
      cases hqf : T.q f <;> rw [hqf] at h
      · exact h.elim
      rw [cond_true, need_iff] at h
      simp only [theres, allT_app] at h
      obtain ⟨v, τ, h1, h2⟩ := hci _ _ _ _ h.2
      have hsame := Ok.quiet.1 _ _ _ _ _ h1 hqf
      refine ⟨_, h2, ⟨v, τ, rfl⟩, fun r Φ hr => ?_⟩
      have hx2 : σ.st.ev x = .clo f (cons caps) := by rw [st_ev, strip_con h.1.1, hx]; rfl
      unfold wpOps
      simp only [hx2]
      refine ⟨con v, τ.st, ?_, hsame, by rw [← back_st, ← put_st]; exact hr⟩
      rw [args_con (st_ev σ) h.1.2]
      rw [cons_map, List.map_append, ← cons_map, ← cons_map] at h1
      exact h1
    · cases h
  · rename_i f args
    cases hid : XV.idfs (args.map fun x => strip (σ.ev x)) <;> rw [hid] at h
    · exact h.elim
    rw [cond_true, need_iff] at h
    obtain ⟨ht, h⟩ := h
    have key : ∀ v, Pure P f (cons (args.map fun x => strip (σ.ev x))) (con v) → K (σ.put d v) → ∃ σ', K σ' ∧ (∃ v τ, σ' = (σ.back τ).put d v) ∧ ∀ r Φ, wpOps (Ok P T.q) r σ'.st Φ → wpOps (Ok P T.q) (⟨d, .callq f args, none⟩ :: r) σ.st Φ := fun v hp hk => by
      refine ⟨_, hk, ⟨v, σ, rfl⟩, fun r Φ hr => ⟨con v, fun σ' => ?_, by rw [← put_st]; exact hr⟩⟩
      rw [args_con (st_ev σ) ht]
      exact .inl ⟨rfl, by rw [cons_idf]; exact hid, hp⟩
    split at h
    · rename_i nd v hs
      rw [need_iff] at h
      exact key v (hT.sp _ _ _ _ hs h.1) h.2
    · split at h
      · rename_i W hs
        obtain ⟨v, h1, h2⟩ := hT.sk _ _ _ hs _ h
        exact key v h1 h2
      · exact h.elim
  · have he : allT (theres σ.ev (opnds o)) → ∀ x ∈ opnds o, σ.st.ev x = con (strip (σ.ev x)) := fun ht x hx => by
      rw [st_ev]; exact theres_spec ht x hx
    split at h
    · rename_i nd v hs
      rw [need_iff, need_iff] at h
      exact ⟨_, h.2.2, ⟨v, σ, rfl⟩, fun r Φ hr => wpOps_eff (stepR_con (st_H σ) (he h.1) hs h.2.1) (by rw [← put_st]; exact hr)⟩
    · split at h
      · rename_i nd v τ hs
        rw [need_iff, need_iff] at h
        exact ⟨_, h.2.2, ⟨v, τ, by rw [← stepW_env hs]⟩, fun r Φ hr => wpOps_eff (stepW_con rfl (he h.1) hs h.2.1) (by rw [← put_st]; exact hr)⟩
      · cases h

theorem oneR_ok (hT : TabOk P T) {σ : XSt} {o : AOp} {nd : List Bool} {v : XV} {d : Option Nat} (h : oneR T σ.hl (evE σ.env) o = some (nd, v)) (hn : allT nd) {r : List AG} {Φ : St → Prop} (hr : wpOps (Ok P T.q) r (σ.put d v).st Φ) : wpOps (Ok P T.q) (⟨d, o, none⟩ :: r) σ.st Φ := by
  have hev : evE σ.env = σ.ev := by funext x; cases x <;> rfl
  rw [hev] at h
  rw [put_st] at hr
  unfold oneR at h
  split at h
  · exact wpOps_eff (pickX_con (st_ev σ) h hn) hr
  · rename_i f args
    cases hc : (T.q f && XV.idfs (args.map fun x => strip (σ.ev x))) <;> rw [hc] at h
    · cases h
    · rw [cond_true] at h
      split at h
      · rename_i nd' v' hs
        simp only [Option.some.injEq, Prod.mk.injEq] at h
        obtain ⟨rfl, rfl⟩ := h
        rw [allT_app] at hn
        simp only [Bool.and_eq_true] at hc
        have ha := args_con (st_ev σ) hn.1
        exact call_pure (by rw [ha]; exact hT.sp _ _ _ _ hs hn.2) (by rw [ha, cons_idf]; exact hc.2) hr
      · cases h
  · split at h
    · rename_i nd' v' hs
      simp only [Option.some.injEq, Prod.mk.injEq] at h
      obtain ⟨rfl, rfl⟩ := h
      rw [allT_app] at hn
      refine wpOps_eff (stepR_con (st_H σ) (fun x hx => ?_) hs hn.2) hr
      rw [st_ev]; exact theres_spec hn.1 x hx
    · cases h

theorem put_is {σ : XSt} {d : Option Nat} {v : XV} : σ.put d v = ⟨putE d v σ.env, σ.hl, σ.n⟩ := by cases d <;> rfl

theorem guard_run {C : Orc} {d : Option Nat} {o : AOp} {t : Nat} {b : Bool} {r : List AG} {s : St} {Φ : St → Prop} (hg : get s.env t = .sc (.bool b)) (h : wpOps C (⟨d, o, none⟩ :: r) s Φ) : wpOps C (⟨d, o, some (t, b)⟩ :: r) s Φ := by
  rw [wpOps_guard, hg]
  exact ⟨fun _ => h, fun e => absurd rfl e⟩
theorem guard_skip {C : Orc} {d : Option Nat} {o : AOp} {t : Nat} {b : Bool} {r : List AG} {s : St} {Φ : St → Prop} (hg : get s.env t = .sc (.bool (!b)) ∨ get s.env t = .tup []) (h : wpOps C r (s.put d (.tup [])) Φ) : wpOps C (⟨d, o, some (t, b)⟩ :: r) s Φ := by
  rw [wpOps_guard]
  rcases hg with hg | hg
  · rw [hg]
    refine ⟨fun e => ?_, fun _ => h⟩
    cases b <;> cases e
  · rw [hg]; exact h

theorem run_true (hT : TabOk P T) {t : Nat} {b : Bool} {H : List (Nat × Option XV)} {n : Nat} {r : List AG} {Φ : St → Prop} : ∀ (l : List (Option Nat × AOp)) (env env' : List (Nat × XV)) (nd : List Bool), runX T H l env = some (nd, env') → allT nd → okRun t l = true →
    get (conE env) t = .sc (.bool b) → wpOps (Ok P T.q) r (XSt.st ⟨env', H, n⟩) Φ → wpOps (Ok P T.q) (ungR t b l r) (XSt.st ⟨env, H, n⟩) Φ
  | [], env, env', nd, h, hn, hok, hg, hr => by
    simp only [runX, Option.some.injEq, Prod.mk.injEq] at h
    obtain ⟨_, rfl⟩ := h
    exact hr
  | (d, o) :: l, env, env', nd, h, hn, hok, hg, hr => by
    simp only [runX] at h
    split at h
    · rename_i nd1 v h1
      split at h
      · rename_i nd2 env2 h2
        simp only [Option.some.injEq, Prod.mk.injEq] at h
        obtain ⟨rfl, rfl⟩ := h
        rw [allT_app] at hn
        refine guard_run hg (oneR_ok (σ := ⟨env, H, n⟩) hT h1 hn.1 ?_)
        rw [put_is]
        cases l with
        | nil =>
          simp only [runX, Option.some.injEq, Prod.mk.injEq] at h2
          obtain ⟨_, rfl⟩ := h2
          exact hr
        | cons x l =>
          simp only [okRun, Bool.and_eq_true, Bool.not_eq_true'] at hok
          refine run_true hT (x :: l) (putE d v env) env2 nd2 h2 hn.2 hok.2 ?_ hr
          rw [get_conE] at hg ⊢
          cases d with
          | none => exact hg
          | some d =>
            have : ¬ t = d := fun e => by have := hok.1; rw [e] at this; simp [isD] at this
            show con (getX ((d, v) :: env) t) = _
            simp only [getX, beq_if, if_neg this]
            exact hg
      · cases h
    · cases h

theorem run_skip {C : Orc} {t : Nat} {b : Bool} {H : List (Nat × Option XV)} {n : Nat} {r : List AG} {Φ : St → Prop} : ∀ (l : List (Option Nat × AOp)) (env : List (Nat × XV)), (get (conE env) t = .sc (.bool (!b)) ∨ get (conE env) t = .tup []) →
    wpOps C r (XSt.st ⟨skips l env, H, n⟩) Φ → wpOps C (ungR t b l r) (XSt.st ⟨env, H, n⟩) Φ
  | [], env, hg, h => h
  | (d, o) :: l, env, hg, h => by
    refine guard_skip (s := XSt.st ⟨env, H, n⟩) hg ?_
    have : (XSt.st ⟨env, H, n⟩).put d (.tup []) = XSt.st ⟨putE d (.tup []) env, H, n⟩ := by cases d <;> rfl
    rw [this]
    refine run_skip l _ ?_ h
    cases d with
    | none => exact hg
    | some d =>
      show get (conE ((d, .tup []) :: env)) t = _ ∨ get (conE ((d, .tup []) :: env)) t = _
      rw [get_conE]
      simp only [getX, beq_if]
      split
      · exact .inr rfl
      · rw [← get_conE]; exact hg

theorem runX_keys {H : List (Nat × Option XV)} : ∀ (l : List (Option Nat × AOp)) (env env' : List (Nat × XV)) (nd : List Bool), runX T H l env = some (nd, env') → ∃ dl, env' = dl ++ env ∧ dl.length = cntR l ∧ conE (skips l env) = (dl.map fun p => (p.1, AV.tup [])) ++ conE env
  | [], env, env', nd, h => by
    simp only [runX, Option.some.injEq, Prod.mk.injEq] at h
    obtain ⟨_, rfl⟩ := h
    exact ⟨[], rfl, rfl, rfl⟩
  | (d, o) :: l, env, env', nd, h => by
    simp only [runX] at h
    split at h
    · rename_i nd1 v h1
      split at h
      · rename_i nd2 env2 h2
        simp only [Option.some.injEq, Prod.mk.injEq] at h
        obtain ⟨rfl, rfl⟩ := h
        obtain ⟨dl, h3, h4, h5⟩ := runX_keys l _ _ _ h2
        cases d with
        | none =>
          refine ⟨dl, h3, h4, ?_⟩
          -- the names are the same whatever the values
          exact h5
        | some d =>
          refine ⟨dl ++ [(d, v)], by rw [h3]; simp [putE], by simp [cntR, h4], ?_⟩
          show conE (skips l ((d, .tup []) :: env)) = _
          have key : ∀ (l : List (Option Nat × AOp)) (e1 e2 : List (Nat × XV)) (x : List (Nat × AV)), conE (skips l e1) = x ++ conE e1 → conE (skips l e2) = x ++ conE e2 := by
            intro l
            induction l with
            | nil =>
              intro e1 e2 x hx
              have : x = [] := by
                have := congrArg List.length hx
                simp only [skips, List.length_append] at this
                exact List.eq_nil_of_length_eq_zero (by omega)
              subst this; rfl
            | cons p l ih =>
              intro e1 e2 x hx
              obtain ⟨d', o'⟩ := p
              cases d' with
              | none => exact ih e1 e2 x hx
              | some d' =>
                -- peel the last name
                have hlen : ∀ (l : List (Option Nat × AOp)) (e : List (Nat × XV)), ∃ y, conE (skips l e) = y ++ conE e := by
                  intro l
                  induction l with
                  | nil => exact fun e => ⟨[], rfl⟩
                  | cons p l ih =>
                    intro e
                    obtain ⟨d'', o''⟩ := p
                    obtain ⟨y, hy⟩ := ih (putE d'' (.tup []) e)
                    cases d'' with
                    | none => exact ⟨y, hy⟩
                    | some d'' => exact ⟨y ++ [(d'', .tup [])], by show conE (skips l _) = _; rw [hy]; simp [putE, conE, con, cons]⟩
                obtain ⟨y, hy⟩ := hlen l ((d', .tup []) :: e1)
                have hx' : x = y ++ [(d', .tup [])] := by
                  have h6 : conE (skips l ((d', .tup []) :: e1)) = x ++ conE e1 := hx
                  rw [hy] at h6
                  have h7 : y ++ ((d', AV.tup []) :: conE e1) = x ++ conE e1 := h6
                  have h8 : (y ++ [(d', AV.tup [])]) ++ conE e1 = x ++ conE e1 := by simpa using h7
                  exact (List.append_cancel_right h8).symm
                have := ih _ ((d', .tup []) :: e2) y hy
                show conE (skips l ((d', .tup []) :: e2)) = _
                rw [this, hx']
                simp [conE, con, cons]
          have := key l _ ((d, .tup []) :: env) _ h5
          rw [this]
          simp [conE, con, cons]
      · cases h
    · cases h

theorem wrap_true : ∀ (k : Nat) (env : List (Nat × XV)), conE (wrap true k env) = conE env
  | 0, env => by cases env <;> rfl
  | k + 1, [] => rfl
  | k + 1, (i, v) :: l => by
    have := wrap_true k l
    simp only [conE] at this
    simp only [wrap, conE, List.map_cons, con, cond_true, this]
theorem wrap_false : ∀ (dl env : List (Nat × XV)), conE (wrap false dl.length (dl ++ env)) = (dl.map fun p => (p.1, AV.tup [])) ++ conE env
  | [], env => by cases env <;> rfl
  | (i, v) :: l, env => by
    have := wrap_false l env
    simp only [conE] at this
    simp only [List.cons_append, List.length_cons, wrap, conE, List.map_cons, con, cond_false, this]

theorem exRun_ok (hT : TabOk P T) (hci : CiOk P T.q ci) {t : Nat} {b : Bool} : ∀ (l : List (Option Nat × AOp)) (σ : XSt) (K : XSt → Prop), exRun T ci l σ K → okRun t l = true → get (conE σ.env) t = .sc (.bool b) → ∃ σ', K σ' ∧ ∀ r Φ, wpOps (Ok P T.q) r σ'.st Φ → wpOps (Ok P T.q) (ungR t b l r) σ.st Φ
  | [], σ, K, h, hok, hg => ⟨σ, h, fun r Φ hr => hr⟩
  | (d, o) :: l, σ, K, h, hok, hg => by
    simp only [exRun] at h
    obtain ⟨σ1, h1, ⟨v, τ, h2⟩, h3⟩ := exOne_ok hT hci h
    cases l with
    | nil => exact ⟨σ1, h1, fun r Φ hr => guard_run hg (h3 r Φ hr)⟩
    | cons x l =>
      simp only [okRun, Bool.and_eq_true, Bool.not_eq_true'] at hok
      obtain ⟨σ', h4, h5⟩ := exRun_ok hT hci (x :: l) σ1 K h1 hok.2 (by
        rw [h2, put_is, get_conE] at *
        cases d with
        | none => exact hg
        | some d =>
          have : ¬ t = d := fun e => by have := hok.1; rw [e] at this; simp [isD] at this
          show con (getX ((d, v) :: σ.env) t) = _
          simp only [getX, beq_if, if_neg this]
          exact hg)
      exact ⟨σ', h4, fun r Φ hr => guard_run hg (h3 _ Φ (h5 r Φ hr))⟩

theorem guardX_true {v : XV} {b : Bool} (h : guardX v b = some true) : con v = .sc (.bool b) := by
  unfold guardX at h
  split at h <;> simp only [Option.some.injEq, reduceCtorEq] at h
  · rename_i c
    cases b <;> cases c <;> first | rfl | cases h
  · rename_i g c
    cases g <;> cases b <;> cases c <;> first | rfl | cases h
theorem guardX_false {v : XV} {b : Bool} (h : guardX v b = some false) : con v = .sc (.bool (!b)) ∨ con v = .tup [] := by
  unfold guardX at h
  split at h <;> simp only [Option.some.injEq, reduceCtorEq] at h
  · rename_i c
    cases b <;> cases c <;> first | exact .inl rfl | cases h
  · rename_i g c
    cases g <;> cases b <;> cases c <;> first | exact .inl rfl | exact .inr rfl | cases h
  · exact .inr rfl

theorem exO_ok (hT : TabOk P T) (hci : CiOk P T.q ci) : ∀ (gs : List XG) (σ : XSt) (K : XSt → Prop), exO T ci gs σ K → okG gs = true → ∃ σ', K σ' ∧ ∀ Φ, Φ σ'.st → wpOps (Ok P T.q) (ung gs) σ.st Φ
  | [], σ, K, h, hok => ⟨σ, h, fun Φ hr => hr⟩
  | .one d o :: r, σ, K, h, hok => by
    simp only [exO] at h
    obtain ⟨σ1, h1, _, h3⟩ := exOne_ok hT hci h
    obtain ⟨σ', h4, h5⟩ := exO_ok hT hci r σ1 K h1 (by simpa [okG] using hok)
    exact ⟨σ', h4, fun Φ hr => h3 _ Φ (h5 Φ hr)⟩
  | .run t b l :: r, σ, K, h, hok => by
    simp only [okG, Bool.and_eq_true] at hok
    simp only [exO] at h
    split at h
    · rename_i g hg
      have hgt : get (conE σ.env) t = con (getX σ.env t) := get_conE _ _
      split at h
      · rename_i nd env hx
        rw [needG_iff] at h
        obtain ⟨σ', h4, h5⟩ := exO_ok hT hci r _ K h.2 hok.2
        refine ⟨σ', h4, fun Φ hr => ?_⟩
        have h6 := h5 Φ hr
        cases g with
        | true =>
          refine run_true (σ.hl |> fun _ => hT) l σ.env env nd hx (h.1 rfl) hok.1 (by rw [hgt, guardX_true hg]) ?_
          have : XSt.st ⟨wrap true (cntR l) env, σ.hl, σ.n⟩ = XSt.st ⟨env, σ.hl, σ.n⟩ := by simp only [XSt.st, wrap_true]
          rw [this] at h6
          exact h6
        | false =>
          refine run_skip l σ.env (by rw [hgt]; exact guardX_false hg) ?_
          obtain ⟨dl, e1, e2, e3⟩ := runX_keys l _ _ _ hx
          have : XSt.st ⟨wrap false (cntR l) env, σ.hl, σ.n⟩ = XSt.st ⟨skips l σ.env, σ.hl, σ.n⟩ := by
            simp only [XSt.st]
            rw [e3, ← e2, e1, wrap_false]
          rw [this] at h6
          exact h6
      · cases g with
        | true =>
          simp only [cond_true] at h
          obtain ⟨σ1, h1, h2⟩ := exRun_ok hT hci l σ _ h hok.1 (by rw [hgt, guardX_true hg])
          obtain ⟨σ', h4, h5⟩ := exO_ok hT hci r σ1 K h1 hok.2
          exact ⟨σ', h4, fun Φ hr => h2 _ Φ (h5 Φ hr)⟩
        | false =>
          simp only [cond_false] at h
          obtain ⟨σ', h4, h5⟩ := exO_ok hT hci r _ K h hok.2
          exact ⟨σ', h4, fun Φ hr => run_skip l σ.env (by rw [hgt]; exact guardX_false hg) (h5 Φ hr)⟩
    · cases h

theorem Weak.refl (σ : St) : Weak σ σ := ⟨fun _ => .inr (.inl rfl), fun _ => .inr rfl, Nat.le_refl _⟩

theorem iterX_ok {c : AC} {g : XSt → (AE → XSt → Prop) → Prop} (hg : ∀ σ K, g σ K → ∃ e σ', K e σ' ∧ ∀ Φ, Φ e σ'.st → wpC (Ok P T.q) c σ.st Φ) : ∀ (n : Nat) (σ : XSt) (K : AE → XSt → Prop), iterX n g σ K →
    ∃ (S : Nat → XSt) (m : Nat) (e : AE) (σ' : XSt), S 0 = σ ∧ K e σ' ∧ (∀ i, i < m → ∀ Φ, Φ .normal (S (i + 1)).st → wpC (Ok P T.q) c (S i).st Φ) ∧ (∀ Φ, Φ e σ'.st → wpC (Ok P T.q) c (S m).st Φ) ∧ e ≠ .normal
  | 0, σ, K, h => h.elim
  | n + 1, σ, K, h => by
    simp only [iterX] at h
    obtain ⟨e, σ1, h1, h2⟩ := hg _ _ h
    cases e with
    | normal =>
      obtain ⟨S, m, e, σ', g1, g2, g3, g4, g5⟩ := iterX_ok hg n σ1 K h1
      refine ⟨fun i => match i with | 0 => σ | i + 1 => S i, m + 1, e, σ', rfl, g2, fun i hi Φ hr => ?_, g4, g5⟩
      cases i with
      | zero => exact h2 Φ (by rw [← g1]; exact hr)
      | succ i => exact g3 i (by omega) Φ hr
    | exit id => exact ⟨fun _ => σ, 0, _, σ1, rfl, h1, fun i hi => by omega, h2, by simp⟩
    | ret => exact ⟨fun _ => σ, 0, _, σ1, rfl, h1, fun i hi => by omega, h2, by simp⟩

theorem inL_iff {i : Nat} : ∀ {l : List Nat}, inL i l = true ↔ i ∈ l
  | [] => by simp [inL]
  | k :: l => by
    simp only [inL, beq_if, List.mem_cons]
    split
    · rename_i h; simp [h]
    · rename_i h; rw [inL_iff (l := l)]; simp [h]
mutual
theorem fzV_ok {H : List (Nat × Option XV)} {σ : St} (hH : ∀ i, σ.H i = (lookX H i).map con) {L : List Nat} : ∀ v : XV, (∀ i ∈ slIds v, i ∈ L) → allT (fzV H v).1 → leF L σ (con v) (con (fzV H v).2)
  | .sl id path off k len es, hL, hn => by
    simp only [fzV] at hn ⊢
    split at hn
    · rename_i nd n f hr
      have := rowX_con hH hr hn
      simp only [hr]
      exact .fz (hL id (by simp [slIds])) this
    · rename_i hr
      simp only [hr]
      exact .same
  | .agg n ts, hL, hn => .agg (fzVs_ok hH ts (by simpa [slIds] using hL) hn)
  | .int .., _, _ => .same
  | .bool _, _, _ => .same
  | .str .., _, _ => .same
  | .tab .., _, _ => .same
  | .row .., _, _ => .same
  | .fptr _, _, _ => .same
  | .ptr .., _, _ => .same
  | .clo .., _, _ => .same
  | .tup _, _, _ => .same
  | .anyb, _, _ => .same
  | .tri .., _, _ => .same
  | .unk, _, _ => .same
  | .opt .., _, _ => .same
  | .raw _, _, _ => .same
theorem fzVs_ok {H : List (Nat × Option XV)} {σ : St} (hH : ∀ i, σ.H i = (lookX H i).map con) {L : List Nat} : ∀ ts : List XV, (∀ i ∈ slIdsL ts, i ∈ L) → allT (fzVs H ts).1 → leFs L σ (cons ts) (cons (fzVs H ts).2)
  | [], _, _ => .nil
  | t :: ts, hL, hn => by
    simp only [fzVs, allT_app] at hn
    simp only [slIdsL, List.mem_append] at hL
    exact .cons (fzV_ok hH t (fun i hi => hL i (.inl hi)) hn.1) (fzVs_ok hH ts (fun i hi => hL i (.inr hi)) hn.2)
end
theorem fz_ok {σ : XSt} (h : allT σ.fz.1) : FrzS σ.st σ.fz.2.st := by
  simp only [XSt.fz, allT_app] at h
  refine ⟨idsE σ.env ++ idsH σ.hl, rfl, fun t => ?_, fun j => ?_⟩
  · have key : ∀ (e : List (Nat × XV)), (∀ i ∈ idsE e, i ∈ idsE σ.env ++ idsH σ.hl) → allT (fzE σ.hl e).1 → leF (idsE σ.env ++ idsH σ.hl) σ.st (get (conE e) t) (get (conE (fzE σ.hl e).2) t) := by
      intro e
      induction e with
      | nil => intro _ _; exact .same
      | cons p r ih =>
        obtain ⟨k, v⟩ := p
        intro hL hn
        simp only [fzE, allT_app] at hn
        simp only [idsE, List.mem_append] at hL
        show leF _ _ (if t = k then con v else get (conE r) t) (if t = k then con (fzV σ.hl v).2 else get (conE (fzE σ.hl r).2) t)
        split
        · exact fzV_ok (st_H σ) v (fun i hi => by simpa using hL i (.inl hi)) hn.1
        · exact ih (fun i hi => by simpa using hL i (.inr hi)) hn.2
    exact key σ.env (fun i hi => List.mem_append_left _ hi) h.1
  · have key : ∀ (e : List (Nat × Option XV)), (∀ i ∈ idsH e, i ∈ idsE σ.env ++ idsH σ.hl) → allT (fzH σ.hl (idsE σ.env ++ idsH σ.hl) e).1 → look (conH (fzH σ.hl (idsE σ.env ++ idsH σ.hl) e).2) (fun _ => none) j = none ∨
        (j ∉ idsE σ.env ++ idsH σ.hl ∧ ∃ t t', look (conH e) (fun _ => none) j = some t ∧ look (conH (fzH σ.hl (idsE σ.env ++ idsH σ.hl) e).2) (fun _ => none) j = some t' ∧ leF (idsE σ.env ++ idsH σ.hl) σ.st t t') := by
      intro e
      induction e with
      | nil => intro _ _; exact .inl rfl
      | cons p r ih =>
        obtain ⟨k, v⟩ := p
        intro hL hn
        cases v with
        | none =>
          simp only [fzH] at hn ⊢
          show (if j = k then none else look (conH _) _ j) = none ∨ _ ∧ ∃ t t', (if j = k then none else look (conH r) _ j) = some t ∧ (if j = k then none else look (conH _) _ j) = some t' ∧ _
          by_cases hjk : j = k
          · rw [if_pos hjk]; exact .inl rfl
          · rw [if_neg hjk, if_neg hjk]
            exact ih hL hn
        | some u =>
          simp only [idsH, List.mem_append] at hL
          cases hin : inL k (idsE σ.env ++ idsH σ.hl) with
          | true =>
            simp only [fzH, hin, cond_true] at hn ⊢
            show (if j = k then none else look (conH _) _ j) = none ∨ _ ∧ ∃ t t', (if j = k then some (con u) else look (conH r) _ j) = some t ∧ (if j = k then none else look (conH _) _ j) = some t' ∧ _
            by_cases hjk : j = k
            · rw [if_pos hjk]; exact .inl rfl
            · rw [if_neg hjk, if_neg hjk]
              exact ih (fun i hi => by simpa using hL i (.inr hi)) hn
          | false =>
            simp only [fzH, hin, cond_false, allT_app] at hn ⊢
            show (if j = k then some (con (fzV σ.hl u).2) else look (conH _) _ j) = none ∨ _ ∧ ∃ t t', (if j = k then some (con u) else look (conH r) _ j) = some t ∧ (if j = k then some (con (fzV σ.hl u).2) else look (conH _) _ j) = some t' ∧ _
            by_cases hjk : j = k
            · rw [if_pos hjk, if_pos hjk]
              refine .inr ⟨fun hm => ?_, _, _, rfl, rfl, fzV_ok (st_H σ) u (fun i hi => by simpa using hL i (.inl hi)) hn.1⟩
              rw [hjk, ← inL_iff, hin] at hm
              cases hm
            · rw [if_neg hjk, if_neg hjk]
              exact ih (fun i hi => by simpa using hL i (.inr hi)) hn.2
    exact key σ.hl (fun i hi => List.mem_append_right _ hi) h.2

theorem sepXs_ok {σ : XSt} : ∀ {ps : List (Nat × Nat)}, allT (sepXs σ ps) → sepAll σ.st ps
  | [], _ => trivial
  | (t, u) :: r, h => by
    simp only [sepXs, allT_app] at h
    refine ⟨?_, sepXs_ok h.2⟩
    show sepV (get (conE σ.env) t) (get (conE σ.env) u)
    rw [get_conE, get_conE]
    exact sepX_ok h.1

theorem exC_ok (hT : TabOk P T) (hci : CiOk P T.q ci) {u : Nat} : ∀ (c : AC) (σ : XSt) (K : AE → XSt → Prop), exC T ci u c σ K → ∃ e σ', K e σ' ∧ ∀ Φ, Φ e σ'.st → wpC (Ok P T.q) c σ.st Φ
  | .skip, σ, K, h => ⟨_, _, h, fun Φ hr => hr⟩
  | .ops l, σ, K, h => by
    simp only [exC] at h
    obtain ⟨h1, h2⟩ := grp_ung l
    obtain ⟨σ', h3, h4⟩ := exO_ok hT hci (grp l) σ _ h h2
    rw [h1] at h4
    exact ⟨.normal, σ', h3, fun Φ hr => h4 (Φ .normal) hr⟩
  | .opsD l ps, σ, K, h => by
    simp only [exC] at h
    obtain ⟨h1, h2⟩ := grp_ung l
    obtain ⟨σ', h3, h4⟩ := exO_ok hT hci (grp l) σ _ h h2
    rw [h1] at h4
    rw [need_iff] at h3
    exact ⟨.normal, σ', h3.2, fun Φ hr => h4 _ ⟨sepXs_ok h3.1, hr⟩⟩
  | .seq a b, σ, K, h => by
    simp only [exC] at h
    obtain ⟨e, σ1, h1, h2⟩ := exC_ok hT hci a σ _ h
    cases e with
    | normal =>
      obtain ⟨e, σ', h3, h4⟩ := exC_ok hT hci b σ1 K h1
      exact ⟨e, σ', h3, fun Φ hr => h2 _ (h4 Φ hr)⟩
    | exit id => exact ⟨_, σ1, h1, fun Φ hr => h2 _ hr⟩
    | ret => exact ⟨_, σ1, h1, fun Φ hr => h2 _ hr⟩
  | .cond c x y, σ, K, h => by
    simp only [exC] at h
    split at h
    · rename_i b hb
      rw [need_iff] at h
      have hc : σ.st.ev c = .sc (.bool b) := by rw [st_ev, strip_con h.1, hb]; rfl
      cases b with
      | true =>
        obtain ⟨e, σ', h1, h2⟩ := exC_ok hT hci x σ K h.2
        refine ⟨e, σ', h1, fun Φ hr => ?_⟩
        unfold wpC
        rw [hc]
        exact ⟨fun _ => h2 Φ hr, fun e => by cases e⟩
      | false =>
        obtain ⟨e, σ', h1, h2⟩ := exC_ok hT hci y σ K h.2
        refine ⟨e, σ', h1, fun Φ hr => ?_⟩
        unfold wpC
        rw [hc]
        exact ⟨fun e => by (cases e), fun _ => h2 Φ hr⟩
    · cases h
  | .block id c, σ, K, h => by
    simp only [exC] at h
    obtain ⟨e, σ1, h1, h2⟩ := exC_ok hT hci c σ _ h
    cases e with
    | normal => exact ⟨_, σ1, h1, fun Φ hr => h2 (AE.inBlock id Φ) hr⟩
    | exit i =>
      cases hi : Nat.beq i id <;> simp only [hi, cond_true, cond_false] at h1
      · exact ⟨_, σ1, h1, fun Φ hr => h2 (AE.inBlock id Φ) (by simp only [AE.inBlock]; rw [if_neg (Nat.ne_of_beq_eq_false hi)]; exact hr)⟩
      · exact ⟨_, σ1, h1, fun Φ hr => h2 (AE.inBlock id Φ) (by simp only [AE.inBlock]; rw [if_pos (Nat.eq_of_beq_eq_true hi)]; exact hr)⟩
    | ret => exact ⟨_, σ1, h1, fun Φ hr => h2 (AE.inBlock id Φ) hr⟩
  | .loop c, σ, K, h => by
    simp only [exC] at h
    obtain ⟨S, m, e, σ', g1, g2, g3, g4, g5⟩ := iterX_ok (c := c) (fun σ K h => exC_ok hT hci c σ K h) u σ K h
    refine ⟨e, σ', g2, fun Φ hr => ?_⟩
    refine wpC_for (fun i => (S i).st) (fun i => i ≤ m) (fun i => m - i) 0 (Nat.zero_le _) (by rw [g1]; exact Weak.refl _) fun i hi => ?_
    by_cases him : i = m
    · subst him
      refine g4 _ ?_
      cases e with
      | normal => exact absurd rfl g5
      | exit id => exact hr
      | ret => exact hr
    · exact g3 i (by omega) _ ⟨i + 1, by omega, Weak.refl _, by omega⟩
  | .exit id, σ, K, h => ⟨_, _, h, fun Φ hr => hr⟩
  | .ret, σ, K, h => ⟨_, _, h, fun Φ hr => hr⟩
  | .frz, σ, K, h => by
    simp only [exC] at h
    rw [need_iff] at h
    exact ⟨_, _, h.2, fun Φ hr => ⟨_, fz_ok h.1, hr⟩⟩

theorem envX_con : ∀ (k : Nat) (args : List XV), conE (envX k args) = envOf k (cons args)
  | k, [] => rfl
  | k, v :: r => by
    have := envX_con (k + 1) r
    simp only [conE] at this
    simp only [envX, conE, List.map_cons, cons, envOf, this]

theorem cons_len (l : List XV) : (cons l).length = l.length := by simp [cons_map]

theorem resXs_con {σ : XSt} : ∀ {rs : List AR} {nd : List Bool} {vs : List XV}, resXs σ rs = some (nd, vs) → allT nd → resA σ.st rs = some (cons vs)
  | [], nd, vs, h, hn => by
    simp only [resXs, Option.some.injEq, Prod.mk.injEq] at h
    obtain ⟨_, rfl⟩ := h; rfl
  | r :: rs, nd, vs, h, hn => by
    simp only [resXs] at h
    split at h
    · rename_i nd1 v nd2 vs' h1 h2
      simp only [Option.some.injEq, Prod.mk.injEq] at h
      obtain ⟨rfl, rfl⟩ := h
      rw [allT_app] at hn
      have h3 : resV σ.st r = some (con v) := by
        cases r with
        | tmp t =>
          simp only [resX, Option.some.injEq, Prod.mk.injEq] at h1
          obtain ⟨_, rfl⟩ := h1
          simp only [resV]
          exact congrArg some (get_conE _ _)
        | cell t ag n =>
          simp only [resX] at h1
          split at h1
          · rename_i nd' u hl
            cases hc : (u.isAgg == ag && Nat.beq u.size n) <;> rw [hc] at h1
            · cases h1
            · simp only [cond_true, Option.some.injEq, Prod.mk.injEq] at h1
              obtain ⟨rfl, rfl⟩ := h1
              simp only [Bool.and_eq_true, beq_iff_eq] at hc
              have h4 := loadX_con (st_H σ) hl hn.1
              rw [← get_conE] at h4
              simp only [resV]
              show (match σ.st.loadA (get (conE σ.env) t) with | some u => _ | none => _) = _
              rw [h4]
              simp only [con_isAgg, con_size]
              rw [if_pos ⟨hc.1, Nat.eq_of_beq_eq_true hc.2⟩]
          · cases h1
      simp only [resA, h3, resXs_con h2 hn.2, cons]
    · cases h

theorem tupX_con : ∀ vs : List XV, tupV (cons vs) = con (tupX vs)
  | [] => rfl
  | [v] => rfl
  | v :: w :: r => rfl

theorem retX_ok {rs : List AR} {K : XV → XSt → Prop} {e : AE} {σ : XSt} (h : retX rs K e σ) : ∃ v, K v σ ∧ ∀ Φ : AV → St → Prop, Φ (con v) σ.st → retP rs Φ e σ.st := by
  have key : (match resXs σ rs with | some (nd, vs) => need nd (K (tupX vs) σ) | none => False) → ∃ v, K v σ ∧ ∀ Φ : AV → St → Prop, Φ (con v) σ.st → (match resA σ.st rs with | some vs => Φ (tupV vs) σ.st | none => False) := by
    intro h
    split at h
    · rename_i nd vs hv
      rw [need_iff] at h
      refine ⟨_, h.2, fun Φ hr => ?_⟩
      rw [resXs_con hv h.1]
      simp only [tupX_con]
      exact hr
    · cases h
  cases e with
  | normal => exact key h
  | exit i => exact h.elim
  | ret => exact key h

theorem quietGo_ok (hmix : P.follows .mixedOrders = true) (hT : TabOk P T) (hci : CiOk P T.q ci) {u f : Nat} {args : List XV} {K : XV → Prop} (h : quietGo T u ci f args K) : ∃ v, Pure P f (cons args) (con v) ∧ K v := by
  unfold quietGo at h
  split at h
  · rename_i nd v hs
    rw [need_iff] at h
    exact ⟨v, hT.sp _ _ _ _ hs h.1, h.2⟩
  · split at h
    · rename_i W hs
      exact hT.sk _ _ _ hs _ h
    · split at h
      · rename_i nt rs c hc
        cases hl : Nat.ble args.length nt <;> rw [hl] at h
        · exact h.elim
        · rw [cond_true] at h
          obtain ⟨e, σ', h1, h2⟩ := exC_ok hT hci c _ _ h
          obtain ⟨v, h3, h4⟩ := retX_ok h1
          unfold frzK at h3
          split at h3
          · rename_i nd r hz
            rw [need_iff] at h3
            refine ⟨r, ?_, h3.2⟩
            have hw := h2 _ (h4 (fun v τ => frz τ 6 v = some (con r)) (frzX_con (st_H σ') 6 v nd r hz h3.1))
            refine pure_of (k := 6) hmix Ok.ok Ok.quiet (hT.codes _ _ hc) (by rw [cons_len]; exact Nat.le_of_ble_eq_true hl) ?_
            simpa [XSt.st, envX_con, conH] using hw
          · cases h3
      · cases h

theorem callI_ok (hmix : P.follows .mixedOrders = true) (hT : TabOk P T) {u : Nat} : ∀ k : Nat, CiOk P T.q (callI T u k)
  | 0 => fun f args σ K h => h.elim
  | k + 1 => fun f args σ K h => by
    have ih := callI_ok hmix hT (u := u) k
    simp only [callI] at h
    cases hq : T.q f <;> rw [hq] at h
    · rw [cond_false] at h
      split at h
      · rename_i nd v τ hs
        rw [need_iff] at h
        exact ⟨v, τ, hT.sg _ _ _ _ _ _ hs h.1 hq, h.2⟩
      · split at h
        · rename_i W hs
          exact hT.gk _ _ _ _ hs hq _ h
        · split at h
          · rename_i nt rs c hc
            cases hl' : (Nat.ble args.length nt && !T.q (f + 1000000)) <;> rw [hl'] at h
            · exact h.elim
            · rw [cond_true] at h
              simp only [Bool.and_eq_true, Bool.not_eq_true'] at hl'
              obtain ⟨hl, hal⟩ := hl'
              obtain ⟨e, σ', h1, h2⟩ := exC_ok hT ih c _ _ h
              obtain ⟨v, h3, h4⟩ := retX_ok h1
              refine ⟨v, σ', .inr (.inr (.inl ⟨hq, hal, trF_known (hT.codes _ _ hc), fun fr G w vs hown hr => ?_⟩)), h3⟩
              have hw := h2 _ (h4 (fun v' τ => v' = con v ∧ τ = σ'.st) ⟨rfl, rfl⟩)
              have hw' : wpC (Ok P T.q) c ⟨envOf 0 (cons args), conH σ.hl, fun _ => none, σ.n⟩ (retP rs fun v' τ => v' = con v ∧ τ = σ'.st) := by
                simpa [XSt.st, envX_con] using hw
              refine (enter hmix Ok.ok Ok.quiet (hT.codes _ _ hc) (by rw [cons_len]; exact Nat.le_of_ble_eq_true hl) hown hr hw').mono fun e w' ⟨u', G', v', τ, g1, g2, g3, g4, g5⟩ => ?_
              subst g4 g5
              exact ⟨u', G', g1, g2, g3⟩
          · cases h
    · rw [cond_true] at h
      cases hi : XV.idfs args <;> rw [hi] at h
      · rw [cond_false] at h
        split at h
        · rename_i nd args' hm
          rw [need_iff] at h
          obtain ⟨v, h1, h2⟩ := quietGo_ok hmix hT ih h.2
          cases hsol : v.sol <;> rw [hsol] at h2
          · exact h2.elim
          · exact ⟨v, σ, .inr (.inl ⟨rfl, con_sol v hsol, 6, cons args', mapX_con (frzX_con (st_H σ) 6) hm h.1, h1⟩), h2⟩
        · cases h
      · rw [cond_true] at h
        obtain ⟨v, h1, h2⟩ := quietGo_ok hmix hT ih h
        exact ⟨v, σ, .inl ⟨rfl, by rw [cons_idf]; exact hi, h1⟩, h2⟩

/-- A function that leaves memory alone, gone through. -/
theorem pureX (hmix : P.follows .mixedOrders = true) (hT : TabOk P T) {u k f : Nat} {args : List XV} {r : AV} (h : quietGo T u (callI T u k) f args fun v => con v = r) : Pure P f (cons args) r := by
  obtain ⟨v, h1, h2⟩ := quietGo_ok hmix hT (callI_ok hmix hT k) h
  rw [← h2]; exact h1

end
end Go.Ra

/- Tables of functions. -/
namespace Go.Ra
set_option linter.unusedVariables false
def assoc {α : Type} : List (Nat × α) → Nat → Option α
  | [], _ => none
  | (k, v) :: l, i => bif Nat.beq i k then some v else assoc l i
def AllL {α : Type} (p : α → Prop) : List α → Prop
  | [] => True
  | x :: l => p x ∧ AllL p l
theorem assoc_all {α : Type} {p : Nat × α → Prop} : ∀ {l : List (Nat × α)} {i : Nat} {v : α}, AllL p l → assoc l i = some v → p (i, v)
  | [], i, v, h, ha => by cases ha
  | (k, u) :: l, i, v, h, ha => by
    simp only [assoc, beq_if] at ha
    split at ha
    · rename_i e
      subst e
      simp only [Option.some.injEq] at ha
      subst ha
      exact h.1
    · exact assoc_all h.2 ha
theorem AllL.app {α : Type} {p : α → Prop} : ∀ {l r : List α}, AllL p l → AllL p r → AllL p (l ++ r)
  | [], r, _, h => h
  | x :: l, r, h, h2 => ⟨h.1, AllL.app h.2 h2⟩

abbrev CodeL := List (Nat × (Nat × List AR × AC))
abbrev SpL := List (Nat × (List XV → Option (List Bool × XV)))
abbrev SgL := List (Nat × (List XV → XSt → Option (List Bool × XV × XSt)))
def mkT (q : Nat → Bool) (cl : CodeL) (sl : SpL) (gl : SgL) : Tab where
  codes := assoc cl
  q := q
  sp f args :=
    match assoc sl f with
    | some g => g args
    | none => none
  sg f args σ :=
    match assoc gl f with
    | some g => g args σ
    | none => none
def SpOk (P : Program) (p : Nat × (List XV → Option (List Bool × XV))) : Prop := ∀ args nd v, p.2 args = some (nd, v) → allT nd → Pure P p.1 (cons args) (con v)
def SgOk (P : Program) (q : Nat → Bool) (p : Nat × (List XV → XSt → Option (List Bool × XV × XSt))) : Prop := ∀ args σ nd v τ, p.2 args σ = some (nd, v, τ) → allT nd → q p.1 = false → Ok P q p.1 (cons args) σ.st (con v) τ.st
abbrev SkL := List (Nat × (List XV → Option ((XV → Prop) → Prop)))
abbrev GkL := List (Nat × (List XV → XSt → Option ((XV → XSt → Prop) → Prop)))
/-- With what is told by propositions. -/
def mkT2 (q : Nat → Bool) (cl : CodeL) (sl : SpL) (gl : SgL) (kl : SkL) (hl : GkL) : Tab where
  codes := assoc cl
  q := q
  sp f args :=
    match assoc sl f with
    | some g => g args
    | none => none
  sg f args σ :=
    match assoc gl f with
    | some g => g args σ
    | none => none
  sk f args :=
    match assoc kl f with
    | some g => g args
    | none => none
  gk f args σ :=
    match assoc hl f with
    | some g => g args σ
    | none => none
def SkOk (P : Program) (p : Nat × (List XV → Option ((XV → Prop) → Prop))) : Prop := ∀ args W, p.2 args = some W → ∀ K : XV → Prop, W K → ∃ v, Pure P p.1 (cons args) (con v) ∧ K v
def GkOk (P : Program) (q : Nat → Bool) (p : Nat × (List XV → XSt → Option ((XV → XSt → Prop) → Prop))) : Prop := ∀ args σ W, p.2 args σ = some W → q p.1 = false → ∀ K : XV → XSt → Prop, W K → ∃ v τ, Ok P q p.1 (cons args) σ.st (con v) τ.st ∧ K v τ
theorem mkT2_ok {P : Program} {q : Nat → Bool} {cl : CodeL} {sl : SpL} {gl : SgL} {kl : SkL} {hl : GkL} (h1 : AllL (fun p => trF P q p.1 = some p.2) cl) (h2 : AllL (SpOk P) sl) (h3 : AllL (SgOk P q) gl) (h4 : AllL (SkOk P) kl) (h5 : AllL (GkOk P q) hl) : TabOk P (mkT2 q cl sl gl kl hl) := by
  refine ⟨fun f r h => assoc_all h1 h, fun f args nd v h hn => ?_, fun f args σ nd v τ h hn hq => ?_, fun f args W h => ?_, fun f args σ W h hq => ?_⟩
  · simp only [mkT2] at h
    split at h
    · rename_i g hg
      exact assoc_all h2 hg args nd v h hn
    · cases h
  · simp only [mkT2] at h
    split at h
    · rename_i g hg
      exact assoc_all h3 hg args σ nd v τ h hn hq
    · cases h
  · simp only [mkT2] at h
    split at h
    · rename_i g hg
      exact assoc_all h4 hg args W h
    · cases h
  · simp only [mkT2] at h
    split at h
    · rename_i g hg
      exact assoc_all h5 hg args σ W h hq
    · cases h
theorem mkT_ok {P : Program} {q : Nat → Bool} {cl : CodeL} {sl : SpL} {gl : SgL} (h1 : AllL (fun p => trF P q p.1 = some p.2) cl) (h2 : AllL (SpOk P) sl) (h3 : AllL (SgOk P q) gl) : TabOk P (mkT q cl sl gl) := by
  refine ⟨fun f r h => assoc_all h1 h, fun f args nd v h hn => ?_, fun f args σ nd v τ h hn hq => ?_, fun f args W h => (by cases h), fun f args σ W h => (by cases h)⟩
  · simp only [mkT] at h
    split at h
    · rename_i g hg
      exact assoc_all h2 hg args nd v h hn
    · cases h
  · simp only [mkT] at h
    split at h
    · rename_i g hg
      exact assoc_all h3 hg args σ nd v τ h hn hq
    · cases h
end Go.Ra

/- slices.Clone: a row of one's own. -/
namespace Go.Ra
set_option linter.unusedVariables false
set_option linter.unusedSimpArgs false

/-- The code of slices.Clone. -/
def cloneC (es bytes : Nat) : AC := .seq (.ops [⟨some 2, .mv (.c (.fro true 0 [])), none⟩]) (.seq (.seq (.ops [⟨some 3, .mv (.t 0), none⟩, ⟨some 4, .eqn false (.t 3), none⟩]) (.cond (.t 4) (.seq (.ops [⟨some 2, .mv (.c (.fro true 0 [])), none⟩]) .ret) .skip))
  (.seq (.ops [⟨some 5, .bsl es [], none⟩, ⟨some 6, .mv (.t 0), none⟩, ⟨some 7, .app es bytes (.t 5) (.t 6), none⟩, ⟨some 2, .mv (.t 7), none⟩]) .ret))
section
variable {P : Program} {q : Nat → Bool} {f es bytes : Nat}
theorem makes_clone (hmix : P.follows .mixedOrders = true) (hF : trF P q f = some (8, [.tmp 2], cloneC es bytes)) (h0 : 0 < bytes) (x : Bool) (es0 : Nat) (ts : List AV) (hes : es0 = es ∨ ts = []) (hs : AV.solids ts = true) (hb : ts.length * bytes ≤ 140737488355328) :
    Makes P f [.fro x es0 ts] (.sl 0 [] 0 0 ts.length es) (.arr ts.length es ts) := by
  refine make_of hmix Ok.ok Ok.quiet hF (Nat.le_of_ble_eq_true rfl) (by simpa [AV.solid] using hs) rfl ?_
  unfold cloneC
  simp only [envOf]
  have hor : (es0 = es ∨ ts = []) = True := by simp [hes]
  cases ts with
  | nil =>
    repeat' (first
      | (with_reducible refine wpC_seq ?_; intro K hK)
      | with_reducible refine wpC_ops ?_
      | with_reducible refine wpC_ret ?_
      | with_reducible refine wpC_skip ?_
      | with_reducible refine wpC_exit ?_
      | with_reducible refine wpC_block ?_
      | with_reducible refine then_normal ?_
      | with_reducible refine then_ret ?_
      | with_reducible refine then_exit ?_
      | with_reducible refine inBlock_normal ?_
      | with_reducible refine inBlock_ret ?_
      | with_reducible refine inBlock_self ?_
      | with_reducible refine inBlock_other (by decide) ?_
      | (with_reducible refine hK.out _ ?_; clear hK K)
      | with_reducible refine KK.out (by assumption) _ ?_
      | simp -implicitDefEqProofs (disch := omega) only [wpOps_mv, wpOps_pick, wpOps_box, wpOps_build, wpOps_bsl, wpOps_load, wpOps_store, wpOps_nilck, wpOps_bin, wpOps_eqs, wpOps_eqn, wpOps_un, wpOps_conv, wpOps_b2s, wpOps_slice, wpOps_aslice, wpOps_fadr, wpOps_iadr, wpOps_ext, wpOps_mkf, wpOps_mks, wpOps_app, wpOps_appf, wpOps_len, wpOps_lens, wpOps_copy, wpOps_min, wpOps_max, wpOps_guard, wpOps_nil, wpE_some, wpG_tt, wpG_ff, wpG_tf, wpG_ft, wpG_n, wpC_cond, cnd_t, cnd_f, put_some, put_none, ev_t, ev_c, St_H, hput_mk, new_mk, get_self, get_cons, look_cons, look_nil, hset_nil, hset_cons, stepE, binV, isShift, intBin_add, intBin_sub, intBin_mul, intBin_quo, intBin_rem, intBin_and, intBin_or, intBin_xor, intBin_eql, intBin_neq, intBin_lss, intBin_leq, intBin_gtr, intBin_geq, notV, I, U32, B, U8, if_true, if_false, ite_true, ite_false, reduceCtorEq, Nat.reduceEqDiff, Nat.succ_ne_self, Bool.false_eq_true, ↓reduceIte, Bool.not_true, Bool.not_false, decide_true, decide_false, not_true_eq_false, not_false_eq_true, St.loadA, AV.at?, AV.set?, isAgg_sc, size_sc, storable_sc, isAgg_agg, size_agg, storable_agg, isAgg_arr, size_arr, storable_arr, isAgg_fro, size_fro, storable_fro, isAgg_fptr, size_fptr, storable_fptr, isAgg_sl, size_sl, storable_sl, isAgg_ptr, size_ptr, storable_ptr, isAgg_clo, size_clo, storable_clo, AV.idfree, AV.idfrees, sizes, List.map_cons, List.map_nil, List.getElem?_cons_zero, List.getElem?_cons_succ, List.getElem?_nil, List.take_succ_cons, List.take_zero, List.take_nil, Nat.zero_add, Nat.add_zero, Nat.reduceAdd, and_self, and_true, true_and, List.nil_append, List.cons_append, List.append_nil, allOk, capsOk, BEq.rfl, beq_self_eq_true, Bool.and_true, Bool.true_and, Bool.and_self, partsA, List.set_cons_zero, List.set_cons_succ, foldI, foldJ, asI, Int.toNat_natCast, agrees, agreesH, Option.map_some, Option.map_none, eqnV, St.row, appA, List.isEmpty_nil, List.isEmpty_cons, List.length_nil, List.length_cons, List.length_map, true_or, or_true, or_false, false_or, ne_eq, not_true_eq_false, boundsA, Nat.sub_zero, List.drop_zero, List.length_append, List.length_set, Nat.reduceMul, Nat.reduceLT, Nat.reduceLeDiff, Int.reduceLT, Int.reduceLE, Int.reduceToNat, Nat.zero_mul, Nat.zero_le, Nat.le_refl, Int.le_refl, List.take_length, Int.natCast_zero, List.drop_succ_cons, List.take_succ_cons, Nat.add_sub_cancel, *]
      | with_reducible refine cnd_any ?_ ?_
      | (with_reducible refine cnd_split (fun h => ?_) (fun h => ?_) <;> (first | simp only [decide_eq_true_eq, decide_eq_false_iff_not, Classical.not_not, Bool.and_eq_true, Bool.or_eq_true] at h | skip))
      | (with_reducible refine wpG_true (fun h => ?_) (fun h => ?_) <;> (first | simp only [decide_eq_true_eq, decide_eq_false_iff_not, Classical.not_not, Bool.and_eq_true, Bool.or_eq_true] at h | skip))
      | (with_reducible refine wpG_false (fun h => ?_) (fun h => ?_) <;> (first | simp only [decide_eq_true_eq, decide_eq_false_iff_not, Classical.not_not, Bool.and_eq_true, Bool.or_eq_true] at h | skip)))
    · simp -implicitDefEqProofs only [retP, resA, resV, get_cons, Nat.reduceEqDiff, ↓reduceIte, tupV, reduceCtorEq, Nat.succ_ne_self, St_H, look_cons, look_nil]
      exact .inr ⟨_, _, rfl, rfl, rfl⟩
    · simp -implicitDefEqProofs only [retP, resA, resV, get_cons, Nat.reduceEqDiff, ↓reduceIte, tupV, reduceCtorEq, Nat.succ_ne_self, St_H, look_cons, look_nil]
      exact .inl ⟨0, rfl, rfl⟩
  | cons t ts =>
    generalize hts : t :: ts = us at *
    have hemp : us.isEmpty = false := by rw [← hts]; rfl
    clear hts hes
    repeat' (first
      | (with_reducible refine wpC_seq ?_; intro K hK)
      | with_reducible refine wpC_ops ?_
      | with_reducible refine wpC_ret ?_
      | with_reducible refine wpC_skip ?_
      | with_reducible refine wpC_exit ?_
      | with_reducible refine wpC_block ?_
      | with_reducible refine then_normal ?_
      | with_reducible refine then_ret ?_
      | with_reducible refine then_exit ?_
      | with_reducible refine inBlock_normal ?_
      | with_reducible refine inBlock_ret ?_
      | with_reducible refine inBlock_self ?_
      | with_reducible refine inBlock_other (by decide) ?_
      | (with_reducible refine hK.out _ ?_; clear hK K)
      | with_reducible refine KK.out (by assumption) _ ?_
      | simp -implicitDefEqProofs (disch := omega) only [wpOps_mv, wpOps_pick, wpOps_box, wpOps_build, wpOps_bsl, wpOps_load, wpOps_store, wpOps_nilck, wpOps_bin, wpOps_eqs, wpOps_eqn, wpOps_un, wpOps_conv, wpOps_b2s, wpOps_slice, wpOps_aslice, wpOps_fadr, wpOps_iadr, wpOps_ext, wpOps_mkf, wpOps_mks, wpOps_app, wpOps_appf, wpOps_len, wpOps_lens, wpOps_copy, wpOps_min, wpOps_max, wpOps_guard, wpOps_nil, wpE_some, wpG_tt, wpG_ff, wpG_tf, wpG_ft, wpG_n, wpC_cond, cnd_t, cnd_f, put_some, put_none, ev_t, ev_c, St_H, hput_mk, new_mk, get_self, get_cons, look_cons, look_nil, hset_nil, hset_cons, stepE, binV, isShift, intBin_add, intBin_sub, intBin_mul, intBin_quo, intBin_rem, intBin_and, intBin_or, intBin_xor, intBin_eql, intBin_neq, intBin_lss, intBin_leq, intBin_gtr, intBin_geq, notV, I, U32, B, U8, if_true, if_false, ite_true, ite_false, reduceCtorEq, Nat.reduceEqDiff, Nat.succ_ne_self, Bool.false_eq_true, ↓reduceIte, Bool.not_true, Bool.not_false, decide_true, decide_false, not_true_eq_false, not_false_eq_true, St.loadA, AV.at?, AV.set?, isAgg_sc, size_sc, storable_sc, isAgg_agg, size_agg, storable_agg, isAgg_arr, size_arr, storable_arr, isAgg_fro, size_fro, storable_fro, isAgg_fptr, size_fptr, storable_fptr, isAgg_sl, size_sl, storable_sl, isAgg_ptr, size_ptr, storable_ptr, isAgg_clo, size_clo, storable_clo, AV.idfree, AV.idfrees, sizes, List.map_cons, List.map_nil, List.getElem?_cons_zero, List.getElem?_cons_succ, List.getElem?_nil, List.take_succ_cons, List.take_zero, List.take_nil, Nat.zero_add, Nat.add_zero, Nat.reduceAdd, and_self, and_true, true_and, List.nil_append, List.cons_append, List.append_nil, allOk, capsOk, BEq.rfl, beq_self_eq_true, Bool.and_true, Bool.true_and, Bool.and_self, partsA, List.set_cons_zero, List.set_cons_succ, foldI, foldJ, asI, Int.toNat_natCast, agrees, agreesH, Option.map_some, Option.map_none, eqnV, St.row, appA, List.isEmpty_nil, List.isEmpty_cons, List.length_nil, List.length_cons, List.length_map, true_or, or_true, or_false, false_or, ne_eq, not_true_eq_false, boundsA, Nat.sub_zero, List.drop_zero, List.length_append, List.length_set, Nat.reduceMul, Nat.reduceLT, Nat.reduceLeDiff, Int.reduceLT, Int.reduceLE, Int.reduceToNat, Nat.zero_mul, Nat.zero_le, Nat.le_refl, Int.le_refl, List.take_length, Int.natCast_zero, List.drop_succ_cons, List.take_succ_cons, Nat.add_sub_cancel, *]
      | with_reducible refine cnd_any ?_ ?_
      | (with_reducible refine cnd_split (fun h => ?_) (fun h => ?_) <;> (first | simp only [decide_eq_true_eq, decide_eq_false_iff_not, Classical.not_not, Bool.and_eq_true, Bool.or_eq_true] at h | skip))
      | (with_reducible refine wpG_true (fun h => ?_) (fun h => ?_) <;> (first | simp only [decide_eq_true_eq, decide_eq_false_iff_not, Classical.not_not, Bool.and_eq_true, Bool.or_eq_true] at h | skip))
      | (with_reducible refine wpG_false (fun h => ?_) (fun h => ?_) <;> (first | simp only [decide_eq_true_eq, decide_eq_false_iff_not, Classical.not_not, Bool.and_eq_true, Bool.or_eq_true] at h | skip)))
    simp -implicitDefEqProofs only [retP, resA, resV, get_cons, Nat.reduceEqDiff, ↓reduceIte, tupV, reduceCtorEq, Nat.succ_ne_self, St_H, look_cons, look_nil]
    exact .inl ⟨0, rfl, rfl⟩

/-- What is told of slices.Clone. -/
def makeS (es bytes : Nat) (args : List XV) (σ : XSt) : Option (List Bool × XV × XSt) :=
  match mapX (frzX σ.hl 6) args with
  | some (nd, [.row x es' n f]) => bif ((Nat.beq es' es || Nat.beq n 0) && Nat.blt 0 bytes) then some (decide (n * bytes ≤ 140737488355328) :: allN (fun i => (f i).sol) n :: nd, .sl σ.n [] 0 0 n es, σ.new (.tab n es f)) else none
  | _ => none

theorem makeS_ok (hM : ∀ (x : Bool) (es0 : Nat) (ts : List AV), (es0 = es ∨ ts = []) → AV.solids ts = true → ts.length * bytes ≤ 140737488355328 → Makes P f [.fro x es0 ts] (.sl 0 [] 0 0 ts.length es) (.arr ts.length es ts)) : SgOk P q (f, makeS es bytes) := by
  intro args σ nd v τ h hn hq
  simp only [makeS] at h
  split at h
  · rename_i nd' x es' n g hm
    cases hc : ((Nat.beq es' es || Nat.beq n 0) && Nat.blt 0 bytes) <;> rw [hc] at h
    · cases h
    · simp only [cond_true, Option.some.injEq, Prod.mk.injEq] at h
      obtain ⟨rfl, rfl, rfl⟩ := h
      simp only [allT_cons, decide_eq_true_eq, allN_iff] at hn
      simp only [Bool.and_eq_true, Bool.or_eq_true] at hc
      have h1 := mapX_con (frzX_con (st_H σ) 6) hm hn.2.2
      have h2 := hM x es' (tabL n fun i => con (g i)) (hc.1.imp Nat.eq_of_beq_eq_true (fun e => tabL_nil.2 (Nat.eq_of_beq_eq_true e))) (by
        rw [solids_iff]
        intro t ht
        simp only [tabL, List.mem_map, List.mem_range] at ht
        obtain ⟨i, hi, rfl⟩ := ht
        exact con_sol _ (hn.2.1 i hi)) (by rw [tabL_len]; exact hn.1)
      rw [tabL_len] at h2
      exact .inr (.inr (.inr ⟨hq, 6, _, _, _, h1, h2, by simp only [renT, ren, if_true]; rfl, rfl⟩))
  · cases h
end
end Go.Ra

/- What comes in: the data of a row as abstract values. -/
namespace Go.Ra
open Go.RowKit (Below)
set_option linter.unusedVariables false
set_option linter.unusedSimpArgs false

/-- Types of what comes in. -/
inductive Ty where
  | int (k : IntKind)
  | bool
  | str
  | slice (es bytes : Nat) (e : Ty)
  | agg (n : Nat) (l : List Ty)
  | arr (n es : Nat) (e : Ty)
  deriving Inhabited

mutual
def Ty.has : Ty → AV → Prop
  | .int k, a => ∃ n, a = .sc (.int k n) ∧ (Lit.int k n).wf = true
  | .bool, a => ∃ b, a = .sc (.bool b)
  | .str, a => ∃ s, a = .sc (.string s) ∧ s.size ≤ maxLen
  | .slice es bytes e, a => ∃ ts, a = .fro false es ts ∧ ts.length * bytes ≤ 140737488351232 ∧ ∀ t ∈ ts, e.has t
  | .agg n l, a => ∃ ts, a = .agg n ts ∧ Ty.hasL l ts
  | .arr n es e, a => ∃ ts, a = .arr n es ts ∧ ts.length = n ∧ ∀ t ∈ ts, e.has t
def Ty.hasL : List Ty → List AV → Prop
  | [], ts => ts = []
  | T :: l, ts => ∃ t r, ts = t :: r ∧ T.has t ∧ Ty.hasL l r
end

mutual
def tyT (P : Program) : Nat → TypeId → Option Ty
  | 0, _ => none
  | d + 1, t =>
    match P.underlying t with
    | some (.int k) => some (.int k)
    | some .bool => some .bool
    | some .string => some .str
    | some (.slice e) =>
      match tyT P d e with
      | some T => if P.cellsOf e = 0 then none else some (.slice (P.cellsOf e) (P.bytesOf e) T)
      | none => none
    | some (.struct fs) =>
      match tyFs P d 0 fs.toList with
      | some (l, n) => if n = P.cellsOf t then some (.agg n l) else none
      | none => none
    | some (.array n e) =>
      match tyT P d e with
      | some T => if P.cellsOf t = n * P.cellsOf e then some (.arr n (P.cellsOf e) T) else none
      | none => none
    | _ => none
def tyFs (P : Program) : Nat → Nat → List Field → Option (List Ty × Nat)
  | _, o, [] => some ([], o)
  | 0, _, _ :: _ => none
  | d + 1, o, f :: fs =>
    if f.offset = o then
      match tyT P d f.type, tyFs P d (o + P.cellsOf f.type) fs with
      | some T, some (l, n) => some (T :: l, n)
      | _, _ => none
    else none
end

section
variable {P : Program} {H : Type} {enc : TypeId × Value → H} {W : World} {base : Nat} {sp : Nat → Bool} {held : Bool}

theorem cells_at {a : Addr} {n : Nat} {cs : List Value} (h : W.cells? base a n = some cs) : cs.length = n ∧ ∀ j v, cs[j]? = some v → W.cell? (a.add j) = some v := by
  unfold World.cells? at h
  split at h
  · have hl := mapM_len h
    refine ⟨by simpa using hl, fun j v hj => ?_⟩
    have hlt : j < n := by have := (List.getElem?_eq_some_iff.1 hj).1; rw [hl] at this; simpa using this
    obtain ⟨y, h1, h2⟩ := mapM_get h j j (by simp [hlt])
    rw [hj] at h1
    simp only [Option.some.injEq] at h1
    subst h1
    exact h2
  · cases h

theorem spot_none {a : Addr} {v : Value} (h : W.cell? a = some v) : a.spot = none := by
  unfold World.cell? at h
  split at h
  · rename_i c e f hc
    cases hs : a.spot with
    | none => rfl
    | some s => rw [hs] at h; simp at h
  · cases h

theorem block_lt {a : Addr} {v : Value} (h : W.cell? a = some v) : a.block < W.heap.size := World.block_lt_of_cell? W a h

abbrev Low (W : World) : Nat → Prop := fun b => b < W.heap.size

/-- Elements, one behind the other. -/
theorem open_elems {e : TypeId} {fuel es b o : Nat} {T : Ty} (hes : 0 < es) (ih : ∀ (cs : List Value) (d : DataW H) (ps : List MemPlace), DataW.trod enc P W base sp held fuel e cs = some (d, ps) → (∀ x ∈ d.weights P e, x ≤ 140737488351232) → ∃ a, RelC W (Low W) noIds a cs ∧ T.has a) : ∀ (n k : Nat) (xs : List (DataW H × List MemPlace)),
    xs.length = n → (∀ i, i < n → (W.cells? base ((⟨b, o, none⟩ : Addr).add ((k + i) * es)) es).bind (DataW.trod enc P W base sp held fuel e) = xs[i]?) → (∀ x ∈ DataW.weightsAll P e (xs.map (·.1)), x ≤ 140737488351232) →
    ∃ ts cs, ts.length = n ∧ RelE W (Low W) es ts cs ∧ Reads W b (o + k * es) cs ∧ ∀ t ∈ ts, T.has t
  | 0, k, xs, hn, h, hw => ⟨[], [], rfl, .nil, fun j v hj => by simp at hj, fun t ht => by cases ht⟩
  | n + 1, k, [], hn, h, hw => by simp at hn
  | n + 1, k, y :: ys, hn, h, hw => by
    have h1 := h 0 (by omega)
    simp only [List.map_cons, DataW.weightsAll, List.mem_append] at hw
    obtain ⟨ts, cs, h3, h4, h5, h6⟩ := open_elems hes ih n (k + 1) ys (by simpa using hn) (fun i hi => by
      have := h (i + 1) (by omega)
      rw [show k + (i + 1) = k + 1 + i by omega] at this
      simpa using this) (fun x hx => hw x (.inr hx))
    simp only [Nat.add_zero, List.getElem?_cons_zero] at h1
    cases hc : W.cells? base ((⟨b, o, none⟩ : Addr).add (k * es)) es with
    | none => rw [hc] at h1; cases h1
    | some c =>
      rw [hc] at h1
      simp only [Option.bind_some] at h1
      obtain ⟨h7, h8⟩ := cells_at hc
      obtain ⟨d, ps⟩ := y
      obtain ⟨a, h9, h10⟩ := ih c d ps h1 (fun x hx => hw x (.inl hx))
      refine ⟨a :: ts, c ++ cs, by simp [h3], .cons h9 h7 h4, fun j v hj => ?_, fun t ht => ?_⟩
      · by_cases hjc : j < c.length
        · rw [List.getElem?_append_left hjc] at hj
          have := h8 j v hj
          rwa [add_lit, add_lit] at this
        · rw [List.getElem?_append_right (by omega)] at hj
          have := h5 _ v hj
          rw [Nat.add_mul, Nat.one_mul] at this
          rw [show o + k * es + j = o + (k * es + es) + (j - c.length) by omega]
          exact this
      · rcases List.mem_cons.1 ht with rfl | ht
        · exact h10
        · exact h6 t ht

theorem open_fields {fuel : Nat} {whole : List Value} {D : Nat} (ih : ∀ (m : Nat), m < D → ∀ (t : TypeId) (T : Ty) (cs : List Value) (d : DataW H) (ps : List MemPlace), tyT P m t = some T → DataW.trod enc P W base sp held fuel t cs = some (d, ps) → (∀ x ∈ d.weights P t, x ≤ 140737488351232) → ∃ a, RelC W (Low W) noIds a cs ∧ T.has a) :
    ∀ (fs : List Field) (d o : Nat) (xs : List (DataW H × List MemPlace)) (l : List Ty) (m : Nat), d ≤ D → tyFs P d o fs = some (l, m) → xs.length = fs.length → (∀ (i : Nat) (f : Field), fs[i]? = some f → DataW.trod enc P W base sp held fuel f.type ((whole.drop f.offset).take (P.cellsOf f.type)) = xs[i]?) →
      (∀ x ∈ DataW.weightsEach P (fs.map (·.type)) (xs.map (·.1)), x ≤ 140737488351232) → m ≤ whole.length → o ≤ m ∧ ∃ ts, RelL W (Low W) noIds ts ((whole.drop o).take (m - o)) ∧ Ty.hasL l ts
  | [], d, o, xs, l, m, hd, hT, hn, h, hw, hm => by
    simp only [tyFs, Option.some.injEq, Prod.mk.injEq] at hT
    obtain ⟨rfl, rfl⟩ := hT
    exact ⟨Nat.le_refl _, [], by simp; exact .nil, rfl⟩
  | f :: fs, 0, o, xs, l, m, hd, hT, hn, h, hw, hm => by simp [tyFs] at hT
  | f :: fs, d + 1, o, [], l, m, hd, hT, hn, h, hw, hm => by simp at hn
  | f :: fs, d + 1, o, y :: ys, l, m, hd, hT, hn, h, hw, hm => by
    simp only [tyFs] at hT
    split at hT
    · rename_i hoff
      split at hT
      · rename_i T l' m' hT1 hT2
        simp only [Option.some.injEq, Prod.mk.injEq] at hT
        obtain ⟨rfl, rfl⟩ := hT
        simp only [List.map_cons, DataW.weightsEach, List.mem_append] at hw
        obtain ⟨h1, ts, h2, h3⟩ := open_fields ih fs d (o + P.cellsOf f.type) ys l' m' (by omega) hT2 (by simpa using hn) (fun i g hg => by simpa using h (i + 1) g (by simpa using hg)) (fun x hx => hw x (.inr hx)) hm
        have h4 := h 0 f rfl
        simp only [List.getElem?_cons_zero] at h4
        obtain ⟨dd, ps⟩ := y
        obtain ⟨a, h5, h6⟩ := ih d (by omega) f.type T _ dd ps hT1 h4 (fun x hx => hw x (.inl hx))
        refine ⟨by omega, a :: ts, ?_, ⟨a, ts, rfl, h6, h3⟩⟩
        have e1 : (whole.drop o).take (m' - o) = (whole.drop f.offset).take (P.cellsOf f.type) ++ (whole.drop (o + P.cellsOf f.type)).take (m' - (o + P.cellsOf f.type)) := by
          rw [hoff, show m' - o = P.cellsOf f.type + (m' - (o + P.cellsOf f.type)) by omega, List.take_add, List.drop_drop]
        rw [e1]
        exact .cons h5 h2
      · cases hT
    · cases hT

theorem open_parts {e : TypeId} {fuel es : Nat} {T : Ty} {whole : List Value} (ih : ∀ (cs : List Value) (d : DataW H) (ps : List MemPlace), DataW.trod enc P W base sp held fuel e cs = some (d, ps) → (∀ x ∈ d.weights P e, x ≤ 140737488351232) → ∃ a, RelC W (Low W) noIds a cs ∧ T.has a) : ∀ (n k : Nat) (xs : List (DataW H × List MemPlace)),
    xs.length = n → (∀ i, i < n → DataW.trod enc P W base sp held fuel e ((whole.drop ((k + i) * es)).take es) = xs[i]?) → (k + n) * es ≤ whole.length → (∀ x ∈ DataW.weightsAll P e (xs.map (·.1)), x ≤ 140737488351232) →
    ∃ ts, ts.length = n ∧ RelE W (Low W) es ts ((whole.drop (k * es)).take (n * es)) ∧ ∀ t ∈ ts, T.has t
  | 0, k, xs, hn, h, hl, hw => ⟨[], rfl, by simp; exact .nil, fun t ht => by cases ht⟩
  | n + 1, k, [], hn, h, hl, hw => by simp at hn
  | n + 1, k, y :: ys, hn, h, hl, hw => by
    have h1 := h 0 (by omega)
    simp only [Nat.add_zero, List.getElem?_cons_zero] at h1
    simp only [List.map_cons, DataW.weightsAll, List.mem_append] at hw
    obtain ⟨ts, h3, h4, h6⟩ := open_parts ih n (k + 1) ys (by simpa using hn) (fun i hi => by
      have := h (i + 1) (by omega)
      rw [show k + (i + 1) = k + 1 + i by omega] at this
      simpa using this) (by rw [show k + 1 + n = k + (n + 1) by omega]; exact hl) (fun x hx => hw x (.inr hx))
    obtain ⟨d, ps⟩ := y
    obtain ⟨a, h9, h10⟩ := ih _ d ps h1 (fun x hx => hw x (.inl hx))
    have hlen : ((whole.drop (k * es)).take es).length = es := by
      simp only [List.length_take, List.length_drop]
      have : (k + (n + 1)) * es = k * es + es + n * es := by rw [Nat.add_mul, Nat.add_mul, Nat.one_mul]; omega
      omega
    refine ⟨a :: ts, by simp [h3], ?_, fun t ht => ?_⟩
    · have e1 : (whole.drop (k * es)).take ((n + 1) * es) = (whole.drop (k * es)).take es ++ (whole.drop ((k + 1) * es)).take (n * es) := by
        rw [show (n + 1) * es = es + n * es by rw [Nat.add_mul, Nat.one_mul]; omega, List.take_add, List.drop_drop, show k * es + es = (k + 1) * es by rw [Nat.add_mul, Nat.one_mul]]
      rw [e1]
      exact .cons h9 hlen h4
    · rcases List.mem_cons.1 ht with rfl | ht
      · exact h10
      · exact h6 t ht

theorem open_trod : ∀ (n : Nat) (t : TypeId) (T : Ty) (fuel : Nat) (cs : List Value) (d : DataW H) (ps : List MemPlace), tyT P n t = some T → DataW.trod enc P W base sp held fuel t cs = some (d, ps) →
    (∀ x ∈ d.weights P t, x ≤ 140737488351232) → ∃ a, RelC W (Low W) noIds a cs ∧ T.has a := by
  intro n
  induction n using Nat.strongRecOn with
  | _ n ih =>
  intro t T fuel cs d ps hT h hw
  cases n with
  | zero => simp [tyT] at hT
  | succ n =>
    simp only [tyT] at hT
    split at hT
    · rename_i k hu
      simp only [Option.some.injEq] at hT
      subst hT
      obtain ⟨x, rfl, _, h2⟩ := DataW.trod_int hu h
      exact ⟨.sc (.int k x), .sc rfl, ⟨x, rfl, h2⟩⟩
    · rename_i hu
      simp only [Option.some.injEq] at hT
      subst hT
      obtain ⟨b, rfl, _⟩ := DataW.trod_bool hu h
      exact ⟨.sc (.bool b), .sc rfl, ⟨b, rfl⟩⟩
    · rename_i hu
      simp only [Option.some.injEq] at hT
      subst hT
      obtain ⟨s, rfl, _, h2⟩ := DataW.trod_string hu h
      exact ⟨.sc (.string s), .sc rfl, ⟨s, rfl, h2⟩⟩
    · rename_i e hu
      split at hT
      · rename_i T' hT'
        split at hT
        · cases hT
        · rename_i hes
          simp only [Option.some.injEq] at hT
          subst hT
          have hes' : 0 < P.cellsOf e := Nat.pos_of_ne_zero hes
          rcases DataW.trod_slice hu h with ⟨rfl, hx⟩ | ⟨a, len, cap, elems, rest, m, rfl, rfl, hx, hb, hlc, hcm, hel, hat, _⟩
          · exact ⟨.fro false (P.cellsOf e) [], .fro0 (fun h => by cases h), ⟨[], rfl, by simp, fun t ht => by cases ht⟩⟩
          · simp only [Prod.mk.injEq] at hx
            obtain ⟨rfl, rfl⟩ := hx
            simp only [DataW.weights, hu, List.mem_cons, List.mem_append] at hw
            have hw1 := hw _ (.inl rfl)
            simp only [List.length_map] at hw1
            cases len with
            | zero => exact ⟨.fro false (P.cellsOf e) [], .fro0 (fun h => by cases h), ⟨[], rfl, by simp, fun t ht => by cases ht⟩⟩
            | succ len =>
              have h0 := hat 0 (by omega)
              rw [List.getElem?_eq_getElem (by omega), Nat.zero_mul] at h0
              cases hc : W.cells? base (a.add 0) (P.cellsOf e) with
              | none => rw [hc] at h0; cases h0
              | some c =>
                obtain ⟨h7, h8⟩ := cells_at hc
                have h9 := h8 0 c[0] (List.getElem?_eq_getElem (by omega))
                have hadd : (a.add 0).add 0 = a := by simp [Addr.add]
                rw [hadd] at h9
                have hspot := spot_none h9
                obtain ⟨b, o, sp'⟩ := a
                simp only at hspot
                subst hspot
                obtain ⟨ts, cs, g1, g2, g3, g4⟩ := open_elems hes' (fun cs d ps h1 h2 => ih n (by omega) e T' m cs d ps hT' h1 h2) (len + 1) 0 elems hel (fun i hi => by rw [Nat.zero_add]; exact hat i hi) (fun x hx => hw x (.inr (.inl hx)))
                rw [Nat.zero_mul, Nat.add_zero] at g3
                refine ⟨.fro false (P.cellsOf e) ts, ?_, ⟨ts, rfl, ?_, g4⟩⟩
                · rw [← g1]
                  exact .fro g2 g3 (block_lt h9) (fun h => by cases h) (by rw [g1]; exact hlc)
                · rw [g1]
                  rw [hel] at hw1
                  exact Nat.le_trans (Nat.mul_le_mul_right _ (by omega)) hw1
      · cases hT
    · rename_i fs hu
      split at hT
      · rename_i l m hl
        split at hT
        · rename_i hm
          simp only [Option.some.injEq] at hT
          subst hT
          obtain ⟨xs, k, rfl, hx, hlen, hxl, hat⟩ := DataW.trod_struct hu h
          simp only [Prod.mk.injEq] at hx
          obtain ⟨rfl, rfl⟩ := hx
          simp only [DataW.weights, hu] at hw
          obtain ⟨_, ts, h2, h3⟩ := open_fields (D := n) (whole := cs) (fuel := k) (fun m hm t T cs d ps h1 h2 h3 => ih m (by omega) t T k cs d ps h1 h2 h3) fs.toList n 0 xs l m (Nat.le_refl _) hl (by simpa using hxl) (fun i f hf => hat i f (by simpa using hf)) hw (by omega)
          refine ⟨.agg m ts, ?_, ⟨ts, rfl, h3⟩⟩
          have e1 : (cs.drop 0).take (m - 0) = cs := by
            rw [List.drop_zero, Nat.sub_zero]; exact List.take_of_length_le (by omega)
          rw [e1] at h2
          exact .agg h2 (by omega)
        · cases hT
      · cases hT
    · rename_i k e hu
      split at hT
      · rename_i T' hT'
        split at hT
        · rename_i hsz
          simp only [Option.some.injEq] at hT
          subst hT
          obtain ⟨xs, m, rfl, hx, hlen, hxl, hat⟩ := DataW.trod_array hu h
          simp only [Prod.mk.injEq] at hx
          obtain ⟨rfl, rfl⟩ := hx
          simp only [DataW.weights, hu] at hw
          obtain ⟨ts, g1, g2, g3⟩ := open_parts (whole := cs) (fun cs d ps h1 h2 => ih n (by omega) e T' m cs d ps hT' h1 h2) k 0 xs hxl (fun i hi => by rw [Nat.zero_add]; exact hat i hi) (by rw [Nat.zero_add]; omega) hw
          refine ⟨.arr k (P.cellsOf e) ts, ?_, ⟨ts, rfl, g1, g3⟩⟩
          have e1 : (cs.drop (0 * P.cellsOf e)).take (k * P.cellsOf e) = cs := by
            rw [Nat.zero_mul, List.drop_zero]; exact List.take_of_length_le (by omega)
          rw [e1] at g2
          exact .arr g2 g1
        · cases hT
      · cases hT
    · cases hT
end
end Go.Ra

/- From what is shown of a law's function to the row's contract. -/
namespace Go.Ra
open Go.RowKit (Below)
open Go.ChangeShapes Go.WideShapes Go.ChangeAt Go.RowKit
set_option linter.unusedVariables false
set_option linter.unusedSimpArgs false
section
variable {P : Program} {H : Type} {enc : TypeId × Value → H} {W : World} {sp : Nat → Bool} {held : Bool} {base b0 : Nat}

theorem open_val {n : Nat} {t : TypeId} {T : Ty} {v : Value} {d : DataW H} {ps : List MemPlace} (hT : tyT P n t = some T) (hval : Value.okWide P W .any b0 t v) (h : DataW.Trod enc P W base sp held t v d ps) (hw : ∀ x ∈ d.weights P t, x ≤ 140737488351232) :
    ∃ a, RelV W (Low W) noIds a v ∧ T.has a := by
  obtain ⟨fuel, hf⟩ := h
  obtain ⟨a, h1, h2⟩ := open_trod n t T fuel _ d ps hT hf hw
  refine ⟨a, ?_, h2⟩
  cases n with
  | zero => simp [tyT] at hT
  | succ n =>
    simp only [tyT] at hT
    split at hT
    · rename_i k hu
      simp only [Option.some.injEq] at hT
      subst hT
      obtain ⟨x, rfl⟩ := okWide_int hu hval
      obtain ⟨y, rfl, _⟩ := h2
      exact .one (by simpa [Value.cells] using h1) rfl
    · rename_i hu
      simp only [Option.some.injEq] at hT
      subst hT
      obtain ⟨x, rfl⟩ := okWide_bool hu hval
      obtain ⟨y, rfl⟩ := h2
      exact .one (by simpa [Value.cells] using h1) rfl
    · rename_i hu
      simp only [Option.some.injEq] at hT
      subst hT
      obtain ⟨x, rfl⟩ := okWide_string hu hval
      obtain ⟨y, rfl, _⟩ := h2
      exact .one (by simpa [Value.cells] using h1) rfl
    · rename_i e hu
      obtain ⟨x, len, cap, rfl⟩ := okWide_slice hu hval
      split at hT
      · split at hT
        · cases hT
        · simp only [Option.some.injEq] at hT
          subst hT
          obtain ⟨ts, rfl, _⟩ := h2
          exact .one (by simpa [Value.cells] using h1) rfl
      · cases hT
    · rename_i fs hu
      simp only [Value.okWide, hu] at hval
      obtain ⟨cs, rfl, _⟩ := hval
      split at hT
      · split at hT
        · simp only [Option.some.injEq] at hT
          subst hT
          obtain ⟨ts, rfl, _⟩ := h2
          simpa using RelV.agg (cs := cs.toList) (by simpa [Value.cells] using h1) rfl
        · cases hT
      · cases hT
    · rename_i k e hu
      simp only [Value.okWide, hu] at hval
      obtain ⟨cs, rfl, _⟩ := hval
      split at hT
      · split at hT
        · simp only [Option.some.injEq] at hT
          subst hT
          obtain ⟨ts, rfl, _⟩ := h2
          simpa using RelV.agg (cs := cs.toList) (by simpa [Value.cells] using h1) rfl
        · cases hT
      · cases hT
    · cases hT

theorem open_all {n : Nat} : ∀ {ts : List TypeId} {Ts : List Ty} {vs : List Value} {ds : List (DataW H)} {ps : List MemPlace}, mapO (tyT P n) ts = some Ts → (∀ (j : Nat) (t : TypeId) (v : Value), ts[j]? = some t → vs[j]? = some v → Value.okWide P W .any b0 t v) →
    DataW.TrodAll enc P W base sp held ts vs ds ps → (∀ x ∈ DataW.weightsEach P ts ds, x ≤ 140737488351232) → ∃ as0, RelVs W (Low W) noIds as0 vs ∧ Ty.hasL Ts as0
  | [], Ts, [], [], ps, hT, hv, h, hw => by
    simp only [mapO, Option.some.injEq] at hT
    subst hT
    exact ⟨[], .nil, rfl⟩
  | t :: ts, Ts, v :: vs, d :: ds, ps, hT, hv, h, hw => by
    simp only [mapO] at hT
    split at hT
    · rename_i T Ts' hT1 hT2
      simp only [Option.some.injEq] at hT
      subst hT
      obtain ⟨p, q, h1, h2, rfl⟩ := h
      simp only [DataW.weightsEach, List.mem_append] at hw
      obtain ⟨a, h3, h4⟩ := open_val hT1 (hv 0 t v rfl rfl) h1 (fun x hx => hw x (.inl hx))
      obtain ⟨as0, h5, h6⟩ := open_all hT2 (fun j t' v' h7 h8 => hv (j + 1) t' v' (by simpa using h7) (by simpa using h8)) h2 (fun x hx => hw x (.inr hx))
      exact ⟨a :: as0, .cons h3 h5, ⟨a, as0, rfl, h4, h6⟩⟩
    · cases hT
  | [], Ts, v :: vs, ds, ps, hT, hv, h, hw => by cases ds <;> exact h.elim
  | [], Ts, [], d :: ds, ps, hT, hv, h, hw => h.elim
  | t :: ts, Ts, [], ds, ps, hT, hv, h, hw => by cases ds <;> exact h.elim
  | t :: ts, Ts, v :: vs, [], ps, hT, hv, h, hw => h.elim

theorem all_below (hl : laidOutB P = true) {W' : World} (hb : Below W.heap.size W W') : ∀ {ts : List TypeId} {vs : List Value} {ds : List (DataW H)} {ps : List MemPlace}, ts.all (fun t => P.readableRec t && decide (t < P.types.size)) = true →
    DataW.TrodAll enc P W 0 (fun _ => true) true ts vs ds ps → (∀ x ∈ ps, x.block < W.heap.size) → DataW.TrodAll enc P W' 0 (fun b => decide (b < W.heap.size)) true ts vs ds ps
  | [], [], [], ps, hr, h, hlt => h
  | t :: ts, v :: vs, d :: ds, ps, hr, h, hlt => by
    obtain ⟨p, q, h1, h2, rfl⟩ := h
    simp only [List.all_cons, Bool.and_eq_true, decide_eq_true_eq] at hr
    exact ⟨p, q, Below.trod hl hr.1.1 hr.1.2 h1 hb (fun x hx => hlt x (List.mem_append_left _ hx)), all_below hl hb hr.2 h2 (fun x hx => hlt x (List.mem_append_right _ hx)), rfl⟩
  | [], v :: vs, ds, ps, hr, h, hlt => by cases ds <;> exact h.elim
  | [], [], d :: ds, ps, hr, h, hlt => h.elim
  | t :: ts, [], ds, ps, hr, h, hlt => by cases ds <;> exact h.elim
  | t :: ts, v :: vs, [], ps, hr, h, hlt => h.elim

theorem all_len : ∀ {ts : List TypeId} {vs : List Value} {ds : List (DataW H)} {ps : List MemPlace}, DataW.TrodAll enc P W base sp held ts vs ds ps → ds.length = ts.length
  | [], [], [], ps, h => rfl
  | t :: ts, v :: vs, d :: ds, ps, h => by
    obtain ⟨p, q, h1, h2, rfl⟩ := h
    simp [all_len h2]
  | [], v :: vs, ds, ps, h => by cases ds <;> exact h.elim
  | [], [], d :: ds, ps, h => h.elim
  | t :: ts, [], ds, ps, h => by cases ds <;> exact h.elim
  | t :: ts, v :: vs, [], ps, h => h.elim
end

/-- The contract of a law that gives true whatever comes in. -/
theorem law_post {P : Program} {H : Type} {enc : TypeId × Value → H} {fn : Func} {f : Nat} {s : ChangeSpec} {ts : List TypeId} {Ts : List Ty} {tb : TypeId} {n : Nat} (hl : laidOutB P = true) (hp : fn.params.toList = ts) (hr : fn.resultTypes = #[tb]) (htb : P.underlying tb = some .bool)
    (hv : s.vars = []) (hTs : mapO (tyT P n) ts = some Ts) (hread : ts.all (fun t => P.readableRec t && decide (t < P.types.size)) = true)
    (hfn : ∀ ds : List (DataW H), ds.length = ts.length → (s.fn H ds).results = [.lit (.bool true)] ∧ (s.fn H ds).args = ds ∧ (s.fn H ds).vars = [])
    (hlaw : ∀ as0, Ty.hasL Ts as0 → Pure P f as0 (.sc (.bool true))) {apart : Bool} :
    ∀ (W : World) (base : Nat) (args : Array Value) (ds gs : List (DataW H)) (before : List MemPlace),
      (∀ (j : Nat) t v, fn.params[j]? = some t → args[j]? = some v → Value.okWide P W .any base t v) →
      DataW.Whole enc P fn.params.toList s.vars apart W args.toList ds gs before →
      (DataW.weightsEach P (fn.params.toList ++ s.plain.varTypes P) (ds ++ gs)).all (· ≤ reachBytes) = true →
      Calls P f args W fun e W' => ∃ v, e = .returned v ∧ s.post enc P fn apart true false false W args v W' := by
  intro W base args ds gs before hval hW hsz
  have hW' := hW
  obtain ⟨p, q, hA, hV, rfl, hfz, hnd⟩ := hW
  rw [hv] at hV
  have hgs : gs = [] ∧ q = [] := by
    cases gs with
    | nil => exact ⟨rfl, hV⟩
    | cons g gs => exact hV.elim
  obtain ⟨rfl, rfl⟩ := hgs
  rw [hp] at hA
  have hvt : s.plain.varTypes P = [] := by
    simp only [ChangeSpec.plain, DataSpec.varTypes, hv]
    rfl
  rw [hvt, List.append_nil, List.append_nil, hp] at hsz
  obtain ⟨as0, h1, h2⟩ := open_all (b0 := base) hTs (fun j t v hj hvj => hval j t v (by rw [← Array.getElem?_toList, hp]; exact hj) (by rw [← Array.getElem?_toList]; exact hvj)) hA (fun x hx => by
    have := List.all_eq_true.1 hsz x hx
    exact of_decide_eq_true this)
  obtain ⟨_, hc⟩ := hlaw as0 h2
  have := hc W (Low W) args.toList (fun b hb => hb) h1
  rw [Array.toArray_toList] at this
  refine this.mono fun e W' ⟨u, F', he, hb, _, _, hrel⟩ => ?_
  obtain ⟨hu, _⟩ := hrel.sc_inv
  subst hu
  obtain ⟨g1, g2, g3⟩ := hfn ds (all_len hA)
  have hlt := hA.lt
  refine ⟨_, he, ds, [], _, [], p, [], hW', ?_, ?_, ?_, hb.frame _, fun h => by cases h⟩
  · rw [List.append_nil, g1, hr]
    exact trodAll_mk1 (shut_bool htb _)
  · rw [List.append_nil, g2, hp]
    exact all_below hl hb hread hA hlt
  · rw [List.append_nil, g3, hv]
    rfl
end Go.Ra

/- Which functions leave memory alone, by number. -/
namespace Go.Proofs.Ytmfbaglhmiadjaa
open Go.Ra
/-- A number n: that function leaves memory alone; n + 1000000: it only makes memory; n + 2000000: its appends onto nil are only read. -/
def qq : Nat → Bool := qs [0, 1, 2, 3, 4, 5, 6, 7, 8, 9, 10, 11, 12, 13, 14, 15, 16, 19, 20, 22, 23, 24, 25, 26, 27, 28, 34, 35, 36, 38, 39, 40, 41, 42, 43, 44, 45, 46, 47, 48, 49, 51, 53, 54, 55, 57, 58, 59, 60, 61, 62, 63, 64, 65, 66, 67, 68, 69, 70, 71, 73, 74, 75, 76, 77, 78, 79, 80, 81, 82, 83, 84, 85, 86, 87, 88, 89, 90, 91, 92, 93, 94, 95, 96, 97, 1000017, 1000031, 1000032, 2000007, 2000009, 4000006010, 5000300021, 5000300017, 5000400021, 5000400017, 5000500021, 5000500017, 5000600021, 5000600017, 5000700021, 5000700017, 5000800021, 5000800017, 5000900021, 5000900017, 5001000021, 5001000017, 5001100021, 5001100017, 5001900021, 5001900017]
theorem mix : Try.prog.follows .mixedOrders = true := by kernel_rfl
end Go.Proofs.Ytmfbaglhmiadjaa

/- Abstract code of the functions of ref1: printed by a program from what the given translation yields. -/
namespace Go.Proofs.Ytmfbaglhmiadjaa
open Go.Ra
def c_ref1_RightProgram_l1 : AC := (.seq (.seq (.ops [⟨(.some 32), (.mv (.t 3)), .none⟩, ⟨(.some 33), (.fadr 0 0 1 (.t 1)), .none⟩, ⟨(.some 34), (.load .false 1 (.t 33)), .none⟩, ⟨(.some 35), (.len .none (.t 34)), .none⟩, ⟨(.some 36), (.bin .lss (.t 32) (.t 35)), .none⟩]) (.cond (.t 36) .skip (.exit 0))) (.seq (.block 1 (.seq (.ops [⟨(.some 39), (.fadr 0 0 1 (.t 1)), .none⟩, ⟨(.some 40), (.load .false 1 (.t 39)), .none⟩, ⟨(.some 41), (.mv (.t 3)), .none⟩, ⟨(.some 42), (.iadr .none 5 (.t 40) (.t 41)), .none⟩, ⟨(.some 43), (.load .true 5 (.t 42)), .none⟩, ⟨(.some 44), (.call 25 [(.t 43)]), .none⟩, ⟨(.some 45), (.un .not (.t 44)), .none⟩]) (.cond (.t 45) (.seq (.ops [⟨(.some 2), (.mv (.c (.sc (.bool .false)))), .none⟩]) .ret) .skip))) (.ops [⟨(.some 37), (.mv (.t 3)), .none⟩, ⟨(.some 38), (.bin .add (.t 37) (.c (.sc (.int .i64 1)))), .none⟩, ⟨(.some 3), (.mv (.t 38)), .none⟩])))
def c_ref1_RightProgram_p1 : AC := (.seq (.ops [⟨(.some 46), (.load .true 3 (.t 1)), .none⟩, ⟨(.some 47), (.call 27 [(.t 46)]), .none⟩, ⟨(.some 48), (.bin .eql (.t 47) (.c (.sc (.int .i64 0)))), .none⟩, ⟨(.some 2), (.mv (.t 48)), .none⟩]) .ret)
def c_ref1_RightProgram : AC := (.seq (.ops [⟨(.some 1), (.box (.t 0)), .none⟩, ⟨(.some 2), (.mv (.c (.sc (.bool .false)))), .none⟩]) (.seq (.seq (.ops [⟨(.some 4), (.fadr 0 0 1 (.t 1)), .none⟩, ⟨(.some 5), (.load .false 1 (.t 4)), .none⟩, ⟨(.some 6), (.len .none (.t 5)), .none⟩, ⟨(.some 7), (.bin .lss (.t 6) (.c (.sc (.int .i64 1)))), .none⟩, ⟨(.some 8), (.mv (.t 7)), .none⟩, ⟨(.some 9), (.fadr 0 0 1 (.t 1)), (.some (8, .false))⟩, ⟨(.some 10), (.load .false 1 (.t 9)), (.some (8, .false))⟩, ⟨(.some 11), (.len .none (.t 10)), (.some (8, .false))⟩, ⟨(.some 12), (.bin .gtr (.t 11) (.c (.sc (.int .i64 2000)))), (.some (8, .false))⟩, ⟨(.some 13), (.pick (.t 8) (.c (.sc (.bool .true))) (.t 12)), .none⟩, ⟨(.some 14), (.mv (.t 13)), .none⟩, ⟨(.some 15), (.fadr 1 1 1 (.t 1)), (.some (14, .false))⟩, ⟨(.some 16), (.load .false 1 (.t 15)), (.some (14, .false))⟩, ⟨(.some 17), (.bin .lss (.t 16) (.c (.sc (.int .i64 0)))), (.some (14, .false))⟩, ⟨(.some 18), (.pick (.t 14) (.c (.sc (.bool .true))) (.t 17)), .none⟩, ⟨(.some 19), (.mv (.t 18)), .none⟩, ⟨(.some 20), (.fadr 1 1 1 (.t 1)), (.some (19, .false))⟩, ⟨(.some 21), (.load .false 1 (.t 20)), (.some (19, .false))⟩, ⟨(.some 22), (.bin .gtr (.t 21) (.c (.sc (.int .i64 65536)))), (.some (19, .false))⟩, ⟨(.some 23), (.pick (.t 19) (.c (.sc (.bool .true))) (.t 22)), .none⟩, ⟨(.some 24), (.mv (.t 23)), .none⟩, ⟨(.some 25), (.fadr 2 2 1 (.t 1)), (.some (24, .false))⟩, ⟨(.some 26), (.load .false 1 (.t 25)), (.some (24, .false))⟩, ⟨(.some 27), (.len .none (.t 26)), (.some (24, .false))⟩, ⟨(.some 28), (.fadr 1 1 1 (.t 1)), (.some (24, .false))⟩, ⟨(.some 29), (.load .false 1 (.t 28)), (.some (24, .false))⟩, ⟨(.some 30), (.bin .gtr (.t 27) (.t 29)), (.some (24, .false))⟩, ⟨(.some 31), (.pick (.t 24) (.c (.sc (.bool .true))) (.t 30)), .none⟩]) (.cond (.t 31) (.seq (.ops [⟨(.some 2), (.mv (.c (.sc (.bool .false)))), .none⟩]) .ret) .skip)) (.seq (.seq (.ops [⟨(.some 3), (.mv (.c (.sc (.int .i64 0)))), .none⟩]) (.block 0 (.loop c_ref1_RightProgram_l1))) c_ref1_RightProgram_p1)))
theorem t_ref1_RightProgram : trF Try.prog qq 12 = some (49, [(.tmp 2)], c_ref1_RightProgram) := by kernel_rfl
def c_ref1_First : AC := (.seq (.ops [⟨(.some 1), (.box (.t 0)), .none⟩, ⟨(.some 2), (.mv (.c (.fro .true 0 []))), .none⟩]) (.seq (.ops [⟨(.some 4), (.fadr 1 1 1 (.t 1)), .none⟩, ⟨(.some 5), (.load .false 1 (.t 4)), .none⟩, ⟨(.some 6), (.mks 1 1 (.sc (.int .u8 0)) (.t 5)), .none⟩, ⟨(.some 3), (.mv (.t 6)), .none⟩]) (.seq (.ops [⟨(.some 7), (.mv (.t 3)), .none⟩, ⟨(.some 8), (.fadr 2 2 1 (.t 1)), .none⟩, ⟨(.some 9), (.load .false 1 (.t 8)), .none⟩, ⟨(.some 10), (.copy 1 (.t 7) (.t 9)), .none⟩]) (.seq (.ops [⟨(.some 11), (.mv (.t 3)), .none⟩, ⟨(.some 2), (.mv (.t 11)), .none⟩]) .ret))))
theorem t_ref1_First : trF Try.prog qq 14 = some (12, [(.tmp 2)], c_ref1_First) := by kernel_rfl
def c_ref1_Check : AC := (.seq (.ops [⟨(.some 6), (.mv (.c (.sc (.int .i64 0)))), .none⟩]) (.seq (.seq (.ops [⟨(.some 7), (.mv (.t 0)), .none⟩, ⟨(.some 8), (.bin .geq (.t 7) (.c (.sc (.int .i64 1)))), .none⟩, ⟨(.some 9), (.mv (.t 8)), .none⟩, ⟨(.some 10), (.mv (.t 1)), (.some (9, .true))⟩, ⟨(.some 11), (.conv .i64 (.t 10)), (.some (9, .true))⟩, ⟨(.some 12), (.mv (.t 0)), (.some (9, .true))⟩, ⟨(.some 13), (.bin .rem (.t 11) (.t 12)), (.some (9, .true))⟩, ⟨(.some 14), (.bin .neq (.t 13) (.c (.sc (.int .i64 0)))), (.some (9, .true))⟩, ⟨(.some 15), (.pick (.t 9) (.t 14) (.c (.sc (.bool .false)))), .none⟩]) (.cond (.t 15) (.seq (.ops [⟨(.some 6), (.mv (.c (.sc (.int .i64 1)))), .none⟩]) .ret) .skip)) (.seq (.seq (.ops [⟨(.some 16), (.mv (.t 0)), .none⟩, ⟨(.some 17), (.bin .gtr (.t 16) (.c (.sc (.int .i64 0)))), .none⟩, ⟨(.some 18), (.mv (.t 17)), .none⟩, ⟨(.some 19), (.mv (.t 2)), (.some (18, .true))⟩, ⟨(.some 20), (.mv (.t 0)), (.some (18, .true))⟩, ⟨(.some 21), (.bin .lss (.t 19) (.t 20)), (.some (18, .true))⟩, ⟨(.some 22), (.mv (.t 21)), (.some (18, .true))⟩, ⟨(.some 23), (.mv (.t 1)), (.some (22, .false))⟩, ⟨(.some 24), (.conv .i64 (.t 23)), (.some (22, .false))⟩, ⟨(.some 25), (.mv (.t 2)), (.some (22, .false))⟩, ⟨(.some 26), (.mv (.t 0)), (.some (22, .false))⟩, ⟨(.some 27), (.bin .sub (.t 25) (.t 26)), (.some (22, .false))⟩, ⟨(.some 28), (.bin .gtr (.t 24) (.t 27)), (.some (22, .false))⟩, ⟨(.some 29), (.pick (.t 22) (.c (.sc (.bool .true))) (.t 28)), (.some (18, .true))⟩, ⟨(.some 30), (.pick (.t 18) (.t 29) (.c (.sc (.bool .false)))), .none⟩, ⟨(.some 31), (.mv (.t 30)), .none⟩, ⟨(.some 32), (.mv (.t 0)), (.some (31, .false))⟩, ⟨(.some 33), (.bin .leq (.t 32) (.c (.sc (.int .i64 0)))), (.some (31, .false))⟩, ⟨(.some 34), (.mv (.t 33)), (.some (31, .false))⟩, ⟨(.some 35), (.mv (.t 2)), (.some (34, .true))⟩, ⟨(.some 36), (.mv (.t 1)), (.some (34, .true))⟩, ⟨(.some 37), (.conv .i64 (.t 36)), (.some (34, .true))⟩, ⟨(.some 38), (.mv (.t 0)), (.some (34, .true))⟩, ⟨(.some 39), (.bin .add (.t 37) (.t 38)), (.some (34, .true))⟩, ⟨(.some 40), (.bin .lss (.t 35) (.t 39)), (.some (34, .true))⟩, ⟨(.some 41), (.pick (.t 34) (.t 40) (.c (.sc (.bool .false)))), (.some (31, .false))⟩, ⟨(.some 42), (.pick (.t 31) (.c (.sc (.bool .true))) (.t 41)), .none⟩]) (.cond (.t 42) (.seq (.ops [⟨(.some 6), (.mv (.c (.sc (.int .i64 2)))), .none⟩]) .ret) .skip)) (.seq (.ops [⟨(.some 6), (.mv (.c (.sc (.int .i64 0)))), .none⟩]) .ret))))
theorem t_ref1_Check : trF Try.prog qq 15 = some (43, [(.tmp 6)], c_ref1_Check) := by kernel_rfl
def c_ref1_Mask : AC := (.seq (.ops [⟨(.some 4), (.mv (.c (.sc (.int .u32 0)))), .none⟩]) (.seq (.seq (.ops [⟨(.some 5), (.mv (.t 1)), .none⟩]) (.block 0 (.seq (.ops [⟨(.some 7), (.bin .eql (.t 5) (.c (.sc (.int .i64 1)))), .none⟩, ⟨(.some 6), (.mv (.t 7)), .none⟩]) (.cond (.t 6) (.seq (.ops [⟨(.some 8), (.mv (.t 0)), .none⟩, ⟨(.some 9), (.bin .and (.t 8) (.c (.sc (.int .u32 255)))), .none⟩, ⟨(.some 4), (.mv (.t 9)), .none⟩]) .ret) (.seq (.ops [⟨(.some 11), (.bin .eql (.t 5) (.c (.sc (.int .i64 2)))), .none⟩, ⟨(.some 10), (.mv (.t 11)), .none⟩]) (.cond (.t 10) (.seq (.ops [⟨(.some 12), (.mv (.t 0)), .none⟩, ⟨(.some 13), (.bin .and (.t 12) (.c (.sc (.int .u32 65535)))), .none⟩, ⟨(.some 4), (.mv (.t 13)), .none⟩]) .ret) (.seq (.ops [⟨(.some 15), (.bin .eql (.t 5) (.c (.sc (.int .i64 4)))), .none⟩, ⟨(.some 14), (.mv (.t 15)), .none⟩]) (.cond (.t 14) (.seq (.ops [⟨(.some 16), (.mv (.t 0)), .none⟩, ⟨(.some 4), (.mv (.t 16)), .none⟩]) .ret) .skip)))))))) (.seq (.ops [⟨(.some 4), (.mv (.c (.sc (.int .u32 0)))), .none⟩]) .ret)))
theorem t_ref1_Mask : trF Try.prog qq 16 = some (17, [(.tmp 4)], c_ref1_Mask) := by kernel_rfl
def c_ref1_Store_l1 : AC := (.seq (.seq (.ops [⟨(.some 44), (.mv (.t 6)), .none⟩, ⟨(.some 45), (.fadr 1 1 1 (.t 3)), .none⟩, ⟨(.some 46), (.load .false 1 (.t 45)), .none⟩, ⟨(.some 47), (.bin .lss (.t 44) (.t 46)), .none⟩]) (.cond (.t 47) .skip (.exit 0))) (.seq (.block 1 (.ops [⟨(.some 50), (.mv (.t 5)), .none⟩, ⟨(.some 51), (.fadr 0 0 1 (.t 3)), .none⟩, ⟨(.some 52), (.load .false 1 (.t 51)), .none⟩, ⟨(.some 53), (.mv (.t 6)), .none⟩, ⟨(.some 54), (.bin .add (.t 52) (.t 53)), .none⟩, ⟨(.some 55), (.fadr 2 2 1 (.t 3)), .none⟩, ⟨(.some 56), (.load .false 1 (.t 55)), .none⟩, ⟨(.some 57), (.mv (.t 6)), .none⟩, ⟨(.some 58), (.bin .mul (.c (.sc (.int .i64 8))) (.t 57)), .none⟩, ⟨(.some 59), (.conv .u64 (.t 58)), .none⟩, ⟨(.some 60), (.bin .shr (.t 56) (.t 59)), .none⟩, ⟨(.some 61), (.conv .u8 (.t 60)), .none⟩, ⟨(.some 62), (.iadr .none 1 (.t 50) (.t 54)), .none⟩, ⟨.none, (.store 1 (.t 62) (.t 61)), .none⟩])) (.ops [⟨(.some 48), (.mv (.t 6)), .none⟩, ⟨(.some 49), (.bin .add (.t 48) (.c (.sc (.int .i64 1)))), .none⟩, ⟨(.some 6), (.mv (.t 49)), .none⟩])))
def c_ref1_Store_p1 : AC := (.seq (.ops [⟨(.some 63), (.mv (.t 5)), .none⟩, ⟨(.some 4), (.mv (.t 63)), .none⟩]) .ret)
def c_ref1_Store : AC := (.seq (.ops [⟨(.some 3), (.box (.t 1)), .none⟩, ⟨(.some 4), (.mv (.c (.fro .true 0 []))), .none⟩]) (.seq (.ops [⟨(.some 7), (.mv (.t 0)), .none⟩, ⟨(.some 8), (.app 1 1 (.c (.fro .true 0 [])) (.t 7)), .none⟩, ⟨(.some 5), (.mv (.t 8)), .none⟩]) (.seq (.seq (.ops [⟨(.some 9), (.fadr 1 1 1 (.t 3)), .none⟩, ⟨(.some 10), (.load .false 1 (.t 9)), .none⟩, ⟨(.some 11), (.bin .neq (.t 10) (.c (.sc (.int .i64 1)))), .none⟩, ⟨(.some 12), (.mv (.t 11)), .none⟩, ⟨(.some 13), (.fadr 1 1 1 (.t 3)), (.some (12, .true))⟩, ⟨(.some 14), (.load .false 1 (.t 13)), (.some (12, .true))⟩, ⟨(.some 15), (.bin .neq (.t 14) (.c (.sc (.int .i64 2)))), (.some (12, .true))⟩, ⟨(.some 16), (.pick (.t 12) (.t 15) (.c (.sc (.bool .false)))), .none⟩, ⟨(.some 17), (.mv (.t 16)), .none⟩, ⟨(.some 18), (.fadr 1 1 1 (.t 3)), (.some (17, .true))⟩, ⟨(.some 19), (.load .false 1 (.t 18)), (.some (17, .true))⟩, ⟨(.some 20), (.bin .neq (.t 19) (.c (.sc (.int .i64 4)))), (.some (17, .true))⟩, ⟨(.some 21), (.pick (.t 17) (.t 20) (.c (.sc (.bool .false)))), .none⟩, ⟨(.some 22), (.mv (.t 21)), .none⟩, ⟨(.some 23), (.fadr 0 0 1 (.t 3)), (.some (22, .false))⟩, ⟨(.some 24), (.load .false 1 (.t 23)), (.some (22, .false))⟩, ⟨(.some 25), (.bin .lss (.t 24) (.c (.sc (.int .i64 0)))), (.some (22, .false))⟩, ⟨(.some 26), (.pick (.t 22) (.c (.sc (.bool .true))) (.t 25)), .none⟩, ⟨(.some 27), (.mv (.t 26)), .none⟩, ⟨(.some 28), (.fadr 0 0 1 (.t 3)), (.some (27, .false))⟩, ⟨(.some 29), (.load .false 1 (.t 28)), (.some (27, .false))⟩, ⟨(.some 30), (.bin .gtr (.t 29) (.c (.sc (.int .i64 4294967295)))), (.some (27, .false))⟩, ⟨(.some 31), (.pick (.t 27) (.c (.sc (.bool .true))) (.t 30)), .none⟩, ⟨(.some 32), (.mv (.t 31)), .none⟩, ⟨(.some 33), (.fadr 1 1 1 (.t 3)), (.some (32, .false))⟩, ⟨(.some 34), (.load .false 1 (.t 33)), (.some (32, .false))⟩, ⟨(.some 35), (.fadr 0 0 1 (.t 3)), (.some (32, .false))⟩, ⟨(.some 36), (.load .false 1 (.t 35)), (.some (32, .false))⟩, ⟨(.some 37), (.conv .u32 (.t 36)), (.some (32, .false))⟩, ⟨(.some 38), (.mv (.t 0)), (.some (32, .false))⟩, ⟨(.some 39), (.len .none (.t 38)), (.some (32, .false))⟩, ⟨(.some 40), (.call 15 [(.t 34), (.t 37), (.t 39)]), (.some (32, .false))⟩, ⟨(.some 41), (.bin .neq (.t 40) (.c (.sc (.int .i64 0)))), (.some (32, .false))⟩, ⟨(.some 42), (.pick (.t 32) (.c (.sc (.bool .true))) (.t 41)), .none⟩]) (.cond (.t 42) (.seq (.ops [⟨(.some 43), (.mv (.t 5)), .none⟩, ⟨(.some 4), (.mv (.t 43)), .none⟩]) .ret) .skip)) (.seq (.seq (.ops [⟨(.some 6), (.mv (.c (.sc (.int .i64 0)))), .none⟩]) (.block 0 (.loop c_ref1_Store_l1))) c_ref1_Store_p1))))
theorem t_ref1_Store : trF Try.prog qq 17 = some (64, [(.tmp 4)], c_ref1_Store) := by kernel_rfl
def c_ref1_Put : AC := (.seq (.ops [⟨(.some 4), (.mv (.c (.fro .true 0 []))), .none⟩]) (.seq (.ops [⟨(.some 5), (.mv (.t 0)), .none⟩, ⟨(.some 6), (.mv (.t 1)), .none⟩, ⟨(.some 7), (.conv .u8 (.t 6)), .none⟩, ⟨(.some 8), (.mv (.t 1)), .none⟩, ⟨(.some 9), (.bin .shr (.t 8) (.c (.sc (.int .u64 8)))), .none⟩, ⟨(.some 10), (.conv .u8 (.t 9)), .none⟩, ⟨(.some 11), (.mv (.t 1)), .none⟩, ⟨(.some 12), (.bin .shr (.t 11) (.c (.sc (.int .u64 16)))), .none⟩, ⟨(.some 13), (.conv .u8 (.t 12)), .none⟩, ⟨(.some 14), (.mv (.t 1)), .none⟩, ⟨(.some 15), (.bin .shr (.t 14) (.c (.sc (.int .u64 24)))), .none⟩, ⟨(.some 16), (.conv .u8 (.t 15)), .none⟩, ⟨(.some 17), (.bsl 1 [(.t 7), (.t 10), (.t 13), (.t 16)]), .none⟩, ⟨(.some 18), (.app 1 1 (.t 5) (.t 17)), .none⟩, ⟨(.some 4), (.mv (.t 18)), .none⟩]) .ret))
theorem t_ref1_Put : trF Try.prog qq 18 = some (19, [(.tmp 4)], c_ref1_Put) := by kernel_rfl
def c_ref1_Copy : AC := (.seq (.ops [⟨(.some 1), (.box (.t 0)), .none⟩, ⟨(.some 2), (.box (.c (.agg 23 [(.sc (.int .i64 0)), (.agg 3 [(.sc (.int .i64 0)), (.sc (.int .i64 0)), (.sc (.int .i64 0))]), (.sc (.int .i64 0)), (.arr 16 1 [(.sc (.int .u32 0)), (.sc (.int .u32 0)), (.sc (.int .u32 0)), (.sc (.int .u32 0)), (.sc (.int .u32 0)), (.sc (.int .u32 0)), (.sc (.int .u32 0)), (.sc (.int .u32 0)), (.sc (.int .u32 0)), (.sc (.int .u32 0)), (.sc (.int .u32 0)), (.sc (.int .u32 0)), (.sc (.int .u32 0)), (.sc (.int .u32 0)), (.sc (.int .u32 0)), (.sc (.int .u32 0))]), (.fro .true 0 []), (.fro .true 0 [])]))), .none⟩]) (.seq (.ops [⟨(.some 3), (.fadr 4 21 1 (.t 1)), .none⟩, ⟨(.some 4), (.load .false 1 (.t 3)), .none⟩, ⟨(.some 5), (.app 1 1 (.c (.fro .true 0 [])) (.t 4)), .none⟩, ⟨(.some 6), (.fadr 4 21 1 (.t 1)), .none⟩, ⟨.none, (.store 1 (.t 6) (.t 5)), .none⟩]) (.seq (.ops [⟨(.some 7), (.fadr 5 22 1 (.t 1)), .none⟩, ⟨(.some 8), (.load .false 1 (.t 7)), .none⟩, ⟨(.some 9), (.app 3 24 (.c (.fro .true 0 [])) (.t 8)), .none⟩, ⟨(.some 10), (.fadr 5 22 1 (.t 1)), .none⟩, ⟨.none, (.store 1 (.t 10) (.t 9)), .none⟩]) (.seq (.ops [⟨(.some 11), (.load .true 23 (.t 1)), .none⟩, ⟨.none, (.store 23 (.t 2) (.t 11)), .none⟩]) .ret))))
theorem t_ref1_Copy : trF Try.prog qq 21 = some (12, [(.cell 2 .true 23)], c_ref1_Copy) := by kernel_rfl
def c_ref1_Step : AC := (.seq (.ops [⟨(.some 3), (.box (.t 0)), .none⟩, ⟨(.some 4), (.box (.t 1)), .none⟩, ⟨(.some 6), (.box (.c (.agg 23 [(.sc (.int .i64 0)), (.agg 3 [(.sc (.int .i64 0)), (.sc (.int .i64 0)), (.sc (.int .i64 0))]), (.sc (.int .i64 0)), (.arr 16 1 [(.sc (.int .u32 0)), (.sc (.int .u32 0)), (.sc (.int .u32 0)), (.sc (.int .u32 0)), (.sc (.int .u32 0)), (.sc (.int .u32 0)), (.sc (.int .u32 0)), (.sc (.int .u32 0)), (.sc (.int .u32 0)), (.sc (.int .u32 0)), (.sc (.int .u32 0)), (.sc (.int .u32 0)), (.sc (.int .u32 0)), (.sc (.int .u32 0)), (.sc (.int .u32 0)), (.sc (.int .u32 0))]), (.fro .true 0 []), (.fro .true 0 [])]))), .none⟩, ⟨(.some 7), (.mv (.c (.sc (.int .i64 0)))), .none⟩]) (.seq (.ops [⟨(.some 18), (.load .true 23 (.t 4)), .none⟩, ⟨(.some 19), (.call 21 [(.t 18)]), .none⟩, ⟨.none, (.store 23 (.t 4) (.t 19)), .none⟩]) (.seq (.seq (.ops [⟨(.some 20), (.fadr 0 0 1 (.t 4)), .none⟩, ⟨(.some 21), (.load .false 1 (.t 20)), .none⟩, ⟨(.some 22), (.bin .neq (.t 21) (.c (.sc (.int .i64 0)))), .none⟩, ⟨(.some 23), (.mv (.t 22)), .none⟩, ⟨(.some 24), (.load .true 3 (.t 3)), (.some (23, .false))⟩, ⟨(.some 25), (.call 12 [(.t 24)]), (.some (23, .false))⟩, ⟨(.some 26), (.un .not (.t 25)), (.some (23, .false))⟩, ⟨(.some 27), (.pick (.t 23) (.c (.sc (.bool .true))) (.t 26)), .none⟩, ⟨(.some 28), (.mv (.t 27)), .none⟩, ⟨(.some 29), (.fadr 4 21 1 (.t 4)), (.some (28, .false))⟩, ⟨(.some 30), (.load .false 1 (.t 29)), (.some (28, .false))⟩, ⟨(.some 31), (.len .none (.t 30)), (.some (28, .false))⟩, ⟨(.some 32), (.fadr 1 1 1 (.t 3)), (.some (28, .false))⟩, ⟨(.some 33), (.load .false 1 (.t 32)), (.some (28, .false))⟩, ⟨(.some 34), (.bin .neq (.t 31) (.t 33)), (.some (28, .false))⟩, ⟨(.some 35), (.pick (.t 28) (.c (.sc (.bool .true))) (.t 34)), .none⟩]) (.cond (.t 35) (.seq (.ops [⟨(.some 36), (.load .true 23 (.t 4)), .none⟩, ⟨(.some 37), (.mv (.t 2)), .none⟩, ⟨.none, (.store 23 (.t 6) (.t 36)), .none⟩, ⟨(.some 7), (.mv (.t 37)), .none⟩]) .ret) .skip)) (.seq (.seq (.ops [⟨(.some 38), (.mv (.t 2)), .none⟩, ⟨(.some 39), (.bin .lss (.t 38) (.c (.sc (.int .i64 0)))), .none⟩, ⟨(.some 40), (.mv (.t 39)), .none⟩, ⟨(.some 41), (.mv (.t 2)), (.some (40, .false))⟩, ⟨(.some 42), (.fadr 0 0 1 (.t 3)), (.some (40, .false))⟩, ⟨(.some 43), (.load .false 1 (.t 42)), (.some (40, .false))⟩, ⟨(.some 44), (.len .none (.t 43)), (.some (40, .false))⟩, ⟨(.some 45), (.bin .geq (.t 41) (.t 44)), (.some (40, .false))⟩, ⟨(.some 46), (.pick (.t 40) (.c (.sc (.bool .true))) (.t 45)), .none⟩]) (.cond (.t 46) (.seq (.ops [⟨(.some 47), (.load .true 23 (.t 4)), .none⟩, ⟨(.some 48), (.mv (.t 2)), .none⟩, ⟨(.some 49), (.call 33 [(.t 47), (.c (.sc (.int .i64 4))), (.t 48)]), .none⟩, ⟨(.some 50), (.ext (.t 49) 0), .none⟩, ⟨(.some 51), (.ext (.t 49) 1), .none⟩, ⟨.none, (.store 23 (.t 6) (.t 50)), .none⟩, ⟨(.some 7), (.mv (.t 51)), .none⟩]) .ret) .skip)) (.seq (.ops [⟨(.some 52), (.fadr 0 0 1 (.t 3)), .none⟩, ⟨(.some 53), (.load .false 1 (.t 52)), .none⟩, ⟨(.some 54), (.mv (.t 2)), .none⟩, ⟨(.some 55), (.iadr .none 5 (.t 53) (.t 54)), .none⟩, ⟨(.some 56), (.load .true 5 (.t 55)), .none⟩, ⟨(.some 8), (.box (.c (.agg 5 [(.sc (.int .i64 0)), (.sc (.int .i64 0)), (.sc (.int .i64 0)), (.sc (.int .i64 0)), (.sc (.int .i64 0))]))), .none⟩, ⟨.none, (.store 5 (.t 8) (.t 56)), .none⟩]) (.seq (.ops [⟨(.some 57), (.fadr 3 5 16 (.t 4)), .none⟩, ⟨(.some 58), (.load .true 16 (.t 57)), .none⟩, ⟨(.some 59), (.fadr 2 2 1 (.t 8)), .none⟩, ⟨(.some 60), (.load .false 1 (.t 59)), .none⟩, ⟨(.some 61), (.call 34 [(.t 58), (.t 60)]), .none⟩, ⟨(.some 9), (.mv (.t 61)), .none⟩]) (.seq (.ops [⟨(.some 62), (.fadr 3 5 16 (.t 4)), .none⟩, ⟨(.some 63), (.load .true 16 (.t 62)), .none⟩, ⟨(.some 64), (.fadr 3 3 1 (.t 8)), .none⟩, ⟨(.some 65), (.load .false 1 (.t 64)), .none⟩, ⟨(.some 66), (.call 34 [(.t 63), (.t 65)]), .none⟩, ⟨(.some 10), (.mv (.t 66)), .none⟩]) (.seq (.ops [⟨(.some 67), (.mv (.t 2)), .none⟩, ⟨(.some 68), (.bin .add (.t 67) (.c (.sc (.int .i64 1)))), .none⟩, ⟨(.some 11), (.mv (.t 68)), .none⟩]) (.seq (.ops [⟨(.some 69), (.mv (.t 9)), .none⟩, ⟨(.some 70), (.fadr 4 4 1 (.t 8)), .none⟩, ⟨(.some 71), (.load .false 1 (.t 70)), .none⟩, ⟨(.some 72), (.conv .u32 (.t 71)), .none⟩, ⟨(.some 73), (.bin .add (.t 69) (.t 72)), .none⟩, ⟨(.some 12), (.mv (.t 73)), .none⟩]) (.seq (.ops [⟨(.some 74), (.fadr 0 0 1 (.t 8)), .none⟩, ⟨(.some 75), (.load .false 1 (.t 74)), .none⟩, ⟨(.some 76), (.call 26 [(.t 75)]), .none⟩, ⟨(.some 13), (.mv (.t 76)), .none⟩]) (.seq (.seq (.ops [⟨(.some 77), (.mv (.t 13)), .none⟩, ⟨(.some 78), (.bin .eql (.t 77) (.c (.sc (.int .i64 4)))), .none⟩, ⟨(.some 79), (.mv (.t 78)), .none⟩, ⟨(.some 80), (.mv (.t 13)), (.some (79, .false))⟩, ⟨(.some 81), (.bin .eql (.t 80) (.c (.sc (.int .i64 5)))), (.some (79, .false))⟩, ⟨(.some 82), (.pick (.t 79) (.c (.sc (.bool .true))) (.t 81)), .none⟩]) (.cond (.t 82) (.seq (.ops [⟨(.some 83), (.fadr 0 0 1 (.t 8)), .none⟩, ⟨(.some 84), (.load .false 1 (.t 83)), .none⟩, ⟨(.some 85), (.call 35 [(.t 84)]), .none⟩, ⟨(.some 86), (.mv (.t 12)), .none⟩, ⟨(.some 87), (.fadr 1 1 1 (.t 3)), .none⟩, ⟨(.some 88), (.load .false 1 (.t 87)), .none⟩, ⟨(.some 89), (.call 15 [(.t 85), (.t 86), (.t 88)]), .none⟩, ⟨(.some 14), (.mv (.t 89)), .none⟩]) (.seq (.ops [⟨(.some 90), (.mv (.t 14)), .none⟩, ⟨(.some 91), (.bin .neq (.t 90) (.c (.sc (.int .i64 0)))), .none⟩]) (.cond (.t 91) (.seq (.ops [⟨(.some 92), (.load .true 23 (.t 4)), .none⟩, ⟨(.some 93), (.mv (.t 14)), .none⟩, ⟨(.some 94), (.mv (.t 2)), .none⟩, ⟨(.some 95), (.call 33 [(.t 92), (.t 93), (.t 94)]), .none⟩, ⟨(.some 96), (.ext (.t 95) 0), .none⟩, ⟨(.some 97), (.ext (.t 95) 1), .none⟩, ⟨.none, (.store 23 (.t 6) (.t 96)), .none⟩, ⟨(.some 7), (.mv (.t 97)), .none⟩]) .ret) .skip))) .skip)) (.seq (.seq (.ops [⟨(.some 98), (.mv (.t 13)), .none⟩]) (.block 0 (.seq (.seq (.ops [⟨(.some 100), (.bin .eql (.t 98) (.c (.sc (.int .i64 1)))), .none⟩, ⟨(.some 99), (.mv (.t 100)), .none⟩]) (.cond (.t 99) .skip (.seq (.ops [⟨(.some 101), (.bin .eql (.t 98) (.c (.sc (.int .i64 2)))), .none⟩, ⟨(.some 99), (.mv (.t 101)), .none⟩]) (.cond (.t 99) .skip (.ops [⟨(.some 102), (.bin .eql (.t 98) (.c (.sc (.int .i64 3)))), .none⟩, ⟨(.some 99), (.mv (.t 102)), .none⟩]))))) (.cond (.t 99) (.seq (.ops [⟨(.some 104), (.load .true 5 (.t 8)), .none⟩, ⟨(.some 105), (.mv (.t 9)), .none⟩, ⟨(.some 106), (.mv (.t 10)), .none⟩, ⟨(.some 107), (.call 36 [(.t 104), (.t 105), (.t 106)]), .none⟩, ⟨(.some 103), (.mv (.t 107)), .none⟩, ⟨(.some 108), (.ext (.t 103) 0), .none⟩, ⟨(.some 109), (.ext (.t 103) 1), .none⟩, ⟨(.some 15), (.mv (.t 108)), .none⟩, ⟨(.some 16), (.mv (.t 109)), .none⟩]) (.seq (.seq (.ops [⟨(.some 110), (.mv (.t 16)), .none⟩, ⟨(.some 111), (.un .not (.t 110)), .none⟩]) (.cond (.t 111) (.seq (.ops [⟨(.some 112), (.load .true 23 (.t 4)), .none⟩, ⟨(.some 113), (.mv (.t 2)), .none⟩, ⟨(.some 114), (.call 33 [(.t 112), (.c (.sc (.int .i64 3))), (.t 113)]), .none⟩, ⟨(.some 115), (.ext (.t 114) 0), .none⟩, ⟨(.some 116), (.ext (.t 114) 1), .none⟩, ⟨.none, (.store 23 (.t 6) (.t 115)), .none⟩, ⟨(.some 7), (.mv (.t 116)), .none⟩]) .ret) .skip)) (.ops [⟨(.some 117), (.fadr 3 5 16 (.t 4)), .none⟩, ⟨(.some 118), (.fadr 1 1 1 (.t 8)), .none⟩, ⟨(.some 119), (.load .false 1 (.t 118)), .none⟩, ⟨(.some 120), (.mv (.t 15)), .none⟩, ⟨(.some 121), (.call 37 [(.t 117), (.t 119), (.t 120)]), .none⟩]))) (.seq (.ops [⟨(.some 123), (.bin .eql (.t 98) (.c (.sc (.int .i64 4)))), .none⟩, ⟨(.some 122), (.mv (.t 123)), .none⟩]) (.cond (.t 122) (.ops [⟨(.some 124), (.fadr 3 5 16 (.t 4)), .none⟩, ⟨(.some 125), (.fadr 1 1 1 (.t 8)), .none⟩, ⟨(.some 126), (.load .false 1 (.t 125)), .none⟩, ⟨(.some 127), (.fadr 4 21 1 (.t 4)), .none⟩, ⟨(.some 128), (.load .false 1 (.t 127)), .none⟩, ⟨(.some 129), (.fadr 0 0 1 (.t 8)), .none⟩, ⟨(.some 130), (.load .false 1 (.t 129)), .none⟩, ⟨(.some 131), (.mv (.t 12)), .none⟩, ⟨(.some 132), (.call 38 [(.t 128), (.t 130), (.t 131)]), .none⟩, ⟨(.some 133), (.call 37 [(.t 124), (.t 126), (.t 132)]), .none⟩]) (.seq (.ops [⟨(.some 135), (.bin .eql (.t 98) (.c (.sc (.int .i64 5)))), .none⟩, ⟨(.some 134), (.mv (.t 135)), .none⟩]) (.cond (.t 134) (.seq (.ops [⟨(.some 136), (.mv (.t 12)), .none⟩, ⟨(.some 137), (.conv .i64 (.t 136)), .none⟩, ⟨(.some 138), (.fadr 0 0 1 (.t 8)), .none⟩, ⟨(.some 139), (.load .false 1 (.t 138)), .none⟩, ⟨(.some 140), (.call 35 [(.t 139)]), .none⟩, ⟨(.some 141), (.mv (.t 10)), .none⟩, ⟨(.some 142), (.fadr 0 0 1 (.t 8)), .none⟩, ⟨(.some 143), (.load .false 1 (.t 142)), .none⟩, ⟨(.some 144), (.call 35 [(.t 143)]), .none⟩, ⟨(.some 145), (.call 16 [(.t 141), (.t 144)]), .none⟩, ⟨(.some 146), (.build 3 [(.sc (.int .i64 0)), (.sc (.int .i64 0)), (.sc (.int .u32 0))] [(0, (.t 137)), (1, (.t 140)), (2, (.t 145))]), .none⟩, ⟨(.some 17), (.box (.c (.agg 3 [(.sc (.int .i64 0)), (.sc (.int .i64 0)), (.sc (.int .u32 0))]))), .none⟩, ⟨.none, (.store 3 (.t 17) (.t 146)), .none⟩]) (.seq (.ops [⟨(.some 147), (.fadr 4 21 1 (.t 4)), .none⟩, ⟨(.some 148), (.load .false 1 (.t 147)), .none⟩, ⟨(.some 149), (.load .true 3 (.t 17)), .none⟩, ⟨(.some 150), (.call 17 [(.t 148), (.t 149)]), .none⟩, ⟨(.some 151), (.fadr 4 21 1 (.t 4)), .none⟩, ⟨.none, (.store 1 (.t 151) (.t 150)), .none⟩]) (.ops [⟨(.some 152), (.fadr 5 22 1 (.t 4)), .none⟩, ⟨(.some 153), (.load .false 1 (.t 152)), .none⟩, ⟨(.some 154), (.load .true 3 (.t 17)), .none⟩, ⟨(.some 155), (.bsl 3 [(.t 154)]), .none⟩, ⟨(.some 156), (.app 3 24 (.t 153) (.t 155)), .none⟩, ⟨(.some 157), (.fadr 5 22 1 (.t 4)), .none⟩, ⟨.none, (.store 1 (.t 157) (.t 156)), .none⟩]))) (.seq (.ops [⟨(.some 159), (.bin .eql (.t 98) (.c (.sc (.int .i64 6)))), .none⟩, ⟨(.some 158), (.mv (.t 159)), .none⟩]) (.cond (.t 158) (.seq (.ops [⟨(.some 160), (.fadr 0 0 1 (.t 8)), .none⟩, ⟨(.some 161), (.load .false 1 (.t 160)), .none⟩, ⟨(.some 162), (.mv (.t 9)), .none⟩, ⟨(.some 163), (.mv (.t 10)), .none⟩, ⟨(.some 164), (.call 39 [(.t 161), (.t 162), (.t 163)]), .none⟩]) (.cond (.t 164) (.ops [⟨(.some 165), (.mv (.t 2)), .none⟩, ⟨(.some 166), (.fadr 4 4 1 (.t 8)), .none⟩, ⟨(.some 167), (.load .false 1 (.t 166)), .none⟩, ⟨(.some 168), (.bin .add (.t 165) (.t 167)), .none⟩, ⟨(.some 11), (.mv (.t 168)), .none⟩]) .skip)) (.seq (.ops [⟨(.some 170), (.bin .eql (.t 98) (.c (.sc (.int .i64 7)))), .none⟩, ⟨(.some 169), (.mv (.t 170)), .none⟩]) (.cond (.t 169) (.ops [⟨(.some 171), (.mv (.t 2)), .none⟩, ⟨(.some 172), (.fadr 4 4 1 (.t 8)), .none⟩, ⟨(.some 173), (.load .false 1 (.t 172)), .none⟩, ⟨(.some 174), (.bin .add (.t 171) (.t 173)), .none⟩, ⟨(.some 11), (.mv (.t 174)), .none⟩]) (.seq (.ops [⟨(.some 176), (.bin .eql (.t 98) (.c (.sc (.int .i64 8)))), .none⟩, ⟨(.some 175), (.mv (.t 176)), .none⟩]) (.cond (.t 175) (.ops [⟨(.some 177), (.fadr 0 0 1 (.t 4)), .none⟩, ⟨.none, (.store 1 (.t 177) (.c (.sc (.int .i64 1)))), .none⟩]) .skip)))))))))))))) (.seq (.ops [⟨(.some 178), (.fadr 2 4 1 (.t 4)), .none⟩, ⟨(.some 179), (.load .false 1 (.t 178)), .none⟩, ⟨(.some 180), (.bin .add (.t 179) (.c (.sc (.int .i64 1)))), .none⟩, ⟨(.some 181), (.fadr 2 4 1 (.t 4)), .none⟩, ⟨.none, (.store 1 (.t 181) (.t 180)), .none⟩]) (.seq (.seq (.ops [⟨(.some 182), (.fadr 0 0 1 (.t 4)), .none⟩, ⟨(.some 183), (.load .false 1 (.t 182)), .none⟩, ⟨(.some 184), (.bin .eql (.t 183) (.c (.sc (.int .i64 1)))), .none⟩]) (.cond (.t 184) (.ops [⟨(.some 185), (.mv (.t 2)), .none⟩, ⟨(.some 11), (.mv (.t 185)), .none⟩]) .skip)) (.seq (.ops [⟨(.some 186), (.load .true 23 (.t 4)), .none⟩, ⟨(.some 187), (.mv (.t 11)), .none⟩, ⟨.none, (.store 23 (.t 6) (.t 186)), .none⟩, ⟨(.some 7), (.mv (.t 187)), .none⟩]) .ret)))))))))))))))
theorem t_ref1_Step : trF Try.prog qq 22 = some (188, [(.cell 6 .true 23), (.tmp 7)], c_ref1_Step) := by kernel_rfl
def c_ref1_SameResult : AC := (.seq (.ops [⟨(.some 2), (.box (.t 0)), .none⟩, ⟨(.some 3), (.box (.t 1)), .none⟩, ⟨(.some 4), (.mv (.c (.sc (.bool .false)))), .none⟩]) (.seq (.ops [⟨(.some 5), (.fadr 3 5 16 (.t 2)), .none⟩, ⟨(.some 6), (.load .true 16 (.t 5)), .none⟩, ⟨(.some 7), (.fadr 3 5 16 (.t 3)), .none⟩, ⟨(.some 8), (.load .true 16 (.t 7)), .none⟩, ⟨(.some 9), (.eqs .false (.arr 16 1 .int) (.t 6) (.t 8)), .none⟩, ⟨(.some 10), (.mv (.t 9)), .none⟩, ⟨(.some 11), (.load .true 23 (.t 2)), (.some (10, .true))⟩, ⟨(.some 12), (.load .true 23 (.t 3)), (.some (10, .true))⟩, ⟨(.some 13), (.call 40 [(.t 11), (.t 12)]), (.some (10, .true))⟩, ⟨(.some 14), (.pick (.t 10) (.t 13) (.c (.sc (.bool .false)))), .none⟩, ⟨(.some 4), (.mv (.t 14)), .none⟩]) .ret))
theorem t_ref1_SameResult : trF Try.prog qq 23 = some (15, [(.tmp 4)], c_ref1_SameResult) := by kernel_rfl
def c_ref1_Run_l1 : AC := (.seq (.seq (.ops [⟨(.some 17), (.mv (.t 7)), .none⟩, ⟨(.some 18), (.mv (.t 1)), .none⟩, ⟨(.some 19), (.bin .lss (.t 17) (.t 18)), .none⟩, ⟨(.some 20), (.mv (.t 19)), .none⟩, ⟨(.some 21), (.fadr 0 0 1 (.t 5)), (.some (20, .true))⟩, ⟨(.some 22), (.load .false 1 (.t 21)), (.some (20, .true))⟩, ⟨(.some 23), (.bin .eql (.t 22) (.c (.sc (.int .i64 0)))), (.some (20, .true))⟩, ⟨(.some 24), (.pick (.t 20) (.t 23) (.c (.sc (.bool .false)))), .none⟩]) (.cond (.t 24) .skip (.exit 0))) (.seq (.block 1 (.ops [⟨(.some 28), (.load .true 3 (.t 2)), .none⟩, ⟨(.some 29), (.load .true 23 (.t 5)), .none⟩, ⟨(.some 30), (.mv (.t 6)), .none⟩, ⟨(.some 31), (.call 22 [(.t 28), (.t 29), (.t 30)]), .none⟩, ⟨(.some 27), (.mv (.t 31)), .none⟩, ⟨(.some 32), (.ext (.t 27) 0), .none⟩, ⟨(.some 33), (.ext (.t 27) 1), .none⟩, ⟨.none, (.store 23 (.t 5) (.t 32)), .none⟩, ⟨(.some 6), (.mv (.t 33)), .none⟩])) (.ops [⟨(.some 25), (.mv (.t 7)), .none⟩, ⟨(.some 26), (.bin .add (.t 25) (.c (.sc (.int .i64 1)))), .none⟩, ⟨(.some 7), (.mv (.t 26)), .none⟩])))
def c_ref1_Run_p1 : AC := (.seq (.seq (.ops [⟨(.some 34), (.fadr 0 0 1 (.t 5)), .none⟩, ⟨(.some 35), (.load .false 1 (.t 34)), .none⟩, ⟨(.some 36), (.bin .eql (.t 35) (.c (.sc (.int .i64 0)))), .none⟩]) (.cond (.t 36) (.ops [⟨(.some 37), (.fadr 0 0 1 (.t 5)), .none⟩, ⟨.none, (.store 1 (.t 37) (.c (.sc (.int .i64 3)))), .none⟩]) .skip)) (.seq (.ops [⟨(.some 38), (.load .true 23 (.t 5)), .none⟩, ⟨.none, (.store 23 (.t 4) (.t 38)), .none⟩]) .ret))
def c_ref1_Run : AC := (.seq (.ops [⟨(.some 2), (.box (.t 0)), .none⟩, ⟨(.some 4), (.box (.c (.agg 23 [(.sc (.int .i64 0)), (.agg 3 [(.sc (.int .i64 0)), (.sc (.int .i64 0)), (.sc (.int .i64 0))]), (.sc (.int .i64 0)), (.arr 16 1 [(.sc (.int .u32 0)), (.sc (.int .u32 0)), (.sc (.int .u32 0)), (.sc (.int .u32 0)), (.sc (.int .u32 0)), (.sc (.int .u32 0)), (.sc (.int .u32 0)), (.sc (.int .u32 0)), (.sc (.int .u32 0)), (.sc (.int .u32 0)), (.sc (.int .u32 0)), (.sc (.int .u32 0)), (.sc (.int .u32 0)), (.sc (.int .u32 0)), (.sc (.int .u32 0)), (.sc (.int .u32 0))]), (.fro .true 0 []), (.fro .true 0 [])]))), .none⟩]) (.seq (.seq (.ops [⟨(.some 8), (.load .true 3 (.t 2)), .none⟩, ⟨(.some 9), (.call 12 [(.t 8)]), .none⟩, ⟨(.some 10), (.un .not (.t 9)), .none⟩]) (.cond (.t 10) (.seq (.ops [⟨(.some 11), (.build 23 [(.sc (.int .i64 0)), (.agg 3 [(.sc (.int .i64 0)), (.sc (.int .i64 0)), (.sc (.int .i64 0))]), (.sc (.int .i64 0)), (.arr 16 1 [(.sc (.int .u32 0)), (.sc (.int .u32 0)), (.sc (.int .u32 0)), (.sc (.int .u32 0)), (.sc (.int .u32 0)), (.sc (.int .u32 0)), (.sc (.int .u32 0)), (.sc (.int .u32 0)), (.sc (.int .u32 0)), (.sc (.int .u32 0)), (.sc (.int .u32 0)), (.sc (.int .u32 0)), (.sc (.int .u32 0)), (.sc (.int .u32 0)), (.sc (.int .u32 0)), (.sc (.int .u32 0))]), (.fro .true 0 []), (.fro .true 0 [])] []), .none⟩, ⟨.none, (.store 23 (.t 4) (.t 11)), .none⟩]) .ret) .skip)) (.seq (.ops [⟨(.some 12), (.load .true 3 (.t 2)), .none⟩, ⟨(.some 13), (.call 14 [(.t 12)]), .none⟩, ⟨(.some 14), (.build 23 [(.sc (.int .i64 0)), (.agg 3 [(.sc (.int .i64 0)), (.sc (.int .i64 0)), (.sc (.int .i64 0))]), (.sc (.int .i64 0)), (.arr 16 1 [(.sc (.int .u32 0)), (.sc (.int .u32 0)), (.sc (.int .u32 0)), (.sc (.int .u32 0)), (.sc (.int .u32 0)), (.sc (.int .u32 0)), (.sc (.int .u32 0)), (.sc (.int .u32 0)), (.sc (.int .u32 0)), (.sc (.int .u32 0)), (.sc (.int .u32 0)), (.sc (.int .u32 0)), (.sc (.int .u32 0)), (.sc (.int .u32 0)), (.sc (.int .u32 0)), (.sc (.int .u32 0))]), (.fro .true 0 []), (.fro .true 0 [])] [(4, (.t 13))]), .none⟩, ⟨(.some 5), (.box (.c (.agg 23 [(.sc (.int .i64 0)), (.agg 3 [(.sc (.int .i64 0)), (.sc (.int .i64 0)), (.sc (.int .i64 0))]), (.sc (.int .i64 0)), (.arr 16 1 [(.sc (.int .u32 0)), (.sc (.int .u32 0)), (.sc (.int .u32 0)), (.sc (.int .u32 0)), (.sc (.int .u32 0)), (.sc (.int .u32 0)), (.sc (.int .u32 0)), (.sc (.int .u32 0)), (.sc (.int .u32 0)), (.sc (.int .u32 0)), (.sc (.int .u32 0)), (.sc (.int .u32 0)), (.sc (.int .u32 0)), (.sc (.int .u32 0)), (.sc (.int .u32 0)), (.sc (.int .u32 0))]), (.fro .true 0 []), (.fro .true 0 [])]))), .none⟩, ⟨.none, (.store 23 (.t 5) (.t 14)), .none⟩]) (.seq (.ops [⟨(.some 6), (.mv (.c (.sc (.int .i64 0)))), .none⟩]) (.seq (.ops [⟨(.some 15), (.mv (.t 1)), .none⟩, ⟨(.some 16), (.call 41 [(.t 15), (.c (.sc (.int .i64 0))), (.c (.sc (.int .i64 100000)))]), .none⟩, ⟨(.some 1), (.mv (.t 16)), .none⟩]) (.seq (.seq (.ops [⟨(.some 7), (.mv (.c (.sc (.int .i64 0)))), .none⟩]) (.block 0 (.loop c_ref1_Run_l1))) c_ref1_Run_p1))))))
theorem t_ref1_Run : trF Try.prog qq 24 = some (39, [(.cell 4 .true 23)], c_ref1_Run) := by kernel_rfl
def c_ref1_RightIns : AC := (.seq (.ops [⟨(.some 1), (.box (.t 0)), .none⟩, ⟨(.some 2), (.mv (.c (.sc (.bool .false)))), .none⟩]) (.seq (.ops [⟨(.some 8), (.fadr 0 0 1 (.t 1)), .none⟩, ⟨(.some 9), (.load .false 1 (.t 8)), .none⟩, ⟨(.some 10), (.call 26 [(.t 9)]), .none⟩, ⟨(.some 3), (.mv (.t 10)), .none⟩]) (.seq (.ops [⟨(.some 12), (.mv (.t 3)), .none⟩, ⟨(.some 13), (.call 42 [(.t 12)]), .none⟩, ⟨(.some 11), (.mv (.t 13)), .none⟩, ⟨(.some 14), (.ext (.t 11) 0), .none⟩, ⟨(.some 15), (.ext (.t 11) 1), .none⟩, ⟨(.some 16), (.ext (.t 11) 2), .none⟩, ⟨(.some 17), (.ext (.t 11) 3), .none⟩, ⟨(.some 4), (.mv (.t 14)), .none⟩, ⟨(.some 5), (.mv (.t 15)), .none⟩, ⟨(.some 6), (.mv (.t 16)), .none⟩, ⟨(.some 7), (.mv (.t 17)), .none⟩]) (.seq (.seq (.ops [⟨(.some 18), (.mv (.t 3)), .none⟩, ⟨(.some 19), (.bin .eql (.t 18) (.c (.sc (.int .i64 0)))), .none⟩, ⟨(.some 20), (.mv (.t 19)), .none⟩, ⟨(.some 21), (.fadr 1 1 1 (.t 1)), (.some (20, .false))⟩, ⟨(.some 22), (.load .false 1 (.t 21)), (.some (20, .false))⟩, ⟨(.some 23), (.mv (.t 4)), (.some (20, .false))⟩, ⟨(.some 24), (.call 43 [(.t 22), (.t 23)]), (.some (20, .false))⟩, ⟨(.some 25), (.un .not (.t 24)), (.some (20, .false))⟩, ⟨(.some 26), (.pick (.t 20) (.c (.sc (.bool .true))) (.t 25)), .none⟩, ⟨(.some 27), (.mv (.t 26)), .none⟩, ⟨(.some 28), (.fadr 2 2 1 (.t 1)), (.some (27, .false))⟩, ⟨(.some 29), (.load .false 1 (.t 28)), (.some (27, .false))⟩, ⟨(.some 30), (.mv (.t 5)), (.some (27, .false))⟩, ⟨(.some 31), (.call 43 [(.t 29), (.t 30)]), (.some (27, .false))⟩, ⟨(.some 32), (.un .not (.t 31)), (.some (27, .false))⟩, ⟨(.some 33), (.pick (.t 27) (.c (.sc (.bool .true))) (.t 32)), .none⟩, ⟨(.some 34), (.mv (.t 33)), .none⟩, ⟨(.some 35), (.fadr 3 3 1 (.t 1)), (.some (34, .false))⟩, ⟨(.some 36), (.load .false 1 (.t 35)), (.some (34, .false))⟩, ⟨(.some 37), (.mv (.t 6)), (.some (34, .false))⟩, ⟨(.some 38), (.call 43 [(.t 36), (.t 37)]), (.some (34, .false))⟩, ⟨(.some 39), (.un .not (.t 38)), (.some (34, .false))⟩, ⟨(.some 40), (.pick (.t 34) (.c (.sc (.bool .true))) (.t 39)), .none⟩, ⟨(.some 41), (.mv (.t 40)), .none⟩, ⟨(.some 42), (.mv (.t 7)), (.some (41, .false))⟩, ⟨(.some 43), (.un .not (.t 42)), (.some (41, .false))⟩, ⟨(.some 44), (.mv (.t 43)), (.some (41, .false))⟩, ⟨(.some 45), (.fadr 4 4 1 (.t 1)), (.some (44, .true))⟩, ⟨(.some 46), (.load .false 1 (.t 45)), (.some (44, .true))⟩, ⟨(.some 47), (.bin .neq (.t 46) (.c (.sc (.int .i64 0)))), (.some (44, .true))⟩, ⟨(.some 48), (.pick (.t 44) (.t 47) (.c (.sc (.bool .false)))), (.some (41, .false))⟩, ⟨(.some 49), (.pick (.t 41) (.c (.sc (.bool .true))) (.t 48)), .none⟩]) (.cond (.t 49) (.seq (.ops [⟨(.some 2), (.mv (.c (.sc (.bool .false)))), .none⟩]) .ret) .skip)) (.seq (.seq (.ops [⟨(.some 50), (.fadr 0 0 1 (.t 1)), .none⟩, ⟨(.some 51), (.load .false 1 (.t 50)), .none⟩, ⟨(.some 52), (.bin .eql (.t 51) (.c (.sc (.int .i64 22)))), .none⟩, ⟨(.some 53), (.mv (.t 52)), .none⟩, ⟨(.some 54), (.fadr 0 0 1 (.t 1)), (.some (53, .false))⟩, ⟨(.some 55), (.load .false 1 (.t 54)), (.some (53, .false))⟩, ⟨(.some 56), (.bin .eql (.t 55) (.c (.sc (.int .i64 23)))), (.some (53, .false))⟩, ⟨(.some 57), (.pick (.t 53) (.c (.sc (.bool .true))) (.t 56)), .none⟩, ⟨(.some 58), (.mv (.t 57)), .none⟩, ⟨(.some 59), (.fadr 0 0 1 (.t 1)), (.some (58, .false))⟩, ⟨(.some 60), (.load .false 1 (.t 59)), (.some (58, .false))⟩, ⟨(.some 61), (.bin .eql (.t 60) (.c (.sc (.int .i64 24)))), (.some (58, .false))⟩, ⟨(.some 62), (.pick (.t 58) (.c (.sc (.bool .true))) (.t 61)), .none⟩]) (.cond (.t 62) (.seq (.ops [⟨(.some 63), (.fadr 4 4 1 (.t 1)), .none⟩, ⟨(.some 64), (.load .false 1 (.t 63)), .none⟩, ⟨(.some 65), (.bin .geq (.t 64) (.c (.sc (.int .i64 0)))), .none⟩, ⟨(.some 66), (.mv (.t 65)), .none⟩, ⟨(.some 67), (.fadr 4 4 1 (.t 1)), (.some (66, .true))⟩, ⟨(.some 68), (.load .false 1 (.t 67)), (.some (66, .true))⟩, ⟨(.some 69), (.bin .leq (.t 68) (.c (.sc (.int .i64 31)))), (.some (66, .true))⟩, ⟨(.some 70), (.pick (.t 66) (.t 69) (.c (.sc (.bool .false)))), .none⟩, ⟨(.some 2), (.mv (.t 70)), .none⟩]) .ret) .skip)) (.seq (.ops [⟨(.some 71), (.fadr 4 4 1 (.t 1)), .none⟩, ⟨(.some 72), (.load .false 1 (.t 71)), .none⟩, ⟨(.some 73), (.bin .geq (.t 72) (.c (.sc (.int .i64 (-8192))))), .none⟩, ⟨(.some 74), (.mv (.t 73)), .none⟩, ⟨(.some 75), (.fadr 4 4 1 (.t 1)), (.some (74, .true))⟩, ⟨(.some 76), (.load .false 1 (.t 75)), (.some (74, .true))⟩, ⟨(.some 77), (.bin .leq (.t 76) (.c (.sc (.int .i64 8191)))), (.some (74, .true))⟩, ⟨(.some 78), (.pick (.t 74) (.t 77) (.c (.sc (.bool .false)))), .none⟩, ⟨(.some 2), (.mv (.t 78)), .none⟩]) .ret))))))
theorem t_ref1_RightIns : trF Try.prog qq 25 = some (79, [(.tmp 2)], c_ref1_RightIns) := by kernel_rfl
def c_ref1_Form : AC := (.seq (.ops [⟨(.some 2), (.mv (.c (.sc (.int .i64 0)))), .none⟩]) (.seq (.block 0 (.seq (.ops [⟨(.some 4), (.mv (.t 0)), .none⟩, ⟨(.some 5), (.bin .lss (.t 4) (.c (.sc (.int .i64 1)))), .none⟩, ⟨(.some 6), (.mv (.t 5)), .none⟩, ⟨(.some 7), (.mv (.t 0)), (.some (6, .false))⟩, ⟨(.some 8), (.bin .gtr (.t 7) (.c (.sc (.int .i64 41)))), (.some (6, .false))⟩, ⟨(.some 9), (.pick (.t 6) (.c (.sc (.bool .true))) (.t 8)), .none⟩, ⟨(.some 3), (.mv (.t 9)), .none⟩]) (.cond (.t 3) (.seq (.ops [⟨(.some 2), (.mv (.c (.sc (.int .i64 0)))), .none⟩]) .ret) (.seq (.ops [⟨(.some 11), (.mv (.t 0)), .none⟩, ⟨(.some 12), (.bin .leq (.t 11) (.c (.sc (.int .i64 16)))), .none⟩, ⟨(.some 10), (.mv (.t 12)), .none⟩]) (.cond (.t 10) (.seq (.ops [⟨(.some 2), (.mv (.c (.sc (.int .i64 1)))), .none⟩]) .ret) (.seq (.ops [⟨(.some 14), (.mv (.t 0)), .none⟩, ⟨(.some 15), (.bin .leq (.t 14) (.c (.sc (.int .i64 24)))), .none⟩, ⟨(.some 13), (.mv (.t 15)), .none⟩]) (.cond (.t 13) (.seq (.ops [⟨(.some 2), (.mv (.c (.sc (.int .i64 2)))), .none⟩]) .ret) (.seq (.ops [⟨(.some 17), (.mv (.t 0)), .none⟩, ⟨(.some 18), (.bin .eql (.t 17) (.c (.sc (.int .i64 25)))), .none⟩, ⟨(.some 16), (.mv (.t 18)), .none⟩]) (.cond (.t 16) (.seq (.ops [⟨(.some 2), (.mv (.c (.sc (.int .i64 3)))), .none⟩]) .ret) (.seq (.ops [⟨(.some 20), (.mv (.t 0)), .none⟩, ⟨(.some 21), (.bin .leq (.t 20) (.c (.sc (.int .i64 30)))), .none⟩, ⟨(.some 19), (.mv (.t 21)), .none⟩]) (.cond (.t 19) (.seq (.ops [⟨(.some 2), (.mv (.c (.sc (.int .i64 4)))), .none⟩]) .ret) (.seq (.ops [⟨(.some 23), (.mv (.t 0)), .none⟩, ⟨(.some 24), (.bin .leq (.t 23) (.c (.sc (.int .i64 33)))), .none⟩, ⟨(.some 22), (.mv (.t 24)), .none⟩]) (.cond (.t 22) (.seq (.ops [⟨(.some 2), (.mv (.c (.sc (.int .i64 5)))), .none⟩]) .ret) (.seq (.ops [⟨(.some 26), (.mv (.t 0)), .none⟩, ⟨(.some 27), (.bin .leq (.t 26) (.c (.sc (.int .i64 39)))), .none⟩, ⟨(.some 25), (.mv (.t 27)), .none⟩]) (.cond (.t 25) (.seq (.ops [⟨(.some 2), (.mv (.c (.sc (.int .i64 6)))), .none⟩]) .ret) (.seq (.ops [⟨(.some 29), (.mv (.t 0)), .none⟩, ⟨(.some 30), (.bin .eql (.t 29) (.c (.sc (.int .i64 40)))), .none⟩, ⟨(.some 28), (.mv (.t 30)), .none⟩]) (.cond (.t 28) (.seq (.ops [⟨(.some 2), (.mv (.c (.sc (.int .i64 7)))), .none⟩]) .ret) .skip))))))))))))))))) (.seq (.ops [⟨(.some 2), (.mv (.c (.sc (.int .i64 8)))), .none⟩]) .ret)))
theorem t_ref1_Form : trF Try.prog qq 26 = some (31, [(.tmp 2)], c_ref1_Form) := by kernel_rfl
def c_ref1_Targets_l1 : AC := (.seq (.seq (.ops [⟨(.some 5), (.mv (.t 3)), .none⟩, ⟨(.some 6), (.fadr 0 0 1 (.t 1)), .none⟩, ⟨(.some 7), (.load .false 1 (.t 6)), .none⟩, ⟨(.some 8), (.len .none (.t 7)), .none⟩, ⟨(.some 9), (.bin .lss (.t 5) (.t 8)), .none⟩]) (.cond (.t 9) .skip (.exit 0))) (.seq (.block 1 (.seq (.ops [⟨(.some 12), (.fadr 0 0 1 (.t 1)), .none⟩, ⟨(.some 13), (.load .false 1 (.t 12)), .none⟩, ⟨(.some 14), (.mv (.t 3)), .none⟩, ⟨(.some 15), (.iadr .none 5 (.t 13) (.t 14)), .none⟩, ⟨(.some 16), (.fadr 0 0 1 (.t 15)), .none⟩, ⟨(.some 17), (.load .false 1 (.t 16)), .none⟩, ⟨(.some 18), (.call 26 [(.t 17)]), .none⟩, ⟨(.some 4), (.mv (.t 18)), .none⟩]) (.seq (.ops [⟨(.some 19), (.mv (.t 4)), .none⟩, ⟨(.some 20), (.bin .eql (.t 19) (.c (.sc (.int .i64 6)))), .none⟩, ⟨(.some 21), (.mv (.t 20)), .none⟩, ⟨(.some 22), (.mv (.t 4)), (.some (21, .false))⟩, ⟨(.some 23), (.bin .eql (.t 22) (.c (.sc (.int .i64 7)))), (.some (21, .false))⟩, ⟨(.some 24), (.pick (.t 21) (.c (.sc (.bool .true))) (.t 23)), .none⟩, ⟨(.some 25), (.mv (.t 24)), .none⟩, ⟨(.some 26), (.load .true 3 (.t 1)), (.some (25, .true))⟩, ⟨(.some 27), (.mv (.t 3)), (.some (25, .true))⟩, ⟨(.some 28), (.call 44 [(.t 26), (.t 27)]), (.some (25, .true))⟩, ⟨(.some 29), (.bin .lss (.t 28) (.c (.sc (.int .i64 0)))), (.some (25, .true))⟩, ⟨(.some 30), (.pick (.t 25) (.t 29) (.c (.sc (.bool .false)))), .none⟩]) (.cond (.t 30) (.seq (.ops [⟨(.some 2), (.mv (.c (.sc (.int .i64 4)))), .none⟩]) .ret) .skip)))) (.ops [⟨(.some 10), (.mv (.t 3)), .none⟩, ⟨(.some 11), (.bin .add (.t 10) (.c (.sc (.int .i64 1)))), .none⟩, ⟨(.some 3), (.mv (.t 11)), .none⟩])))
def c_ref1_Targets_p1 : AC := (.seq (.ops [⟨(.some 2), (.mv (.c (.sc (.int .i64 0)))), .none⟩]) .ret)
def c_ref1_Targets : AC := (.seq (.ops [⟨(.some 1), (.box (.t 0)), .none⟩, ⟨(.some 2), (.mv (.c (.sc (.int .i64 0)))), .none⟩]) (.seq (.seq (.ops [⟨(.some 3), (.mv (.c (.sc (.int .i64 0)))), .none⟩]) (.block 0 (.loop c_ref1_Targets_l1))) c_ref1_Targets_p1))
theorem t_ref1_Targets : trF Try.prog qq 27 = some (31, [(.tmp 2)], c_ref1_Targets) := by kernel_rfl
def c_ref1_trap : AC := (.seq (.ops [⟨(.some 3), (.box (.t 0)), .none⟩, ⟨(.some 6), (.box (.c (.agg 23 [(.sc (.int .i64 0)), (.agg 3 [(.sc (.int .i64 0)), (.sc (.int .i64 0)), (.sc (.int .i64 0))]), (.sc (.int .i64 0)), (.arr 16 1 [(.sc (.int .u32 0)), (.sc (.int .u32 0)), (.sc (.int .u32 0)), (.sc (.int .u32 0)), (.sc (.int .u32 0)), (.sc (.int .u32 0)), (.sc (.int .u32 0)), (.sc (.int .u32 0)), (.sc (.int .u32 0)), (.sc (.int .u32 0)), (.sc (.int .u32 0)), (.sc (.int .u32 0)), (.sc (.int .u32 0)), (.sc (.int .u32 0)), (.sc (.int .u32 0)), (.sc (.int .u32 0))]), (.fro .true 0 []), (.fro .true 0 [])]))), .none⟩, ⟨(.some 7), (.mv (.c (.sc (.int .i64 0)))), .none⟩]) (.seq (.ops [⟨(.some 8), (.fadr 0 0 1 (.t 3)), .none⟩, ⟨.none, (.store 1 (.t 8) (.c (.sc (.int .i64 2)))), .none⟩]) (.seq (.ops [⟨(.some 9), (.mv (.t 1)), .none⟩, ⟨(.some 10), (.fadr 2 4 1 (.t 3)), .none⟩, ⟨(.some 11), (.load .false 1 (.t 10)), .none⟩, ⟨(.some 12), (.mv (.t 2)), .none⟩, ⟨(.some 13), (.build 3 [(.sc (.int .i64 0)), (.sc (.int .i64 0)), (.sc (.int .i64 0))] [(0, (.t 9)), (1, (.t 11)), (2, (.t 12))]), .none⟩, ⟨(.some 14), (.fadr 1 1 3 (.t 3)), .none⟩, ⟨.none, (.store 3 (.t 14) (.t 13)), .none⟩]) (.seq (.ops [⟨(.some 15), (.load .true 23 (.t 3)), .none⟩, ⟨(.some 16), (.mv (.t 2)), .none⟩, ⟨.none, (.store 23 (.t 6) (.t 15)), .none⟩, ⟨(.some 7), (.mv (.t 16)), .none⟩]) .ret))))
theorem t_ref1_trap : trF Try.prog qq 33 = some (17, [(.cell 6 .true 23), (.tmp 7)], c_ref1_trap) := by kernel_rfl
def c_ref1_value : AC := (.seq (.ops [⟨(.some 2), (.box (.t 0)), .none⟩, ⟨(.some 4), (.mv (.c (.sc (.int .u32 0)))), .none⟩]) (.seq (.seq (.ops [⟨(.some 5), (.mv (.t 1)), .none⟩, ⟨(.some 6), (.bin .eql (.t 5) (.c (.sc (.int .i64 0)))), .none⟩]) (.cond (.t 6) (.seq (.ops [⟨(.some 4), (.mv (.c (.sc (.int .u32 0)))), .none⟩]) .ret) .skip)) (.seq (.ops [⟨(.some 7), (.mv (.t 1)), .none⟩, ⟨(.some 8), (.iadr (.some 16) 1 (.t 2) (.t 7)), .none⟩, ⟨(.some 9), (.load .false 1 (.t 8)), .none⟩, ⟨(.some 4), (.mv (.t 9)), .none⟩]) .ret)))
theorem t_ref1_value : trF Try.prog qq 34 = some (10, [(.tmp 4)], c_ref1_value) := by kernel_rfl
def c_ref1_Size : AC := (.seq (.ops [⟨(.some 2), (.mv (.c (.sc (.int .i64 0)))), .none⟩]) (.seq (.seq (.ops [⟨(.some 3), (.mv (.t 0)), .none⟩]) (.block 0 (.seq (.seq (.ops [⟨(.some 5), (.bin .eql (.t 3) (.c (.sc (.int .i64 26)))), .none⟩, ⟨(.some 4), (.mv (.t 5)), .none⟩]) (.cond (.t 4) .skip (.ops [⟨(.some 6), (.bin .eql (.t 3) (.c (.sc (.int .i64 31)))), .none⟩, ⟨(.some 4), (.mv (.t 6)), .none⟩]))) (.cond (.t 4) (.seq (.ops [⟨(.some 2), (.mv (.c (.sc (.int .i64 4)))), .none⟩]) .ret) (.seq (.seq (.ops [⟨(.some 8), (.bin .eql (.t 3) (.c (.sc (.int .i64 27)))), .none⟩, ⟨(.some 7), (.mv (.t 8)), .none⟩]) (.cond (.t 7) .skip (.seq (.ops [⟨(.some 9), (.bin .eql (.t 3) (.c (.sc (.int .i64 28)))), .none⟩, ⟨(.some 7), (.mv (.t 9)), .none⟩]) (.cond (.t 7) .skip (.ops [⟨(.some 10), (.bin .eql (.t 3) (.c (.sc (.int .i64 32)))), .none⟩, ⟨(.some 7), (.mv (.t 10)), .none⟩]))))) (.cond (.t 7) (.seq (.ops [⟨(.some 2), (.mv (.c (.sc (.int .i64 2)))), .none⟩]) .ret) (.seq (.seq (.ops [⟨(.some 12), (.bin .eql (.t 3) (.c (.sc (.int .i64 29)))), .none⟩, ⟨(.some 11), (.mv (.t 12)), .none⟩]) (.cond (.t 11) .skip (.seq (.ops [⟨(.some 13), (.bin .eql (.t 3) (.c (.sc (.int .i64 30)))), .none⟩, ⟨(.some 11), (.mv (.t 13)), .none⟩]) (.cond (.t 11) .skip (.ops [⟨(.some 14), (.bin .eql (.t 3) (.c (.sc (.int .i64 33)))), .none⟩, ⟨(.some 11), (.mv (.t 14)), .none⟩]))))) (.cond (.t 11) (.seq (.ops [⟨(.some 2), (.mv (.c (.sc (.int .i64 1)))), .none⟩]) .ret) .skip)))))))) (.seq (.ops [⟨(.some 2), (.mv (.c (.sc (.int .i64 0)))), .none⟩]) .ret)))
theorem t_ref1_Size : trF Try.prog qq 35 = some (15, [(.tmp 2)], c_ref1_Size) := by kernel_rfl
def c_ref1_Do : AC := (.seq (.ops [⟨(.some 3), (.box (.t 0)), .none⟩, ⟨(.some 6), (.mv (.c (.sc (.int .u32 0)))), .none⟩, ⟨(.some 7), (.mv (.c (.sc (.bool .false)))), .none⟩]) (.seq (.ops [⟨(.some 15), (.fadr 0 0 1 (.t 3)), .none⟩, ⟨(.some 16), (.load .false 1 (.t 15)), .none⟩, ⟨(.some 17), (.call 26 [(.t 16)]), .none⟩, ⟨(.some 8), (.mv (.t 17)), .none⟩]) (.seq (.seq (.ops [⟨(.some 18), (.load .true 5 (.t 3)), .none⟩, ⟨(.some 19), (.call 25 [(.t 18)]), .none⟩, ⟨(.some 20), (.un .not (.t 19)), .none⟩, ⟨(.some 21), (.mv (.t 20)), .none⟩, ⟨(.some 22), (.mv (.t 8)), (.some (21, .false))⟩, ⟨(.some 23), (.bin .lss (.t 22) (.c (.sc (.int .i64 1)))), (.some (21, .false))⟩, ⟨(.some 24), (.pick (.t 21) (.c (.sc (.bool .true))) (.t 23)), .none⟩, ⟨(.some 25), (.mv (.t 24)), .none⟩, ⟨(.some 26), (.mv (.t 8)), (.some (25, .false))⟩, ⟨(.some 27), (.bin .gtr (.t 26) (.c (.sc (.int .i64 3)))), (.some (25, .false))⟩, ⟨(.some 28), (.pick (.t 25) (.c (.sc (.bool .true))) (.t 27)), .none⟩]) (.cond (.t 28) (.seq (.ops [⟨(.some 6), (.mv (.c (.sc (.int .u32 0)))), .none⟩, ⟨(.some 7), (.mv (.c (.sc (.bool .true)))), .none⟩]) .ret) .skip)) (.seq (.ops [⟨(.some 29), (.fadr 0 0 1 (.t 3)), .none⟩, ⟨(.some 30), (.load .false 1 (.t 29)), .none⟩, ⟨(.some 9), (.mv (.t 30)), .none⟩]) (.seq (.seq (.ops [⟨(.some 31), (.mv (.t 8)), .none⟩, ⟨(.some 32), (.bin .eql (.t 31) (.c (.sc (.int .i64 2)))), .none⟩]) (.cond (.t 32) (.seq (.ops [⟨(.some 33), (.fadr 4 4 1 (.t 3)), .none⟩, ⟨(.some 34), (.load .false 1 (.t 33)), .none⟩, ⟨(.some 35), (.conv .u32 (.t 34)), .none⟩, ⟨(.some 2), (.mv (.t 35)), .none⟩]) (.seq (.ops [⟨(.some 36), (.bsl 1 [(.c (.sc (.int .i64 1))), (.c (.sc (.int .i64 3))), (.c (.sc (.int .i64 4))), (.c (.sc (.int .i64 5))), (.c (.sc (.int .i64 9))), (.c (.sc (.int .i64 6))), (.c (.sc (.int .i64 7))), (.c (.sc (.int .i64 8)))]), .none⟩, ⟨(.some 10), (.mv (.t 36)), .none⟩]) (.ops [⟨(.some 37), (.mv (.t 10)), .none⟩, ⟨(.some 38), (.fadr 0 0 1 (.t 3)), .none⟩, ⟨(.some 39), (.load .false 1 (.t 38)), .none⟩, ⟨(.some 40), (.bin .sub (.t 39) (.c (.sc (.int .i64 17)))), .none⟩, ⟨(.some 41), (.iadr .none 1 (.t 37) (.t 40)), .none⟩, ⟨(.some 42), (.load .false 1 (.t 41)), .none⟩, ⟨(.some 9), (.mv (.t 42)), .none⟩]))) .skip)) (.seq (.ops [⟨(.some 43), (.mv (.t 1)), .none⟩, ⟨(.some 44), (.call 57 [(.t 43)]), .none⟩, ⟨(.some 11), (.mv (.t 44)), .none⟩]) (.seq (.ops [⟨(.some 45), (.mv (.t 2)), .none⟩, ⟨(.some 46), (.call 57 [(.t 45)]), .none⟩, ⟨(.some 12), (.mv (.t 46)), .none⟩]) (.seq (.seq (.ops [⟨(.some 47), (.mv (.t 9)), .none⟩]) (.block 0 (.seq (.ops [⟨(.some 49), (.bin .eql (.t 47) (.c (.sc (.int .i64 1)))), .none⟩, ⟨(.some 48), (.mv (.t 49)), .none⟩]) (.cond (.t 48) (.seq (.ops [⟨(.some 50), (.mv (.t 1)), .none⟩, ⟨(.some 51), (.mv (.t 2)), .none⟩, ⟨(.some 52), (.bin .add (.t 50) (.t 51)), .none⟩, ⟨(.some 6), (.mv (.t 52)), .none⟩, ⟨(.some 7), (.mv (.c (.sc (.bool .true)))), .none⟩]) .ret) (.seq (.ops [⟨(.some 54), (.bin .eql (.t 47) (.c (.sc (.int .i64 2)))), .none⟩, ⟨(.some 53), (.mv (.t 54)), .none⟩]) (.cond (.t 53) (.seq (.ops [⟨(.some 55), (.mv (.t 1)), .none⟩, ⟨(.some 56), (.mv (.t 2)), .none⟩, ⟨(.some 57), (.bin .sub (.t 55) (.t 56)), .none⟩, ⟨(.some 6), (.mv (.t 57)), .none⟩, ⟨(.some 7), (.mv (.c (.sc (.bool .true)))), .none⟩]) .ret) (.seq (.ops [⟨(.some 59), (.bin .eql (.t 47) (.c (.sc (.int .i64 3)))), .none⟩, ⟨(.some 58), (.mv (.t 59)), .none⟩]) (.cond (.t 58) (.seq (.ops [⟨(.some 60), (.mv (.t 1)), .none⟩, ⟨(.some 61), (.mv (.t 2)), .none⟩, ⟨(.some 62), (.bin .and (.t 60) (.t 61)), .none⟩, ⟨(.some 6), (.mv (.t 62)), .none⟩, ⟨(.some 7), (.mv (.c (.sc (.bool .true)))), .none⟩]) .ret) (.seq (.ops [⟨(.some 64), (.bin .eql (.t 47) (.c (.sc (.int .i64 4)))), .none⟩, ⟨(.some 63), (.mv (.t 64)), .none⟩]) (.cond (.t 63) (.seq (.ops [⟨(.some 65), (.mv (.t 1)), .none⟩, ⟨(.some 66), (.mv (.t 2)), .none⟩, ⟨(.some 67), (.bin .or (.t 65) (.t 66)), .none⟩, ⟨(.some 6), (.mv (.t 67)), .none⟩, ⟨(.some 7), (.mv (.c (.sc (.bool .true)))), .none⟩]) .ret) (.seq (.ops [⟨(.some 69), (.bin .eql (.t 47) (.c (.sc (.int .i64 5)))), .none⟩, ⟨(.some 68), (.mv (.t 69)), .none⟩]) (.cond (.t 68) (.seq (.ops [⟨(.some 70), (.mv (.t 1)), .none⟩, ⟨(.some 71), (.mv (.t 2)), .none⟩, ⟨(.some 72), (.bin .xor (.t 70) (.t 71)), .none⟩, ⟨(.some 6), (.mv (.t 72)), .none⟩, ⟨(.some 7), (.mv (.c (.sc (.bool .true)))), .none⟩]) .ret) (.seq (.ops [⟨(.some 74), (.bin .eql (.t 47) (.c (.sc (.int .i64 6)))), .none⟩, ⟨(.some 73), (.mv (.t 74)), .none⟩]) (.cond (.t 73) (.seq (.ops [⟨(.some 75), (.mv (.t 1)), .none⟩, ⟨(.some 76), (.mv (.t 2)), .none⟩, ⟨(.some 77), (.bin .and (.t 76) (.c (.sc (.int .u32 31)))), .none⟩, ⟨(.some 78), (.bin .shl (.t 75) (.t 77)), .none⟩, ⟨(.some 6), (.mv (.t 78)), .none⟩, ⟨(.some 7), (.mv (.c (.sc (.bool .true)))), .none⟩]) .ret) (.seq (.ops [⟨(.some 80), (.bin .eql (.t 47) (.c (.sc (.int .i64 7)))), .none⟩, ⟨(.some 79), (.mv (.t 80)), .none⟩]) (.cond (.t 79) (.seq (.ops [⟨(.some 81), (.mv (.t 1)), .none⟩, ⟨(.some 82), (.mv (.t 2)), .none⟩, ⟨(.some 83), (.bin .and (.t 82) (.c (.sc (.int .u32 31)))), .none⟩, ⟨(.some 84), (.bin .shr (.t 81) (.t 83)), .none⟩, ⟨(.some 6), (.mv (.t 84)), .none⟩, ⟨(.some 7), (.mv (.c (.sc (.bool .true)))), .none⟩]) .ret) (.seq (.ops [⟨(.some 86), (.bin .eql (.t 47) (.c (.sc (.int .i64 8)))), .none⟩, ⟨(.some 85), (.mv (.t 86)), .none⟩]) (.cond (.t 85) (.seq (.ops [⟨(.some 87), (.mv (.t 11)), .none⟩, ⟨(.some 88), (.mv (.t 2)), .none⟩, ⟨(.some 89), (.bin .and (.t 88) (.c (.sc (.int .u32 31)))), .none⟩, ⟨(.some 90), (.bin .shr (.t 87) (.t 89)), .none⟩, ⟨(.some 91), (.conv .u32 (.t 90)), .none⟩, ⟨(.some 6), (.mv (.t 91)), .none⟩, ⟨(.some 7), (.mv (.c (.sc (.bool .true)))), .none⟩]) .ret) (.seq (.ops [⟨(.some 93), (.bin .eql (.t 47) (.c (.sc (.int .i64 9)))), .none⟩, ⟨(.some 92), (.mv (.t 93)), .none⟩]) (.cond (.t 92) (.seq (.ops [⟨(.some 94), (.mv (.t 11)), .none⟩, ⟨(.some 95), (.mv (.t 12)), .none⟩, ⟨(.some 96), (.bin .lss (.t 94) (.t 95)), .none⟩, ⟨(.some 97), (.call 58 [(.t 96)]), .none⟩, ⟨(.some 6), (.mv (.t 97)), .none⟩, ⟨(.some 7), (.mv (.c (.sc (.bool .true)))), .none⟩]) .ret) (.seq (.ops [⟨(.some 99), (.bin .eql (.t 47) (.c (.sc (.int .i64 10)))), .none⟩, ⟨(.some 98), (.mv (.t 99)), .none⟩]) (.cond (.t 98) (.seq (.ops [⟨(.some 100), (.mv (.t 1)), .none⟩, ⟨(.some 101), (.mv (.t 2)), .none⟩, ⟨(.some 102), (.bin .lss (.t 100) (.t 101)), .none⟩, ⟨(.some 103), (.call 58 [(.t 102)]), .none⟩, ⟨(.some 6), (.mv (.t 103)), .none⟩, ⟨(.some 7), (.mv (.c (.sc (.bool .true)))), .none⟩]) .ret) (.seq (.ops [⟨(.some 105), (.bin .eql (.t 47) (.c (.sc (.int .i64 11)))), .none⟩, ⟨(.some 104), (.mv (.t 105)), .none⟩]) (.cond (.t 104) (.seq (.ops [⟨(.some 106), (.mv (.t 11)), .none⟩, ⟨(.some 107), (.mv (.t 12)), .none⟩, ⟨(.some 108), (.bin .mul (.t 106) (.t 107)), .none⟩, ⟨(.some 109), (.conv .u32 (.t 108)), .none⟩, ⟨(.some 6), (.mv (.t 109)), .none⟩, ⟨(.some 7), (.mv (.c (.sc (.bool .true)))), .none⟩]) .ret) (.seq (.ops [⟨(.some 111), (.bin .eql (.t 47) (.c (.sc (.int .i64 12)))), .none⟩, ⟨(.some 110), (.mv (.t 111)), .none⟩]) (.cond (.t 110) (.seq (.ops [⟨(.some 112), (.mv (.t 11)), .none⟩, ⟨(.some 113), (.mv (.t 12)), .none⟩, ⟨(.some 114), (.bin .mul (.t 112) (.t 113)), .none⟩, ⟨(.some 115), (.bin .shr (.t 114) (.c (.sc (.int .u64 32)))), .none⟩, ⟨(.some 116), (.conv .u32 (.t 115)), .none⟩, ⟨(.some 6), (.mv (.t 116)), .none⟩, ⟨(.some 7), (.mv (.c (.sc (.bool .true)))), .none⟩]) .ret) (.seq (.ops [⟨(.some 118), (.bin .eql (.t 47) (.c (.sc (.int .i64 25)))), .none⟩, ⟨(.some 117), (.mv (.t 118)), .none⟩]) (.cond (.t 117) (.seq (.ops [⟨(.some 119), (.fadr 4 4 1 (.t 3)), .none⟩, ⟨(.some 120), (.load .false 1 (.t 119)), .none⟩, ⟨(.some 121), (.conv .u32 (.t 120)), .none⟩, ⟨(.some 122), (.bin .shl (.t 121) (.c (.sc (.int .u64 18)))), .none⟩, ⟨(.some 6), (.mv (.t 122)), .none⟩, ⟨(.some 7), (.mv (.c (.sc (.bool .true)))), .none⟩]) .ret) .skip)))))))))))))))))))))))))))) (.seq (.seq (.ops [⟨(.some 123), (.mv (.t 2)), .none⟩, ⟨(.some 124), (.bin .eql (.t 123) (.c (.sc (.int .u32 0)))), .none⟩]) (.cond (.t 124) (.seq (.ops [⟨(.some 6), (.mv (.c (.sc (.int .u32 0)))), .none⟩, ⟨(.some 7), (.mv (.c (.sc (.bool .false)))), .none⟩]) .ret) .skip)) (.seq (.ops [⟨(.some 126), (.mv (.t 11)), .none⟩, ⟨(.some 127), (.mv (.t 12)), .none⟩, ⟨(.some 128), (.call 59 [(.t 126), (.t 127)]), .none⟩, ⟨(.some 125), (.mv (.t 128)), .none⟩, ⟨(.some 129), (.ext (.t 125) 0), .none⟩, ⟨(.some 130), (.ext (.t 125) 1), .none⟩, ⟨(.some 13), (.mv (.t 129)), .none⟩, ⟨(.some 14), (.mv (.t 130)), .none⟩]) (.seq (.seq (.ops [⟨(.some 131), (.mv (.t 9)), .none⟩]) (.block 1 (.seq (.ops [⟨(.some 133), (.bin .eql (.t 131) (.c (.sc (.int .i64 13)))), .none⟩, ⟨(.some 132), (.mv (.t 133)), .none⟩]) (.cond (.t 132) (.seq (.ops [⟨(.some 134), (.mv (.t 13)), .none⟩, ⟨(.some 135), (.conv .u32 (.t 134)), .none⟩, ⟨(.some 6), (.mv (.t 135)), .none⟩, ⟨(.some 7), (.mv (.c (.sc (.bool .true)))), .none⟩]) .ret) (.seq (.ops [⟨(.some 137), (.bin .eql (.t 131) (.c (.sc (.int .i64 15)))), .none⟩, ⟨(.some 136), (.mv (.t 137)), .none⟩]) (.cond (.t 136) (.seq (.ops [⟨(.some 138), (.mv (.t 14)), .none⟩, ⟨(.some 139), (.conv .u32 (.t 138)), .none⟩, ⟨(.some 6), (.mv (.t 139)), .none⟩, ⟨(.some 7), (.mv (.c (.sc (.bool .true)))), .none⟩]) .ret) (.seq (.ops [⟨(.some 141), (.bin .eql (.t 131) (.c (.sc (.int .i64 14)))), .none⟩, ⟨(.some 140), (.mv (.t 141)), .none⟩]) (.cond (.t 140) (.seq (.ops [⟨(.some 142), (.mv (.t 1)), .none⟩, ⟨(.some 143), (.mv (.t 2)), .none⟩, ⟨(.some 144), (.bin .quo (.t 142) (.t 143)), .none⟩, ⟨(.some 6), (.mv (.t 144)), .none⟩, ⟨(.some 7), (.mv (.c (.sc (.bool .true)))), .none⟩]) .ret) .skip)))))))) (.seq (.ops [⟨(.some 145), (.mv (.t 1)), .none⟩, ⟨(.some 146), (.mv (.t 2)), .none⟩, ⟨(.some 147), (.bin .rem (.t 145) (.t 146)), .none⟩, ⟨(.some 6), (.mv (.t 147)), .none⟩, ⟨(.some 7), (.mv (.c (.sc (.bool .true)))), .none⟩]) .ret))))))))))))
theorem t_ref1_Do : trF Try.prog qq 36 = some (148, [(.tmp 6), (.tmp 7)], c_ref1_Do) := by kernel_rfl
def c_ref1_set : AC := (.seq (.ops [⟨(.some 6), (.mv (.t 1)), .none⟩, ⟨(.some 7), (.bin .neq (.t 6) (.c (.sc (.int .i64 0)))), .none⟩]) (.cond (.t 7) (.ops [⟨(.some 8), (.mv (.t 0)), .none⟩, ⟨(.some 9), (.mv (.t 1)), .none⟩, ⟨(.some 10), (.mv (.t 2)), .none⟩, ⟨(.some 11), (.nilck (.t 8)), .none⟩, ⟨(.some 12), (.iadr (.some 16) 1 (.t 11) (.t 9)), .none⟩, ⟨.none, (.store 1 (.t 12) (.t 10)), .none⟩]) .skip))
theorem t_ref1_set : trF Try.prog qq 37 = some (13, [], c_ref1_set) := by kernel_rfl
def c_ref1_Load_l1 : AC := (.seq (.seq (.ops [⟨(.some 23), (.mv (.t 9)), .none⟩, ⟨(.some 24), (.mv (.t 7)), .none⟩, ⟨(.some 25), (.bin .lss (.t 23) (.t 24)), .none⟩]) (.cond (.t 25) .skip (.exit 0))) (.seq (.block 1 (.ops [⟨(.some 28), (.mv (.t 8)), .none⟩, ⟨(.some 29), (.mv (.t 0)), .none⟩, ⟨(.some 30), (.mv (.t 2)), .none⟩, ⟨(.some 31), (.conv .i64 (.t 30)), .none⟩, ⟨(.some 32), (.mv (.t 9)), .none⟩, ⟨(.some 33), (.bin .add (.t 31) (.t 32)), .none⟩, ⟨(.some 34), (.iadr .none 1 (.t 29) (.t 33)), .none⟩, ⟨(.some 35), (.load .false 1 (.t 34)), .none⟩, ⟨(.some 36), (.conv .u32 (.t 35)), .none⟩, ⟨(.some 37), (.mv (.t 9)), .none⟩, ⟨(.some 38), (.bin .mul (.c (.sc (.int .i64 8))) (.t 37)), .none⟩, ⟨(.some 39), (.conv .u64 (.t 38)), .none⟩, ⟨(.some 40), (.bin .shl (.t 36) (.t 39)), .none⟩, ⟨(.some 41), (.bin .or (.t 28) (.t 40)), .none⟩, ⟨(.some 8), (.mv (.t 41)), .none⟩])) (.ops [⟨(.some 26), (.mv (.t 9)), .none⟩, ⟨(.some 27), (.bin .add (.t 26) (.c (.sc (.int .i64 1)))), .none⟩, ⟨(.some 9), (.mv (.t 27)), .none⟩])))
def c_ref1_Load_p1 : AC := (.seq (.ops [⟨(.some 42), (.mv (.t 1)), .none⟩, ⟨(.some 43), (.mv (.t 8)), .none⟩, ⟨(.some 44), (.call 60 [(.t 42), (.t 43)]), .none⟩, ⟨(.some 6), (.mv (.t 44)), .none⟩]) .ret)
def c_ref1_Load : AC := (.seq (.ops [⟨(.some 6), (.mv (.c (.sc (.int .u32 0)))), .none⟩]) (.seq (.ops [⟨(.some 10), (.mv (.t 1)), .none⟩, ⟨(.some 11), (.call 35 [(.t 10)]), .none⟩, ⟨(.some 7), (.mv (.t 11)), .none⟩]) (.seq (.seq (.ops [⟨(.some 12), (.mv (.t 1)), .none⟩, ⟨(.some 13), (.call 26 [(.t 12)]), .none⟩, ⟨(.some 14), (.bin .neq (.t 13) (.c (.sc (.int .i64 4)))), .none⟩, ⟨(.some 15), (.mv (.t 14)), .none⟩, ⟨(.some 16), (.mv (.t 7)), (.some (15, .false))⟩, ⟨(.some 17), (.mv (.t 2)), (.some (15, .false))⟩, ⟨(.some 18), (.mv (.t 0)), (.some (15, .false))⟩, ⟨(.some 19), (.len .none (.t 18)), (.some (15, .false))⟩, ⟨(.some 20), (.call 15 [(.t 16), (.t 17), (.t 19)]), (.some (15, .false))⟩, ⟨(.some 21), (.bin .neq (.t 20) (.c (.sc (.int .i64 0)))), (.some (15, .false))⟩, ⟨(.some 22), (.pick (.t 15) (.c (.sc (.bool .true))) (.t 21)), .none⟩]) (.cond (.t 22) (.seq (.ops [⟨(.some 6), (.mv (.c (.sc (.int .u32 0)))), .none⟩]) .ret) .skip)) (.seq (.ops [⟨(.some 8), (.mv (.c (.sc (.int .u32 0)))), .none⟩]) (.seq (.seq (.ops [⟨(.some 9), (.mv (.c (.sc (.int .i64 0)))), .none⟩]) (.block 0 (.loop c_ref1_Load_l1))) c_ref1_Load_p1)))))
theorem t_ref1_Load : trF Try.prog qq 38 = some (45, [(.tmp 6)], c_ref1_Load) := by kernel_rfl
def c_ref1_Taken : AC := (.seq (.ops [⟨(.some 6), (.mv (.c (.sc (.bool .false)))), .none⟩]) (.seq (.seq (.ops [⟨(.some 7), (.mv (.t 0)), .none⟩]) (.block 0 (.seq (.ops [⟨(.some 9), (.bin .eql (.t 7) (.c (.sc (.int .i64 34)))), .none⟩, ⟨(.some 8), (.mv (.t 9)), .none⟩]) (.cond (.t 8) (.seq (.ops [⟨(.some 10), (.mv (.t 1)), .none⟩, ⟨(.some 11), (.mv (.t 2)), .none⟩, ⟨(.some 12), (.bin .eql (.t 10) (.t 11)), .none⟩, ⟨(.some 6), (.mv (.t 12)), .none⟩]) .ret) (.seq (.ops [⟨(.some 14), (.bin .eql (.t 7) (.c (.sc (.int .i64 35)))), .none⟩, ⟨(.some 13), (.mv (.t 14)), .none⟩]) (.cond (.t 13) (.seq (.ops [⟨(.some 15), (.mv (.t 1)), .none⟩, ⟨(.some 16), (.mv (.t 2)), .none⟩, ⟨(.some 17), (.bin .neq (.t 15) (.t 16)), .none⟩, ⟨(.some 6), (.mv (.t 17)), .none⟩]) .ret) (.seq (.ops [⟨(.some 19), (.bin .eql (.t 7) (.c (.sc (.int .i64 36)))), .none⟩, ⟨(.some 18), (.mv (.t 19)), .none⟩]) (.cond (.t 18) (.seq (.ops [⟨(.some 20), (.mv (.t 1)), .none⟩, ⟨(.some 21), (.call 57 [(.t 20)]), .none⟩, ⟨(.some 22), (.mv (.t 2)), .none⟩, ⟨(.some 23), (.call 57 [(.t 22)]), .none⟩, ⟨(.some 24), (.bin .lss (.t 21) (.t 23)), .none⟩, ⟨(.some 6), (.mv (.t 24)), .none⟩]) .ret) (.seq (.ops [⟨(.some 26), (.bin .eql (.t 7) (.c (.sc (.int .i64 37)))), .none⟩, ⟨(.some 25), (.mv (.t 26)), .none⟩]) (.cond (.t 25) (.seq (.ops [⟨(.some 27), (.mv (.t 1)), .none⟩, ⟨(.some 28), (.call 57 [(.t 27)]), .none⟩, ⟨(.some 29), (.mv (.t 2)), .none⟩, ⟨(.some 30), (.call 57 [(.t 29)]), .none⟩, ⟨(.some 31), (.bin .geq (.t 28) (.t 30)), .none⟩, ⟨(.some 6), (.mv (.t 31)), .none⟩]) .ret) (.seq (.ops [⟨(.some 33), (.bin .eql (.t 7) (.c (.sc (.int .i64 38)))), .none⟩, ⟨(.some 32), (.mv (.t 33)), .none⟩]) (.cond (.t 32) (.seq (.ops [⟨(.some 34), (.mv (.t 1)), .none⟩, ⟨(.some 35), (.mv (.t 2)), .none⟩, ⟨(.some 36), (.bin .lss (.t 34) (.t 35)), .none⟩, ⟨(.some 6), (.mv (.t 36)), .none⟩]) .ret) (.seq (.ops [⟨(.some 38), (.bin .eql (.t 7) (.c (.sc (.int .i64 39)))), .none⟩, ⟨(.some 37), (.mv (.t 38)), .none⟩]) (.cond (.t 37) (.seq (.ops [⟨(.some 39), (.mv (.t 1)), .none⟩, ⟨(.some 40), (.mv (.t 2)), .none⟩, ⟨(.some 41), (.bin .geq (.t 39) (.t 40)), .none⟩, ⟨(.some 6), (.mv (.t 41)), .none⟩]) .ret) .skip)))))))))))))) (.seq (.ops [⟨(.some 6), (.mv (.c (.sc (.bool .false)))), .none⟩]) .ret)))
theorem t_ref1_Taken : trF Try.prog qq 39 = some (42, [(.tmp 6)], c_ref1_Taken) := by kernel_rfl
def c_ref1_SameEnd_l1 : AC := (.seq (.seq (.ops [⟨(.some 43), (.mv (.t 5)), .none⟩, ⟨(.some 44), (.fadr 5 22 1 (.t 2)), .none⟩, ⟨(.some 45), (.load .false 1 (.t 44)), .none⟩, ⟨(.some 46), (.len .none (.t 45)), .none⟩, ⟨(.some 47), (.bin .lss (.t 43) (.t 46)), .none⟩]) (.cond (.t 47) .skip (.exit 0))) (.seq (.block 1 (.seq (.ops [⟨(.some 50), (.fadr 5 22 1 (.t 2)), .none⟩, ⟨(.some 51), (.load .false 1 (.t 50)), .none⟩, ⟨(.some 52), (.mv (.t 5)), .none⟩, ⟨(.some 53), (.iadr .none 3 (.t 51) (.t 52)), .none⟩, ⟨(.some 54), (.load .true 3 (.t 53)), .none⟩, ⟨(.some 55), (.fadr 5 22 1 (.t 3)), .none⟩, ⟨(.some 56), (.load .false 1 (.t 55)), .none⟩, ⟨(.some 57), (.mv (.t 5)), .none⟩, ⟨(.some 58), (.iadr .none 3 (.t 56) (.t 57)), .none⟩, ⟨(.some 59), (.load .true 3 (.t 58)), .none⟩, ⟨(.some 60), (.eqs .true (.agg [(1, .int), (1, .int), (1, .int)]) (.t 54) (.t 59)), .none⟩]) (.cond (.t 60) (.seq (.ops [⟨(.some 4), (.mv (.c (.sc (.bool .false)))), .none⟩]) .ret) .skip))) (.ops [⟨(.some 48), (.mv (.t 5)), .none⟩, ⟨(.some 49), (.bin .add (.t 48) (.c (.sc (.int .i64 1)))), .none⟩, ⟨(.some 5), (.mv (.t 49)), .none⟩])))
def c_ref1_SameEnd_p1 : AC := (.seq (.ops [⟨(.some 4), (.mv (.c (.sc (.bool .true)))), .none⟩]) .ret)
def c_ref1_SameEnd : AC := (.seq (.ops [⟨(.some 2), (.box (.t 0)), .none⟩, ⟨(.some 3), (.box (.t 1)), .none⟩, ⟨(.some 4), (.mv (.c (.sc (.bool .false)))), .none⟩]) (.seq (.seq (.ops [⟨(.some 6), (.fadr 0 0 1 (.t 2)), .none⟩, ⟨(.some 7), (.load .false 1 (.t 6)), .none⟩, ⟨(.some 8), (.fadr 0 0 1 (.t 3)), .none⟩, ⟨(.some 9), (.load .false 1 (.t 8)), .none⟩, ⟨(.some 10), (.bin .neq (.t 7) (.t 9)), .none⟩, ⟨(.some 11), (.mv (.t 10)), .none⟩, ⟨(.some 12), (.fadr 1 1 3 (.t 2)), (.some (11, .false))⟩, ⟨(.some 13), (.load .true 3 (.t 12)), (.some (11, .false))⟩, ⟨(.some 14), (.fadr 1 1 3 (.t 3)), (.some (11, .false))⟩, ⟨(.some 15), (.load .true 3 (.t 14)), (.some (11, .false))⟩, ⟨(.some 16), (.eqs .true (.agg [(1, .int), (1, .int), (1, .int)]) (.t 13) (.t 15)), (.some (11, .false))⟩, ⟨(.some 17), (.pick (.t 11) (.c (.sc (.bool .true))) (.t 16)), .none⟩, ⟨(.some 18), (.mv (.t 17)), .none⟩, ⟨(.some 19), (.fadr 2 4 1 (.t 2)), (.some (18, .false))⟩, ⟨(.some 20), (.load .false 1 (.t 19)), (.some (18, .false))⟩, ⟨(.some 21), (.fadr 2 4 1 (.t 3)), (.some (18, .false))⟩, ⟨(.some 22), (.load .false 1 (.t 21)), (.some (18, .false))⟩, ⟨(.some 23), (.bin .neq (.t 20) (.t 22)), (.some (18, .false))⟩, ⟨(.some 24), (.pick (.t 18) (.c (.sc (.bool .true))) (.t 23)), .none⟩, ⟨(.some 25), (.mv (.t 24)), .none⟩, ⟨(.some 26), (.fadr 4 21 1 (.t 2)), (.some (25, .false))⟩, ⟨(.some 27), (.load .false 1 (.t 26)), (.some (25, .false))⟩, ⟨(.some 28), (.b2s (.t 27)), (.some (25, .false))⟩, ⟨(.some 29), (.fadr 4 21 1 (.t 3)), (.some (25, .false))⟩, ⟨(.some 30), (.load .false 1 (.t 29)), (.some (25, .false))⟩, ⟨(.some 31), (.b2s (.t 30)), (.some (25, .false))⟩, ⟨(.some 32), (.bin .neq (.t 28) (.t 31)), (.some (25, .false))⟩, ⟨(.some 33), (.pick (.t 25) (.c (.sc (.bool .true))) (.t 32)), .none⟩, ⟨(.some 34), (.mv (.t 33)), .none⟩, ⟨(.some 35), (.fadr 5 22 1 (.t 2)), (.some (34, .false))⟩, ⟨(.some 36), (.load .false 1 (.t 35)), (.some (34, .false))⟩, ⟨(.some 37), (.len .none (.t 36)), (.some (34, .false))⟩, ⟨(.some 38), (.fadr 5 22 1 (.t 3)), (.some (34, .false))⟩, ⟨(.some 39), (.load .false 1 (.t 38)), (.some (34, .false))⟩, ⟨(.some 40), (.len .none (.t 39)), (.some (34, .false))⟩, ⟨(.some 41), (.bin .neq (.t 37) (.t 40)), (.some (34, .false))⟩, ⟨(.some 42), (.pick (.t 34) (.c (.sc (.bool .true))) (.t 41)), .none⟩]) (.cond (.t 42) (.seq (.ops [⟨(.some 4), (.mv (.c (.sc (.bool .false)))), .none⟩]) .ret) .skip)) (.seq (.seq (.ops [⟨(.some 5), (.mv (.c (.sc (.int .i64 0)))), .none⟩]) (.block 0 (.loop c_ref1_SameEnd_l1))) c_ref1_SameEnd_p1)))
theorem t_ref1_SameEnd : trF Try.prog qq 40 = some (61, [(.tmp 4)], c_ref1_SameEnd) := by kernel_rfl
def c_ref1_Cap : AC := (.seq (.ops [⟨(.some 6), (.mv (.c (.sc (.int .i64 0)))), .none⟩]) (.seq (.block 0 (.seq (.ops [⟨(.some 8), (.mv (.t 0)), .none⟩, ⟨(.some 9), (.mv (.t 1)), .none⟩, ⟨(.some 10), (.bin .lss (.t 8) (.t 9)), .none⟩, ⟨(.some 7), (.mv (.t 10)), .none⟩]) (.cond (.t 7) (.seq (.ops [⟨(.some 11), (.mv (.t 1)), .none⟩, ⟨(.some 6), (.mv (.t 11)), .none⟩]) .ret) (.seq (.ops [⟨(.some 13), (.mv (.t 0)), .none⟩, ⟨(.some 14), (.mv (.t 2)), .none⟩, ⟨(.some 15), (.bin .gtr (.t 13) (.t 14)), .none⟩, ⟨(.some 12), (.mv (.t 15)), .none⟩]) (.cond (.t 12) (.seq (.ops [⟨(.some 16), (.mv (.t 2)), .none⟩, ⟨(.some 6), (.mv (.t 16)), .none⟩]) .ret) .skip))))) (.seq (.ops [⟨(.some 17), (.mv (.t 0)), .none⟩, ⟨(.some 6), (.mv (.t 17)), .none⟩]) .ret)))
theorem t_ref1_Cap : trF Try.prog qq 41 = some (18, [(.tmp 6)], c_ref1_Cap) := by kernel_rfl
def c_ref1_has : AC := (.seq (.ops [⟨(.some 2), (.mv (.c (.sc (.bool .false)))), .none⟩, ⟨(.some 3), (.mv (.c (.sc (.bool .false)))), .none⟩, ⟨(.some 4), (.mv (.c (.sc (.bool .false)))), .none⟩, ⟨(.some 5), (.mv (.c (.sc (.bool .false)))), .none⟩]) (.seq (.seq (.ops [⟨(.some 6), (.mv (.t 0)), .none⟩]) (.block 0 (.seq (.ops [⟨(.some 8), (.bin .eql (.t 6) (.c (.sc (.int .i64 1)))), .none⟩, ⟨(.some 7), (.mv (.t 8)), .none⟩]) (.cond (.t 7) (.seq (.ops [⟨(.some 2), (.mv (.c (.sc (.bool .true)))), .none⟩, ⟨(.some 3), (.mv (.c (.sc (.bool .true)))), .none⟩, ⟨(.some 4), (.mv (.c (.sc (.bool .true)))), .none⟩, ⟨(.some 5), (.mv (.c (.sc (.bool .false)))), .none⟩]) .ret) (.seq (.seq (.ops [⟨(.some 10), (.bin .eql (.t 6) (.c (.sc (.int .i64 2)))), .none⟩, ⟨(.some 9), (.mv (.t 10)), .none⟩]) (.cond (.t 9) .skip (.ops [⟨(.some 11), (.bin .eql (.t 6) (.c (.sc (.int .i64 4)))), .none⟩, ⟨(.some 9), (.mv (.t 11)), .none⟩]))) (.cond (.t 9) (.seq (.ops [⟨(.some 2), (.mv (.c (.sc (.bool .true)))), .none⟩, ⟨(.some 3), (.mv (.c (.sc (.bool .true)))), .none⟩, ⟨(.some 4), (.mv (.c (.sc (.bool .false)))), .none⟩, ⟨(.some 5), (.mv (.c (.sc (.bool .true)))), .none⟩]) .ret) (.seq (.ops [⟨(.some 13), (.bin .eql (.t 6) (.c (.sc (.int .i64 3)))), .none⟩, ⟨(.some 12), (.mv (.t 13)), .none⟩]) (.cond (.t 12) (.seq (.ops [⟨(.some 2), (.mv (.c (.sc (.bool .true)))), .none⟩, ⟨(.some 3), (.mv (.c (.sc (.bool .false)))), .none⟩, ⟨(.some 4), (.mv (.c (.sc (.bool .false)))), .none⟩, ⟨(.some 5), (.mv (.c (.sc (.bool .true)))), .none⟩]) .ret) (.seq (.seq (.ops [⟨(.some 15), (.bin .eql (.t 6) (.c (.sc (.int .i64 5)))), .none⟩, ⟨(.some 14), (.mv (.t 15)), .none⟩]) (.cond (.t 14) .skip (.ops [⟨(.some 16), (.bin .eql (.t 6) (.c (.sc (.int .i64 6)))), .none⟩, ⟨(.some 14), (.mv (.t 16)), .none⟩]))) (.cond (.t 14) (.seq (.ops [⟨(.some 2), (.mv (.c (.sc (.bool .false)))), .none⟩, ⟨(.some 3), (.mv (.c (.sc (.bool .true)))), .none⟩, ⟨(.some 4), (.mv (.c (.sc (.bool .true)))), .none⟩, ⟨(.some 5), (.mv (.c (.sc (.bool .true)))), .none⟩]) .ret) (.seq (.ops [⟨(.some 18), (.bin .eql (.t 6) (.c (.sc (.int .i64 7)))), .none⟩, ⟨(.some 17), (.mv (.t 18)), .none⟩]) (.cond (.t 17) (.seq (.ops [⟨(.some 2), (.mv (.c (.sc (.bool .false)))), .none⟩, ⟨(.some 3), (.mv (.c (.sc (.bool .false)))), .none⟩, ⟨(.some 4), (.mv (.c (.sc (.bool .false)))), .none⟩, ⟨(.some 5), (.mv (.c (.sc (.bool .true)))), .none⟩]) .ret) .skip)))))))))))) (.seq (.ops [⟨(.some 2), (.mv (.c (.sc (.bool .false)))), .none⟩, ⟨(.some 3), (.mv (.c (.sc (.bool .false)))), .none⟩, ⟨(.some 4), (.mv (.c (.sc (.bool .false)))), .none⟩, ⟨(.some 5), (.mv (.c (.sc (.bool .false)))), .none⟩]) .ret)))
theorem t_ref1_has : trF Try.prog qq 42 = some (19, [(.tmp 2), (.tmp 3), (.tmp 4), (.tmp 5)], c_ref1_has) := by kernel_rfl
def c_ref1_reg : AC := (.seq (.ops [⟨(.some 4), (.mv (.c (.sc (.bool .false)))), .none⟩]) (.seq (.ops [⟨(.some 5), (.mv (.t 0)), .none⟩, ⟨(.some 6), (.bin .eql (.t 5) (.c (.sc (.int .i64 0)))), .none⟩, ⟨(.some 7), (.mv (.t 6)), .none⟩, ⟨(.some 8), (.mv (.t 1)), (.some (7, .false))⟩, ⟨(.some 9), (.mv (.t 8)), (.some (7, .false))⟩, ⟨(.some 10), (.mv (.t 0)), (.some (9, .true))⟩, ⟨(.some 11), (.bin .gtr (.t 10) (.c (.sc (.int .i64 0)))), (.some (9, .true))⟩, ⟨(.some 12), (.pick (.t 9) (.t 11) (.c (.sc (.bool .false)))), (.some (7, .false))⟩, ⟨(.some 13), (.mv (.t 12)), (.some (7, .false))⟩, ⟨(.some 14), (.mv (.t 0)), (.some (13, .true))⟩, ⟨(.some 15), (.bin .leq (.t 14) (.c (.sc (.int .i64 15)))), (.some (13, .true))⟩, ⟨(.some 16), (.pick (.t 13) (.t 15) (.c (.sc (.bool .false)))), (.some (7, .false))⟩, ⟨(.some 17), (.pick (.t 7) (.c (.sc (.bool .true))) (.t 16)), .none⟩, ⟨(.some 4), (.mv (.t 17)), .none⟩]) .ret))
theorem t_ref1_reg : trF Try.prog qq 43 = some (18, [(.tmp 4)], c_ref1_reg) := by kernel_rfl
def c_ref1_Target : AC := (.seq (.ops [⟨(.some 2), (.box (.t 0)), .none⟩, ⟨(.some 4), (.mv (.c (.sc (.int .i64 0)))), .none⟩]) (.seq (.ops [⟨(.some 7), (.fadr 0 0 1 (.t 2)), .none⟩, ⟨(.some 8), (.load .false 1 (.t 7)), .none⟩, ⟨(.some 9), (.mv (.t 1)), .none⟩, ⟨(.some 10), (.iadr .none 5 (.t 8) (.t 9)), .none⟩, ⟨(.some 11), (.load .true 5 (.t 10)), .none⟩, ⟨(.some 5), (.box (.c (.agg 5 [(.sc (.int .i64 0)), (.sc (.int .i64 0)), (.sc (.int .i64 0)), (.sc (.int .i64 0)), (.sc (.int .i64 0))]))), .none⟩, ⟨.none, (.store 5 (.t 5) (.t 11)), .none⟩]) (.seq (.ops [⟨(.some 12), (.fadr 0 0 1 (.t 5)), .none⟩, ⟨(.some 13), (.load .false 1 (.t 12)), .none⟩, ⟨(.some 14), (.call 26 [(.t 13)]), .none⟩, ⟨(.some 6), (.mv (.t 14)), .none⟩]) (.seq (.seq (.ops [⟨(.some 15), (.mv (.t 6)), .none⟩, ⟨(.some 16), (.bin .neq (.t 15) (.c (.sc (.int .i64 6)))), .none⟩, ⟨(.some 17), (.mv (.t 16)), .none⟩, ⟨(.some 18), (.mv (.t 6)), (.some (17, .true))⟩, ⟨(.some 19), (.bin .neq (.t 18) (.c (.sc (.int .i64 7)))), (.some (17, .true))⟩, ⟨(.some 20), (.pick (.t 17) (.t 19) (.c (.sc (.bool .false)))), .none⟩, ⟨(.some 21), (.mv (.t 20)), .none⟩, ⟨(.some 22), (.fadr 4 4 1 (.t 5)), (.some (21, .false))⟩, ⟨(.some 23), (.load .false 1 (.t 22)), (.some (21, .false))⟩, ⟨(.some 24), (.bin .lss (.t 23) (.c (.sc (.int .i64 (-8192))))), (.some (21, .false))⟩, ⟨(.some 25), (.pick (.t 21) (.c (.sc (.bool .true))) (.t 24)), .none⟩, ⟨(.some 26), (.mv (.t 25)), .none⟩, ⟨(.some 27), (.fadr 4 4 1 (.t 5)), (.some (26, .false))⟩, ⟨(.some 28), (.load .false 1 (.t 27)), (.some (26, .false))⟩, ⟨(.some 29), (.bin .gtr (.t 28) (.c (.sc (.int .i64 8191)))), (.some (26, .false))⟩, ⟨(.some 30), (.pick (.t 26) (.c (.sc (.bool .true))) (.t 29)), .none⟩, ⟨(.some 31), (.mv (.t 30)), .none⟩, ⟨(.some 32), (.mv (.t 1)), (.some (31, .false))⟩, ⟨(.some 33), (.fadr 4 4 1 (.t 5)), (.some (31, .false))⟩, ⟨(.some 34), (.load .false 1 (.t 33)), (.some (31, .false))⟩, ⟨(.some 35), (.bin .add (.t 32) (.t 34)), (.some (31, .false))⟩, ⟨(.some 36), (.bin .lss (.t 35) (.c (.sc (.int .i64 0)))), (.some (31, .false))⟩, ⟨(.some 37), (.pick (.t 31) (.c (.sc (.bool .true))) (.t 36)), .none⟩, ⟨(.some 38), (.mv (.t 37)), .none⟩, ⟨(.some 39), (.mv (.t 1)), (.some (38, .false))⟩, ⟨(.some 40), (.fadr 4 4 1 (.t 5)), (.some (38, .false))⟩, ⟨(.some 41), (.load .false 1 (.t 40)), (.some (38, .false))⟩, ⟨(.some 42), (.bin .add (.t 39) (.t 41)), (.some (38, .false))⟩, ⟨(.some 43), (.fadr 0 0 1 (.t 2)), (.some (38, .false))⟩, ⟨(.some 44), (.load .false 1 (.t 43)), (.some (38, .false))⟩, ⟨(.some 45), (.len .none (.t 44)), (.some (38, .false))⟩, ⟨(.some 46), (.bin .geq (.t 42) (.t 45)), (.some (38, .false))⟩, ⟨(.some 47), (.pick (.t 38) (.c (.sc (.bool .true))) (.t 46)), .none⟩]) (.cond (.t 47) (.seq (.ops [⟨(.some 4), (.mv (.c (.sc (.int .i64 (-1))))), .none⟩]) .ret) .skip)) (.seq (.ops [⟨(.some 48), (.mv (.t 1)), .none⟩, ⟨(.some 49), (.fadr 4 4 1 (.t 5)), .none⟩, ⟨(.some 50), (.load .false 1 (.t 49)), .none⟩, ⟨(.some 51), (.bin .add (.t 48) (.t 50)), .none⟩, ⟨(.some 4), (.mv (.t 51)), .none⟩]) .ret)))))
theorem t_ref1_Target : trF Try.prog qq 44 = some (52, [(.tmp 4)], c_ref1_Target) := by kernel_rfl
def c_ref1_Int : AC := (.seq (.ops [⟨(.some 2), (.mv (.c (.sc (.int .i64 0)))), .none⟩]) (.seq (.ops [⟨(.some 4), (.mv (.t 0)), .none⟩, ⟨(.some 5), (.conv .i64 (.t 4)), .none⟩, ⟨(.some 3), (.mv (.t 5)), .none⟩]) (.seq (.seq (.ops [⟨(.some 6), (.mv (.t 3)), .none⟩, ⟨(.some 7), (.bin .geq (.t 6) (.c (.sc (.int .i64 2147483648)))), .none⟩]) (.cond (.t 7) (.seq (.ops [⟨(.some 8), (.mv (.t 3)), .none⟩, ⟨(.some 9), (.bin .sub (.t 8) (.c (.sc (.int .i64 4294967296)))), .none⟩, ⟨(.some 2), (.mv (.t 9)), .none⟩]) .ret) .skip)) (.seq (.ops [⟨(.some 10), (.mv (.t 3)), .none⟩, ⟨(.some 2), (.mv (.t 10)), .none⟩]) .ret))))
theorem t_ref1_Int : trF Try.prog qq 57 = some (11, [(.tmp 2)], c_ref1_Int) := by kernel_rfl
def c_ref1_one : AC := (.seq (.ops [⟨(.some 2), (.mv (.c (.sc (.int .u32 0)))), .none⟩]) (.seq (.seq (.ops [⟨(.some 3), (.mv (.t 0)), .none⟩]) (.cond (.t 3) (.seq (.ops [⟨(.some 2), (.mv (.c (.sc (.int .u32 1)))), .none⟩]) .ret) .skip)) (.seq (.ops [⟨(.some 2), (.mv (.c (.sc (.int .u32 0)))), .none⟩]) .ret)))
theorem t_ref1_one : trF Try.prog qq 58 = some (4, [(.tmp 2)], c_ref1_one) := by kernel_rfl
def c_ref1_div : AC := (.seq (.ops [⟨(.some 4), (.mv (.c (.sc (.int .i64 0)))), .none⟩, ⟨(.some 5), (.mv (.c (.sc (.int .i64 0)))), .none⟩]) (.seq (.ops [⟨(.some 6), (.mv (.t 0)), .none⟩, ⟨(.some 7), (.mv (.t 1)), .none⟩, ⟨(.some 8), (.bin .quo (.t 6) (.t 7)), .none⟩, ⟨(.some 9), (.mv (.t 0)), .none⟩, ⟨(.some 10), (.mv (.t 1)), .none⟩, ⟨(.some 11), (.bin .rem (.t 9) (.t 10)), .none⟩, ⟨(.some 4), (.mv (.t 8)), .none⟩, ⟨(.some 5), (.mv (.t 11)), .none⟩]) .ret))
theorem t_ref1_div : trF Try.prog qq 59 = some (12, [(.tmp 4), (.tmp 5)], c_ref1_div) := by kernel_rfl
def c_ref1_Extend : AC := (.seq (.ops [⟨(.some 4), (.mv (.c (.sc (.int .u32 0)))), .none⟩]) (.seq (.seq (.ops [⟨(.some 5), (.mv (.t 0)), .none⟩]) (.block 0 (.seq (.ops [⟨(.some 7), (.bin .eql (.t 5) (.c (.sc (.int .i64 27)))), .none⟩, ⟨(.some 6), (.mv (.t 7)), .none⟩]) (.cond (.t 6) (.seq (.ops [⟨(.some 8), (.mv (.t 1)), .none⟩, ⟨(.some 9), (.bin .shl (.t 8) (.c (.sc (.int .u64 16)))), .none⟩, ⟨(.some 10), (.call 57 [(.t 9)]), .none⟩, ⟨(.some 11), (.bin .shr (.t 10) (.c (.sc (.int .u64 16)))), .none⟩, ⟨(.some 12), (.conv .u32 (.t 11)), .none⟩, ⟨(.some 4), (.mv (.t 12)), .none⟩]) .ret) (.seq (.ops [⟨(.some 14), (.bin .eql (.t 5) (.c (.sc (.int .i64 29)))), .none⟩, ⟨(.some 13), (.mv (.t 14)), .none⟩]) (.cond (.t 13) (.seq (.ops [⟨(.some 15), (.mv (.t 1)), .none⟩, ⟨(.some 16), (.bin .shl (.t 15) (.c (.sc (.int .u64 24)))), .none⟩, ⟨(.some 17), (.call 57 [(.t 16)]), .none⟩, ⟨(.some 18), (.bin .shr (.t 17) (.c (.sc (.int .u64 24)))), .none⟩, ⟨(.some 19), (.conv .u32 (.t 18)), .none⟩, ⟨(.some 4), (.mv (.t 19)), .none⟩]) .ret) .skip)))))) (.seq (.ops [⟨(.some 20), (.mv (.t 1)), .none⟩, ⟨(.some 4), (.mv (.t 20)), .none⟩]) .ret)))
theorem t_ref1_Extend : trF Try.prog qq 60 = some (21, [(.tmp 4)], c_ref1_Extend) := by kernel_rfl
/-- The functions of ref1. -/
def cl_ref1 : CodeL := [(12, 49, [(.tmp 2)], c_ref1_RightProgram), (14, 12, [(.tmp 2)], c_ref1_First), (15, 43, [(.tmp 6)], c_ref1_Check), (16, 17, [(.tmp 4)], c_ref1_Mask), (17, 64, [(.tmp 4)], c_ref1_Store), (18, 19, [(.tmp 4)], c_ref1_Put), (21, 12, [(.cell 2 .true 23)], c_ref1_Copy), (22, 188, [(.cell 6 .true 23), (.tmp 7)], c_ref1_Step), (23, 15, [(.tmp 4)], c_ref1_SameResult), (24, 39, [(.cell 4 .true 23)], c_ref1_Run), (25, 79, [(.tmp 2)], c_ref1_RightIns), (26, 31, [(.tmp 2)], c_ref1_Form), (27, 31, [(.tmp 2)], c_ref1_Targets), (33, 17, [(.cell 6 .true 23), (.tmp 7)], c_ref1_trap), (34, 10, [(.tmp 4)], c_ref1_value), (35, 15, [(.tmp 2)], c_ref1_Size), (36, 148, [(.tmp 6), (.tmp 7)], c_ref1_Do), (37, 13, [], c_ref1_set), (38, 45, [(.tmp 6)], c_ref1_Load), (39, 42, [(.tmp 6)], c_ref1_Taken), (40, 61, [(.tmp 4)], c_ref1_SameEnd), (41, 18, [(.tmp 6)], c_ref1_Cap), (42, 19, [(.tmp 2), (.tmp 3), (.tmp 4), (.tmp 5)], c_ref1_has), (43, 18, [(.tmp 4)], c_ref1_reg), (44, 52, [(.tmp 4)], c_ref1_Target), (57, 11, [(.tmp 2)], c_ref1_Int), (58, 4, [(.tmp 2)], c_ref1_one), (59, 12, [(.tmp 4), (.tmp 5)], c_ref1_div), (60, 21, [(.tmp 4)], c_ref1_Extend)]
theorem clok_ref1 : AllL (fun p => trF Try.prog qq p.1 = some p.2) cl_ref1 := ⟨t_ref1_RightProgram, t_ref1_First, t_ref1_Check, t_ref1_Mask, t_ref1_Store, t_ref1_Put, t_ref1_Copy, t_ref1_Step, t_ref1_SameResult, t_ref1_Run, t_ref1_RightIns, t_ref1_Form, t_ref1_Targets, t_ref1_trap, t_ref1_value, t_ref1_Size, t_ref1_Do, t_ref1_set, t_ref1_Load, t_ref1_Taken, t_ref1_SameEnd, t_ref1_Cap, t_ref1_has, t_ref1_reg, t_ref1_Target, t_ref1_Int, t_ref1_one, t_ref1_div, t_ref1_Extend, trivial⟩
end Go.Proofs.Ytmfbaglhmiadjaa

/- Code gone through up to its loops. -/
namespace Go.Ra
set_option linter.unusedVariables false
set_option linter.unusedSimpArgs false

/-- What is read by a name. -/
def readX : AX → List Nat
  | .t i => [i]
  | .c _ => []
def memN (i : Nat) : List Nat → Bool
  | [] => false
  | k :: l => bif Nat.beq i k then true else memN i l
def diffN (l r : List Nat) : List Nat := l.filter fun i => !memN i r
def readsX : List AX → List Nat
  | [] => []
  | x :: l => readX x ++ readsX l
def dstL : Option Nat → List Nat
  | some d => [d]
  | none => []
def usesO : List AG → List Nat → List Nat
  | [], _ => []
  | ⟨d, o, g⟩ :: r, df => diffN ((match g with | some (t, _) => [t] | none => []) ++ readsX (opnds o)) df ++ usesO r (dstL d ++ df)
def mustO : List AG → List Nat
  | [] => []
  | ⟨d, _, _⟩ :: r => dstL d ++ mustO r
/-- The names that code sets, whatever comes. -/
def mustD : AC → List Nat
  | .ops l => mustO l
  | .opsD l _ => mustO l
  | .seq a b => mustD a ++ mustD b
  | _ => []
/-- The names that code may read before it sets them. -/
def usesC : AC → List Nat
  | .ops l => usesO l []
  | .opsD l _ => usesO l []
  | .seq a b => usesC a ++ diffN (usesC b) (mustD a)
  | .cond c x y => readX c ++ (usesC x ++ usesC y)
  | .block _ c => usesC c
  | .loop c => usesC c
  | _ => []
def delN (k : Nat) (l : List Nat) : List Nat := l.filter fun i => !Nat.beq i k
/-- The names of a list alone. -/
def pruneE : List Nat → List (Nat × XV) → List (Nat × XV)
  | _, [] => []
  | l, (k, v) :: r => bif memN k l then (k, v) :: pruneE (delN k l) r else pruneE l r

theorem memN_del {i k : Nat} : ∀ {l : List Nat}, memN i (delN k l) = true → memN i l = true
  | [], h => h
  | a :: l, h => by
    simp only [delN, List.filter_cons] at h
    simp only [memN]
    cases hb : Nat.beq i a
    · rw [cond_false]
      split at h
      · simp only [memN, hb, cond_false] at h
        exact memN_del (k := k) h
      · exact memN_del (k := k) h
    · rfl
theorem getX_prune_none {i : Nat} : ∀ (l : List Nat) (env : List (Nat × XV)), memN i l = false → getX (pruneE l env) i = .unk
  | l, [], h => rfl
  | l, (k, v) :: r, h => by
    simp only [pruneE]
    cases hk : memN k l
    · exact getX_prune_none l r h
    · simp only [cond_true, getX, beq_if]
      have : ¬ i = k := fun e => by rw [e, hk] at h; cases h
      rw [if_neg this]
      refine getX_prune_none _ r ?_
      cases hd : memN i (delN k l)
      · rfl
      · rw [memN_del hd] at h; cases h
theorem getX_prune {i : Nat} : ∀ (l : List Nat) (env : List (Nat × XV)), getX (pruneE l env) i = .unk ∨ getX (pruneE l env) i = getX env i
  | l, [] => .inl rfl
  | l, (k, v) :: r => by
    simp only [pruneE]
    cases hk : memN k l
    · rw [cond_false]
      by_cases hi : i = k
      · subst hi
        exact .inl (getX_prune_none l r hk)
      · simp only [getX, beq_if, if_neg hi]
        exact getX_prune l r
    · simp only [cond_true, getX, beq_if]
      by_cases hi : i = k
      · rw [if_pos hi, if_pos hi]; exact .inr rfl
      · rw [if_neg hi, if_neg hi]
        exact getX_prune _ r
def XSt.prune (l : List Nat) (σ : XSt) : XSt := ⟨pruneE l σ.env, σ.hl, σ.n⟩
theorem prune_weak (l : List Nat) (σ : XSt) : Weak σ.st (σ.prune l).st := by
  refine ⟨fun i => ?_, fun _ => .inr rfl, Nat.le_refl _⟩
  show leA (get (conE σ.env) i) (get (conE (pruneE l σ.env)) i)
  rw [get_conE, get_conE]
  rcases getX_prune l σ.env (i := i) with h | h
  · rw [h]; exact .inl rfl
  · rw [h]; exact .inr (.inl rfl)
theorem leA_trans {a b c : AV} (h1 : leA a b) (h2 : leA b c) : leA a c := by
  rcases h2 with rfl | rfl | ⟨x, es, es', ts, rfl, rfl, h⟩
  · exact .inl rfl
  · exact h1
  · rcases h1 with h1 | h1 | ⟨x', e1, e2, us, rfl, h3, h4⟩
    · cases h1
    · subst h1; exact .inr (.inr ⟨x, es, es', ts, rfl, rfl, h⟩)
    · simp only [AV.fro.injEq] at h3
      obtain ⟨_, rfl, rfl⟩ := h3
      refine .inr (.inr ⟨x', e1, es', ts, rfl, rfl, ?_⟩)
      rcases h with rfl | h
      · exact h4
      · exact .inr h
theorem Weak.trans {σ τ υ : St} (h1 : Weak σ τ) (h2 : Weak τ υ) : Weak σ υ :=
  ⟨fun i => leA_trans (h1.1 i) (h2.1 i), fun i => by
    rcases h2.2.1 i with h | h
    · exact .inl h
    · rw [h]; exact h1.2.1 i, Nat.le_trans h1.2.2 h2.2.2⟩

theorem weakE_less {m k : Nat} {σ τ : St} (hm : m ≤ k) (h : WeakE k σ τ) : WeakE m σ τ := fun fr G0 w0 nt a w hl hs => h fr G0 w0 nt a w (fun i l hi => Nat.lt_of_lt_of_le (hl i l hi) hm) hs
theorem weakE_trans {m : Nat} {σ τ υ : St} (h1 : Weak σ τ) (h2 : WeakE m τ υ) : WeakE m σ υ := (WeakE.of h1).trans h2

inductive Frm where
  | seq (b : AC)
  | blk (id : Nat)
  | lp (c : AC) (A : XSt → Prop)

def usesF : List Frm → List Nat
  | [] => []
  | .seq b :: s => usesC b ++ usesF s
  | .blk _ :: s => usesF s
  | .lp c _ :: s => usesC c ++ usesF s

/-- What is asked behind code that stands in other code. -/
def unwind (C : Orc) : List Frm → (AE → St → Prop) → AE → St → Prop
  | [], Φ => Φ
  | .seq b :: s, Φ => AE.then (fun σ => wpC C b σ (unwind C s Φ)) (unwind C s Φ)
  | .blk id :: s, Φ => AE.inBlock id (unwind C s Φ)
  | .lp _ A :: s, Φ => AE.then (fun t => ∃ σ : XSt, Weak t σ.st ∧ A σ) (unwind C s Φ)

/-- A loop, and what stands behind it. -/
structure LoopAt (C : Orc) (c : AC) (σ : XSt) (s : List Frm) (Φ : AE → St → Prop) : Prop where
  out : wpC C (.loop c) σ.st (unwind C s Φ)

inductive Job where
  | run (c : AC)
  | back (e : AE)

section
variable (T : Tab) (C : Orc) (ci : Nat → List XV → XSt → (XV → XSt → Prop) → Prop) (kp : List Nat) (fin : AE → XSt → Prop) (Φ : AE → St → Prop)
/-- Code, with what stands behind it; loops are left. -/
def exS : Nat → Job → List Frm → XSt → Prop
  | 0, _, _, _ => False
  | n + 1, .run c, s, σ =>
    match c with
    | .skip => exS n (.back .normal) s σ
    | .ops l => exO T ci (grp l) σ fun σ' => exS n (.back .normal) s σ'
    | .opsD l ps => exO T ci (grp l) σ fun σ' => need (sepXs σ' ps) (exS n (.back .normal) s σ')
    | .seq a b => exS n (.run a) (.seq b :: s) σ
    | .cond c x y =>
      match strip (σ.ev c) with
      | .bool b => need (isThere (σ.ev c)) (cond b (exS n (.run x) s σ) (exS n (.run y) s σ))
      | _ => False
    | .block id c => exS n (.run c) (.blk id :: s) σ
    | .loop c => LoopAt C c (σ.prune (usesC c ++ (usesF s ++ kp))) s Φ
    | .exit id => exS n (.back (.exit id)) s σ
    | .ret => exS n (.back .ret) s σ
    | .frz => need σ.fz.1 (exS n (.back .normal) s σ.fz.2)
  | n + 1, .back e, s, σ =>
    match s with
    | [] => fin e σ
    | .seq b :: s =>
      match e with
      | .normal => exS n (.run b) s σ
      | e => exS n (.back e) s σ
    | .blk id :: s =>
      match e with
      | .exit i => cond (Nat.beq i id) (exS n (.back .normal) s σ) (exS n (.back (.exit i)) s σ)
      | e => exS n (.back e) s σ
    | .lp c A :: s =>
      match e with
      | .normal => A (σ.prune (usesC c ++ (usesF s ++ kp)))
      | e => exS n (.back e) s σ
end

section
variable {P : Program} {T : Tab} {ci : Nat → List XV → XSt → (XV → XSt → Prop) → Prop} {kp : List Nat} {fin : AE → XSt → Prop} {Φ : AE → St → Prop}
def jobWp (C : Orc) (j : Job) (σ : XSt) (Ψ : AE → St → Prop) : Prop :=
  match j with
  | .run c => wpC C c σ.st Ψ
  | .back e => Ψ e σ.st

theorem wpC_loop_weak {C : Orc} {c : AC} {σ τ : St} {Ψ : AE → St → Prop} (hw : Weak σ τ) (h : wpC C (.loop c) τ Ψ) : wpC C (.loop c) σ Ψ := by
  unfold wpC at h ⊢
  obtain ⟨Inv, μ, ⟨υ, h1, h2⟩, h3⟩ := h
  refine ⟨Inv, μ, ⟨υ, weakE_trans hw (weakE_less hw.2.2 h1), h2⟩, fun τ' hτ => wpC_mono _ _ (fun e t he => ?_) c τ' (h3 τ' hτ)⟩
  cases e with
  | normal =>
    obtain ⟨t', g1, g2, g3⟩ := he
    exact ⟨t', weakE_less hw.2.2 g1, g2, g3⟩
  | exit _ => exact he
  | ret => exact he

theorem exS_ok (hT : TabOk P T) (hci : CiOk P T.q ci) (hfin : ∀ e σ, fin e σ → Φ e σ.st) : ∀ (n : Nat) (j : Job) (s : List Frm) (σ : XSt), exS T (Ok P T.q) ci kp fin Φ n j s σ → jobWp (Ok P T.q) j σ (unwind (Ok P T.q) s Φ)
  | 0, _, _, _, h => h.elim
  | n + 1, .run c, s, σ, h => by
    have ih := exS_ok hT hci hfin n
    simp only [jobWp]
    cases c with
    | skip => exact ih (.back .normal) s σ h
    | ops l =>
      simp only [exS] at h
      obtain ⟨h1, h2⟩ := grp_ung l
      obtain ⟨σ', h3, h4⟩ := exO_ok hT hci (grp l) σ _ h h2
      rw [h1] at h4
      exact h4 _ (ih (.back .normal) s σ' h3)
    | opsD l ps =>
      simp only [exS] at h
      obtain ⟨h1, h2⟩ := grp_ung l
      obtain ⟨σ', h3, h4⟩ := exO_ok hT hci (grp l) σ _ h h2
      rw [h1] at h4
      rw [need_iff] at h3
      exact h4 _ ⟨sepXs_ok h3.1, ih (.back .normal) s σ' h3.2⟩
    | seq a b => exact ih (.run a) (.seq b :: s) σ h
    | cond c x y =>
      simp only [exS] at h
      split at h
      · rename_i b hb
        rw [need_iff] at h
        have hc : σ.st.ev c = .sc (.bool b) := by rw [st_ev, strip_con h.1, hb]; rfl
        unfold wpC
        rw [hc]
        cases b with
        | true => exact ⟨fun _ => ih (.run x) s σ h.2, fun e => by cases e⟩
        | false => exact ⟨fun e => (by cases e), fun _ => ih (.run y) s σ h.2⟩
      · cases h
    | block id c => exact ih (.run c) (.blk id :: s) σ h
    | loop c => exact wpC_loop_weak (prune_weak _ σ) h.out
    | exit id => exact ih (.back (.exit id)) s σ h
    | ret => exact ih (.back .ret) s σ h
    | frz =>
      simp only [exS] at h
      rw [need_iff] at h
      exact ⟨_, fz_ok h.1, ih (.back .normal) s _ h.2⟩
  | n + 1, .back e, s, σ, h => by
    have ih := exS_ok hT hci hfin n
    simp only [jobWp]
    cases s with
    | nil => exact hfin e σ h
    | cons f s =>
      cases f with
      | seq b =>
        cases e with
        | normal => exact ih (.run b) s σ h
        | exit i => exact ih (.back (.exit i)) s σ h
        | ret => exact ih (.back .ret) s σ h
      | blk id =>
        cases e with
        | normal => exact ih (.back .normal) s σ h
        | ret => exact ih (.back .ret) s σ h
        | exit i =>
          simp only [exS] at h
          simp only [unwind, AE.inBlock]
          cases hi : Nat.beq i id <;> rw [hi] at h
          · rw [if_neg (Nat.ne_of_beq_eq_false hi)]
            exact ih (.back (.exit i)) s σ h
          · rw [if_pos (Nat.eq_of_beq_eq_true hi)]
            exact ih (.back .normal) s σ h
      | lp c A =>
        cases e with
        | normal => exact ⟨_, prune_weak _ σ, h⟩
        | exit i => exact ih (.back (.exit i)) s σ h
        | ret => exact ih (.back .ret) s σ h

/-- What is asked at the end of a function that leaves memory alone and gives r. -/
def finP (rs : List AR) (r : AV) : AE → XSt → Prop := retX rs (frzK fun v => con v = r)
def finR (rs : List AR) (r : AV) : AE → St → Prop := retP rs fun v τ => frz τ 6 v = some r
def keepR : List AR → List Nat
  | [] => []
  | .tmp t :: r => t :: keepR r
  | .cell t _ _ :: r => t :: keepR r

theorem finP_ok {rs : List AR} {r : AV} (e : AE) (σ : XSt) (h : finP rs r e σ) : finR rs r e σ.st := by
  obtain ⟨v, h3, h4⟩ := retX_ok h
  refine h4 (fun v τ => frz τ 6 v = some r) ?_
  unfold frzK at h3
  split at h3
  · rename_i nd r' hz
    rw [need_iff] at h3
    rw [← h3.2]
    exact frzX_con (st_H σ) 6 v nd r' hz h3.1
  · cases h3

/-- Code of a function up to its loops. -/
abbrev goS (P : Program) (T : Tab) (rs : List AR) (r : AV) (j : Job) (s : List Frm) (σ : XSt) : Prop := exS T (Ok P T.q) (callI T 80 20) (keepR rs) (finP rs r) (finR rs r) 2000 j s σ

/-- A function that leaves memory alone, gone through up to its loops. -/
theorem pureS (hmix : P.follows .mixedOrders = true) (hT : TabOk P T) {f nt : Nat} {rs : List AR} {c : AC} (hF : trF P T.q f = some (nt, rs, c)) {args : List XV} {r : AV} (hl : args.length ≤ nt) (h : goS P T rs r (.run c) [] ⟨envX 0 args, [], 0⟩) : Pure P f (cons args) r := by
  have := exS_ok hT (callI_ok hmix hT 20) finP_ok 2000 _ _ _ h
  refine pure_of (k := 6) hmix Ok.ok Ok.quiet hF (by rw [cons_len]; exact hl) ?_
  simpa [jobWp, unwind, XSt.st, envX_con, conH, finR] using this

/-- A loop whose states are numbered: one round, from each of them, and what stands behind the loop. -/
theorem loopS (hmix : P.follows .mixedOrders = true) (hT : TabOk P T) {rs : List AR} {r : AV} {c : AC} {σ : XSt} {s : List Frm} {ι : Type} (S : ι → XSt) (V : ι → Prop) (m : ι → Nat) (i0 : ι) (hV : V i0) (h0 : Weak σ.st (S i0).st)
    (hr : ∀ i, V i → goS P T rs r (.run c) (.lp c (fun τ => ∃ j, V j ∧ Weak τ.st (S j).st ∧ m j < m i) :: s) (S i)) : LoopAt (Ok P T.q) c σ s (finR rs r) :=
  ⟨wpC_for (fun i => (S i).st) V m i0 hV h0 fun i hi => by
    have h := exS_ok hT (callI_ok hmix hT 20) finP_ok 2000 _ _ _ (hr i hi)
    refine wpC_mono _ _ (fun e t he => ?_) c _ h
    cases e with
    | normal =>
      obtain ⟨τ, hw, j, h1, h2, h3⟩ := he
      exact ⟨j, h1, hw.trans h2, h3⟩
    | exit _ => exact he
    | ret => exact he⟩

theorem cnd2 {b : Bool} {p q : Prop} (h1 : b = true → p) (h2 : b = false → q) : cond b p q := by
  cases b
  · exact h2 rfl
  · exact h1 rfl
theorem pk_and (b : Bool) : (bif b then b else true) = true := by cases b <;> rfl
theorem pk_or (b : Bool) : (bif b then true else !b) = true := by cases b <;> rfl
theorem allN_true (n : Nat) : allN (fun _ => true) n = true := allN_iff.2 fun _ _ => rfl

/-- The state says no more than is so. -/
def agreeX : List (Nat × XV) → List (Nat × XV) → Prop
  | [], _ => True
  | (k, v) :: r, e => con (getX e k) = con v ∧ agreeX r e
def agreeXH : List (Nat × Option XV) → List (Nat × Option XV) → Prop
  | [], _ => True
  | (k, v) :: r, e => (lookX e k).map con = v.map con ∧ agreeXH r e
theorem agreeX_ok : ∀ {l e : List (Nat × XV)}, agreeX l e → agrees (conE l) (conE e)
  | [], e, h => trivial
  | (k, v) :: r, e, h => ⟨by rw [get_conE]; exact .inr (.inl h.1.symm), agreeX_ok h.2⟩
theorem agreeXH_ok : ∀ {l e : List (Nat × Option XV)}, agreeXH l e → agreesH (conH l) (conH e) (fun _ => none)
  | [], e, h => trivial
  | (k, v) :: r, e, h => ⟨by rw [look_conH]; exact h.1, agreeXH_ok h.2⟩
/-- The same, where less may be said of rows. -/
def agreeN : List (Nat × XV) → List (Nat × XV) → Prop
  | [], _ => True
  | (k, v) :: r, e => leA (con (getX e k)) (con v) ∧ agreeN r e
theorem agreeN_ok : ∀ {l e : List (Nat × XV)}, agreeN l e → agrees (conE l) (conE e)
  | [], e, h => trivial
  | (k, v) :: r, e, h => ⟨by rw [get_conE]; exact h.1, agreeN_ok h.2⟩
theorem weakN {σ τ : XSt} (h1 : agreeN τ.env σ.env) (h2 : agreeXH τ.hl σ.hl) (h3 : σ.n ≤ τ.n) : Weak σ.st τ.st := weak_of (agreeN_ok h1) (agreeXH_ok h2) h3
theorem le_is {a b : AV} (h : a = b) : leA a b := .inr (.inl h.symm)
theorem weakX {σ τ : XSt} (h1 : agreeX τ.env σ.env) (h2 : agreeXH τ.hl σ.hl) (h3 : σ.n ≤ τ.n) : Weak σ.st τ.st := weak_of (agreeX_ok h1) (agreeXH_ok h2) h3
mutual
def XV.low (n : Nat) : XV → Bool
  | .agg _ ts => XV.lows n ts
  | .clo _ cs => XV.lows n cs
  | .tup ts => XV.lows n ts
  | .sl id _ _ _ _ _ => Nat.blt id n
  | .ptr id _ _ => Nat.blt id n
  | .opt _ v => v.low n
  | .raw v => v.lowA n
  | _ => true
def XV.lows (n : Nat) : List XV → Bool
  | [] => true
  | t :: ts => bif t.low n then XV.lows n ts else false
end
mutual
theorem con_low {n : Nat} : ∀ t : XV, t.low n = true → (con t).lowA n = true
  | .opt g v, h => by
    cases g
    · rfl
    · exact con_low v h
  | .tri z b, h => by cases z <;> rfl
  | .int .., h => rfl
  | .bool _, h => rfl
  | .str .., h => rfl
  | .agg m ts, h => by simp only [con, AV.lowA]; exact cons_low ts h
  | .tab .., h => rfl
  | .row .., h => rfl
  | .fptr _, h => rfl
  | .sl .., h => h
  | .ptr .., h => h
  | .clo f cs, h => by simp only [con, AV.lowA]; exact cons_low cs h
  | .tup ts, h => by simp only [con, AV.lowA]; exact cons_low ts h
  | .anyb, h => rfl
  | .unk, h => rfl
  | .raw _, h => h
theorem cons_low {n : Nat} : ∀ ts : List XV, XV.lows n ts = true → AV.lowAs n (cons ts) = true
  | [], h => rfl
  | t :: ts, h => by
    simp only [XV.lows] at h
    cases ht : t.low n <;> rw [ht] at h
    · cases h
    · simp only [cons, AV.lowAs, con_low t ht, cons_low ts h, Bool.and_self]
end
def lowE (n : Nat) : List (Nat × XV) → Bool
  | [] => true
  | (_, v) :: r => bif v.low n then lowE n r else false
def lowH (n : Nat) : List (Nat × Option XV) → Bool
  | [] => true
  | (k, v) :: r => bif Nat.blt k n then (bif (match v with | some t => t.low n | none => true) then lowH n r else false) else false
/-- Nothing with a name from n on is spoken of. -/
def XSt.low (σ : XSt) : Bool := bif lowE σ.n σ.env then lowH σ.n σ.hl else false
theorem lowE_get {n i : Nat} : ∀ {l : List (Nat × XV)}, lowE n l = true → (get (conE l) i).lowA n = true
  | [], h => rfl
  | (k, v) :: r, h => by
    simp only [lowE] at h
    cases hv : v.low n <;> rw [hv] at h
    · cases h
    · show (if i = k then con v else get (conE r) i).lowA n = true
      split
      · exact con_low v hv
      · exact lowE_get h
theorem lowH_get {n i : Nat} : ∀ {l : List (Nat × Option XV)}, lowH n l = true → (n ≤ i → look (conH l) (fun _ => none) i = none) ∧ ∀ t, look (conH l) (fun _ => none) i = some t → t.lowA n = true
  | [], h => ⟨fun _ => rfl, fun t ht => by cases ht⟩
  | (k, v) :: r, h => by
    simp only [lowH] at h
    cases hk : Nat.blt k n <;> rw [hk] at h
    · cases h
    · rw [cond_true] at h
      have hkn : k < n := Nat.le_of_ble_eq_true hk
      have hr : lowH n r = true := by
        cases v with
        | none => exact h
        | some u =>
          simp only at h
          cases hu : u.low n <;> rw [hu] at h
          · cases h
          · exact h
      obtain ⟨i1, i2⟩ := lowH_get (i := i) (l := r) hr
      show (n ≤ i → (if i = k then v.map con else look (conH r) _ i) = none) ∧ ∀ t, (if i = k then v.map con else look (conH r) _ i) = some t → t.lowA n = true
      by_cases hik : i = k
      · subst hik
        refine ⟨fun hn => by omega, fun t ht => ?_⟩
        rw [if_pos rfl] at ht
        cases v with
        | none => cases ht
        | some u =>
          simp only [Option.map_some, Option.some.injEq] at ht
          subst ht
          simp only at h
          cases hu : u.low n <;> rw [hu] at h
          · cases h
          · exact con_low u hu
      · rw [if_neg hik]
        exact ⟨i1, i2⟩
theorem low_of {m : Nat} {σ τ : XSt} (h1 : m ≤ τ.n) (h2 : τ.low = true) : LowN m σ.st τ.st := by
  unfold XSt.low at h2
  cases he : lowE τ.n τ.env <;> rw [he] at h2
  · cases h2
  · rw [cond_true] at h2
    exact .inr ⟨h1, fun i => lowE_get he, fun i hi => (lowH_get h2).1 hi, fun i t ht => (lowH_get h2).2 t ht⟩
/-- The same for rounds that begin with the same names anew. -/
theorem weakT {m : Nat} {σ τ : XSt} (h1 : agreeN τ.env σ.env) (h2 : agreeXH τ.hl σ.hl) (h3 : m ≤ τ.n) (h4 : τ.low = true) : WeakL m σ.st τ.st :=
  ⟨agrees_get (agreeN_ok h1), agreesH_look (agreeXH_ok h2), low_of h3 h4⟩

def kap (l : List (Nat × Nat)) (j : Nat) : Option Nat :=
  match l with
  | [] => none
  | (k, i) :: r => bif Nat.beq j k then some i else kap r j
def kapLow (n : Nat) : List (Nat × Nat) → Bool
  | [] => true
  | (k, _) :: r => bif Nat.blt k n then kapLow n r else false
def kapNo (i : Nat) : List (Nat × Nat) → Bool
  | [] => true
  | (_, a) :: r => bif Nat.beq i a then false else kapNo i r
/-- Each name stands for another one. -/
def kapInj : List (Nat × Nat) → Bool
  | [] => true
  | (_, i) :: r => bif kapNo i r then kapInj r else false
def keysLow (n : Nat) : List (Nat × Option XV) → Bool
  | [] => true
  | (k, _) :: r => bif Nat.blt k n then keysLow n r else false
/-- The names ahead of the loop stay. -/
def kapId (l : List (Nat × Nat)) (m : Nat) : Bool := allN (fun j => match kap l j with | some i => Nat.beq i j | none => false) m
theorem kap_high {n j : Nat} : ∀ {l : List (Nat × Nat)}, kapLow n l = true → n ≤ j → kap l j = none
  | [], _, _ => rfl
  | (k, i) :: r, h, hj => by
    simp only [kapLow] at h
    cases hk : Nat.blt k n <;> rw [hk] at h
    · cases h
    · have hkn : k < n := Nat.le_of_ble_eq_true hk
      have : ¬ j = k := by omega
      simp only [kap, beq_if, if_neg this]
      exact kap_high h hj
theorem kap_no {i : Nat} : ∀ {l : List (Nat × Nat)}, kapNo i l = true → ∀ j, kap l j ≠ some i
  | [], _, j, h => by cases h
  | (k, a) :: r, h, j, hj => by
    simp only [kapNo, beq_if] at h
    split at h
    · cases h
    · rename_i hia
      simp only [kap, beq_if] at hj
      split at hj
      · simp only [Option.some.injEq] at hj
        exact hia hj.symm
      · exact kap_no h j hj
theorem kap_inj : ∀ {l : List (Nat × Nat)}, kapInj l = true → ∀ i j j', kap l j = some i → kap l j' = some i → j = j'
  | [], _, i, j, j', h, _ => by cases h
  | (k, a) :: r, h, i, j, j', h1, h2 => by
    simp only [kapInj] at h
    cases hno : kapNo a r <;> rw [hno] at h
    · cases h
    · rw [cond_true] at h
      simp only [kap, beq_if] at h1 h2
      split at h1
      · rename_i hj
        simp only [Option.some.injEq] at h1
        subst h1
        split at h2
        · rename_i hj'
          rw [hj, hj']
        · exact absurd h2 (kap_no hno j')
      · split at h2
        · simp only [Option.some.injEq] at h2
          subst h2
          exact absurd h1 (kap_no hno j)
        · exact kap_inj h i j j' h1 h2
theorem keys_high {n j : Nat} : ∀ {l : List (Nat × Option XV)}, keysLow n l = true → n ≤ j → look (conH l) (fun _ => none) j = none
  | [], _, _ => rfl
  | (k, v) :: r, h, hj => by
    simp only [keysLow] at h
    cases hk : Nat.blt k n <;> rw [hk] at h
    · cases h
    · have hkn : k < n := Nat.le_of_ble_eq_true hk
      have : ¬ j = k := by omega
      show (if j = k then v.map con else look (conH r) _ j) = none
      rw [if_neg this]
      exact keys_high h hj
def agreeK (κ : Nat → Option Nat) : List (Nat × XV) → List (Nat × XV) → Prop
  | [], _ => True
  | (k, v) :: r, e => leK κ (con (getX e k)) (con v) ∧ agreeK κ r e
def agreeKH (κ : Nat → Option Nat) : List (Nat × Option XV) → List (Nat × Option XV) → Prop
  | [], _ => True
  | (j, some t') :: r, e => (match κ j with
      | some i => (match lookX e i with | some t => leK κ (con t) (con t') | none => False)
      | none => ∃ es, con t' = .arr 0 es []) ∧ agreeKH κ r e
  | (_, none) :: r, e => agreeKH κ r e
theorem agreeK_get {κ : Nat → Option Nat} {i : Nat} : ∀ {l e : List (Nat × XV)}, agreeK κ l e → get (conE l) i = .unk ∨ leK κ (get (conE e) i) (get (conE l) i)
  | [], e, h => .inl rfl
  | (k, v) :: r, e, h => by
    show (if i = k then con v else get (conE r) i) = .unk ∨ leK κ _ (if i = k then con v else get (conE r) i)
    by_cases hi : i = k
    · subst hi
      rw [if_pos rfl, get_conE]
      exact .inr h.1
    · rw [if_neg hi]
      exact agreeK_get h.2
theorem agreeKH_get {κ : Nat → Option Nat} {j : Nat} {t' : AV} : ∀ {l e : List (Nat × Option XV)}, agreeKH κ l e → look (conH l) (fun _ => none) j = some t' → (∃ i t, κ j = some i ∧ look (conH e) (fun _ => none) i = some t ∧ leK κ t t') ∨ (κ j = none ∧ ∃ es, t' = .arr 0 es [])
  | [], e, h, hj => by cases hj
  | (k, v) :: r, e, h, hj => by
    have hj' : (if j = k then v.map con else look (conH r) (fun _ => none) j) = some t' := hj
    by_cases hk : j = k
    · subst hk
      rw [if_pos rfl] at hj'
      cases v with
      | none => cases hj'
      | some t =>
        simp only [Option.map_some, Option.some.injEq] at hj'
        subst hj'
        have h1 := h.1
        cases hκ : κ j with
        | none =>
          rw [hκ] at h1
          exact .inr ⟨rfl, h1⟩
        | some i =>
          rw [hκ] at h1
          simp only at h1
          cases hl : lookX e i with
          | none => rw [hl] at h1; cases h1
          | some u =>
            rw [hl] at h1
            exact .inl ⟨i, con u, rfl, by rw [look_conH, hl]; rfl, h1⟩
    · rw [if_neg hk] at hj'
      cases v with
      | none => exact agreeKH_get (l := r) h hj'
      | some t => exact agreeKH_get (l := r) h.2 hj'
theorem k_is {κ : Nat → Option Nat} {a b : XV} (h : con a = con b) (hl : b.low 0 = true) : leK κ (con a) (con b) := by
  rw [h]; exact .same (con_low b hl)
theorem k_row {κ : Nat → Option Nat} {x : Bool} {e es n m : Nat} {f g : Nat → XV} (hn : n = m) (he : es = e ∨ n = 0) (h : ∀ i, i < n → con (f i) = con (g i)) : leK κ (con (.row x e n f)) (con (.row false es m g)) := by
  subst hn
  show leK κ (.fro x e (tabL n fun i => con (f i))) (.fro false es (tabL n fun i => con (g i)))
  rw [tabL_congr h]
  exact .fro (he.imp id fun h => tabL_nil.2 h)
theorem k_tab {κ : Nat → Option Nat} {es n : Nat} {f g : Nat → XV} (h : ∀ i, i < n → con (f i) = con (g i)) : leK κ (con (.tab n es f)) (con (.tab n es g)) := by
  refine k_is ?_ rfl
  simp only [con]
  rw [tabL_congr h]
theorem k_nil {κ : Nat → Option Nat} {e es j off k n : Nat} {path : List Nat} {f : Nat → XV} (hn : n = 0) : leK κ (con (.row true e n f)) (con (.sl j path off k 0 es)) := by
  subst hn
  exact .nil

end
end Go.Ra

/- Rows of structs: their fields, and when two are one. -/
namespace Go.Ra
set_option linter.unusedVariables false
set_option linter.unusedSimpArgs false

def asB : XV → Bool
  | .bool b => b
  | _ => false
/-- Is it of these kinds? -/
inductive KD where
  | i (k : IntKind)
  | b
def isK : KD → XV → Bool
  | .i k, .int k' _ => decide (k = k')
  | .b, .bool _ => true
  | _, _ => false
def mkK : KD → XV → XV
  | .i k, v => .int k (asN v)
  | .b, v => .bool (asB v)
theorem mkK_eq {k : KD} {v : XV} (h : isK k v = true) : mkK k v = v := by
  cases k <;> cases v <;> simp only [isK, Bool.false_eq_true, decide_eq_true_eq] at h
  · subst h; rfl
  · rfl
def okE (e es n : Nat) : Bool := Nat.beq e es || Nat.beq n 0

theorem con_row {x : Bool} {es n : Nat} {f g : Nat → XV} (h : ∀ i, i < n → con (f i) = con (g i)) : con (.row x es n f) = con (.row x es n g) := by
  simp only [con]
  rw [tabL_congr h]

/-- The same but for what an empty row's elements would be. -/
def nilEq (a b : AV) : Prop := a = b ∨ ∃ x es es', a = .fro x es [] ∧ b = .fro x es' []
inductive nilEqs : List AV → List AV → Prop
  | nil : nilEqs [] []
  | cons {a b : AV} {l r : List AV} : nilEq a b → nilEqs l r → nilEqs (a :: l) (b :: r)
theorem nilEq.rel {w : World} {F : Nat → Prop} {ρ : Nat → Option Loc} {a b : AV} {v : Value} (h : nilEq a b) (hr : RelV w F ρ a v) : RelV w F ρ b v := by
  rcases h with rfl | ⟨x, es, es', rfl, rfl⟩
  · exact hr
  · obtain ⟨a, cap, rfl, _, hc, _⟩ := hr.fro_inv
    exact .one (.fro0 fun hx => hc hx) rfl
theorem nilEqs.rel {w : World} {F : Nat → Prop} {ρ : Nat → Option Loc} : ∀ {l r : List AV} {vs : List Value}, nilEqs l r → RelVs w F ρ l vs → RelVs w F ρ r vs
  | _, _, _, .nil, .nil => .nil
  | _, _, _, .cons h1 h2, .cons h3 h4 => .cons (h1.rel h3) (nilEqs.rel h2 h4)
theorem Pure.nilEqs {P : Program} {f : Nat} {l r : List AV} {v : AV} (hp : Pure P f r v) (h : nilEqs l r) : Pure P f l v :=
  ⟨hp.1, fun w F vs hF hr => hp.2 w F vs hF (h.rel hr)⟩

theorem nil_row {x : Bool} {e es n : Nat} {f g : Nat → XV} (ho : okE e es n = true) (h : ∀ i, i < n → con (f i) = con (g i)) : nilEq (con (.row x e n f)) (con (.row x es n g)) := by
  simp only [okE, Bool.or_eq_true] at ho
  rcases ho with ho | ho
  · have := Nat.eq_of_beq_eq_true ho
    subst this
    exact .inl (con_row h)
  · have := Nat.eq_of_beq_eq_true ho
    subst this
    exact .inr ⟨x, e, es, rfl, rfl⟩
theorem nil_self (a : AV) : nilEq a a := .inl rfl
mutual
/-- The same but for what empty rows' elements would be, within structs too. -/
inductive nilQ : AV → AV → Prop
  | refl (a : AV) : nilQ a a
  | row {x : Bool} {es es' : Nat} : nilQ (.fro x es []) (.fro x es' [])
  | agg {n : Nat} {l r : List AV} : nilQs l r → nilQ (.agg n l) (.agg n r)
inductive nilQs : List AV → List AV → Prop
  | nil : nilQs [] []
  | cons {a b : AV} {l r : List AV} : nilQ a b → nilQs l r → nilQs (a :: l) (b :: r)
end
mutual
theorem nilQ.relC {w : World} {F : Nat → Prop} : ∀ {ρ : Nat → Option Loc} {a b : AV} {cs : List Value}, nilQ a b → RelC w F ρ a cs → RelC w F ρ b cs
  | _, _, _, _, .refl a, h => h
  | _, _, _, _, .row, h => by
    cases h with
    | fro0 h => exact .fro0 h
    | fro h1 h2 h3 h4 h5 => exact .fro0 h4
  | _, _, _, _, .agg hl, h => by
    cases h with
    | agg h hn => exact .agg (nilQs.relL hl h) hn
theorem nilQs.relL {w : World} {F : Nat → Prop} : ∀ {ρ : Nat → Option Loc} {l r : List AV} {cs : List Value}, nilQs l r → RelL w F ρ l cs → RelL w F ρ r cs
  | _, _, _, _, .nil, h => h
  | _, _, _, _, .cons h1 h2, .cons h3 h4 => .cons (nilQ.relC h1 h3) (nilQs.relL h2 h4)
end
theorem nilQ.isAgg {a b : AV} (h : nilQ a b) : b.isAgg = a.isAgg := by cases h <;> rfl
theorem nilQ.rel {w : World} {F : Nat → Prop} {ρ : Nat → Option Loc} {a b : AV} {v : Value} (h : nilQ a b) (hr : RelV w F ρ a v) : RelV w F ρ b v := by
  cases h with
  | refl => exact hr
  | row =>
    cases hr with
    | one h1 h2 => exact .one (nilQ.row.relC h1) rfl
    | agg h1 h2 => cases h2
  | agg hl =>
    cases hr with
    | one h1 h2 => cases h2
    | agg h1 h2 => exact .agg ((nilQ.agg hl).relC h1) rfl
theorem nilQs.rels {w : World} {F : Nat → Prop} {ρ : Nat → Option Loc} : ∀ {l r : List AV} {vs : List Value}, nilQs l r → RelVs w F ρ l vs → RelVs w F ρ r vs
  | _, _, _, .nil, .nil => .nil
  | _, _, _, .cons h1 h2, .cons h3 h4 => .cons (h1.rel h3) (nilQs.rels h2 h4)
theorem Pure.nilQ {P : Program} {f : Nat} {l r : List AV} {v : AV} (hp : Pure P f r v) (h : nilQs l r) : Pure P f l v :=
  ⟨hp.1, fun w F vs hF hr => hp.2 w F vs hF (h.rels hr)⟩
theorem nilEqs_refl : ∀ l : List AV, nilEqs l l
  | [] => .nil
  | a :: l => .cons (nil_self a) (nilEqs_refl l)
/-- What a function of a row of plain values, and of more, gives. -/
def rowKSp (es : Nat) (k : KD) (N : Nat) (g : Nat → (Nat → XV) → List XV → Option (List Bool × XV)) : List XV → Option (List Bool × XV)
  | .row _ e n f :: rest => bif okE e es n then
      match g n f rest with
      | some (nd, v) => some (decide (n ≤ N) :: allN (fun i => isK k (f i)) n :: nd, v)
      | none => none
    else none
  | _ => none
theorem rowKSp_ok {P : Program} {fn es N : Nat} {k : KD} {g : Nat → (Nat → XV) → List XV → Option (List Bool × XV)}
    (h : ∀ (x : Bool) (n : Nat) (f : Nat → XV) (rest : List XV) (nd : List Bool) (v : XV), n ≤ N → g n f rest = some (nd, v) → allT nd → Pure P fn (cons (.row x es n (fun i => mkK k (f i)) :: rest)) (con v)) : SpOk P (fn, rowKSp es k N g) := by
  intro args nd v ha hn
  simp only [rowKSp] at ha
  split at ha
  · rename_i x e n f rest
    cases hc : okE e es n <;> rw [hc] at ha
    · cases ha
    · rw [cond_true] at ha
      split at ha
      · rename_i nd' v' hg
        simp only [Option.some.injEq, Prod.mk.injEq] at ha
        obtain ⟨rfl, rfl⟩ := ha
        simp only [allT_cons, decide_eq_true_eq, allN_iff] at hn
        refine (h x n f rest nd' v' hn.1 hg hn.2.2).nilEqs (.cons (nil_row hc fun i hi => ?_) (nilEqs_refl _))
        rw [mkK_eq (hn.2.1 i hi)]
      · cases ha
  · cases ha
end Go.Ra

/- The first place of a row that has something; the last. -/
namespace Go.Ra
set_option linter.unusedVariables false
set_option linter.unusedSimpArgs false
theorem conI {k : IntKind} {a b : Int} (h : a = b) : con (.int k a) = con (.int k b) := by rw [h]
theorem conB {a b : Bool} (h : a = b) : con (.bool a) = con (.bool b) := by rw [h]
theorem conT2 {a b a' b' : XV} (h1 : con a = con a') (h2 : con b = con b') : con (.tup [a, b]) = con (.tup [a', b']) := by simp only [con, cons, h1, h2]
theorem wI64 (n : Int) : IntKind.i64.wrap n = (n + 9223372036854775808) % 18446744073709551616 - 9223372036854775808 := by
  first | (rw [IntKind.wrap_i64]; done) | (rw [IntKind.wrap_i64]; omega)
theorem wI32 (n : Int) : IntKind.i32.wrap n = (n + 2147483648) % 4294967296 - 2147483648 := by
  first | (rw [IntKind.wrap_i32]; done) | (rw [IntKind.wrap_i32]; omega)
theorem wI16 (n : Int) : IntKind.i16.wrap n = (n + 32768) % 65536 - 32768 := by
  simp [IntKind.wrap, IntKind.signed, IntKind.bits]; split <;> omega
theorem wI8 (n : Int) : IntKind.i8.wrap n = (n + 128) % 256 - 128 := by
  simp [IntKind.wrap, IntKind.signed, IntKind.bits]; split <;> omega
theorem wU64 (n : Int) : IntKind.u64.wrap n = n % 18446744073709551616 := rfl
theorem wU32 (n : Int) : IntKind.u32.wrap n = n % 4294967296 := rfl
theorem wU8 (n : Int) : IntKind.u8.wrap n = n % 256 := rfl
theorem beq_ne {i k : Nat} (h : ¬ i = k) : Nat.beq i k = false := by
  rw [← Bool.not_eq_true]
  exact fun e => h (Nat.eq_of_beq_eq_true e)
theorem fdivE {a b : Int} (h : 0 ≤ b) : a.fdiv b = a / b := Int.fdiv_eq_ediv_of_nonneg a h
/-- Bytes. -/
def rngB (n : Nat) (f : Nat → XV) : Bool := allN (fun i => decide (0 ≤ asN (f i)) && decide (asN (f i) ≤ 255)) n
theorem rngB_iff {n : Nat} {f : Nat → XV} : rngB n f = true ↔ ∀ i, i < n → 0 ≤ asN (f i) ∧ asN (f i) ≤ 255 := by
  simp only [rngB, allN_iff, Bool.and_eq_true, decide_eq_true_eq]
theorem or_u32 {x b : Int} {k : Nat} (hx : 0 ≤ x) (hx2 : x < 2 ^ k) (hb : 0 ≤ b) (hb2 : b * 2 ^ k + x ≤ 4294967295) : bitsI .or .u32 x (b * 2 ^ k) = x + b * 2 ^ k := by
  obtain ⟨m, rfl⟩ := Int.eq_ofNat_of_zero_le hx
  obtain ⟨c, rfl⟩ := Int.eq_ofNat_of_zero_le hb
  have hp : ((2 : Int) ^ k) = ((2 ^ k : Nat) : Int) := (Int.natCast_pow 2 k).symm
  rw [hp] at hx2 hb2 ⊢
  have hm : m < 2 ^ k := by exact_mod_cast hx2
  have h2 : (c : Int) * ((2 ^ k : Nat) : Int) = ((c * 2 ^ k : Nat) : Int) := (Int.natCast_mul c (2 ^ k)).symm
  rw [h2] at hb2 ⊢
  have h1 : c * 2 ^ k + m ≤ 4294967295 := by
    generalize c * 2 ^ k = d at *
    omega
  clear hb2
  have h3 := Nat.two_pow_add_eq_or_of_lt hm c
  have h4 : m ||| c * 2 ^ k = m + c * 2 ^ k := by rw [Nat.or_comm, Nat.mul_comm, ← h3, Nat.add_comm]
  generalize c * 2 ^ k = d at *
  show IntKind.u32.wrap (((BitVec.ofInt 32 (m : Int)) ||| (BitVec.ofInt 32 (d : Int))).toNat : Int) = _
  have e1 : (BitVec.ofInt 32 (m : Int)).toNat = m := by rw [BitVec.toNat_ofInt]; omega
  have e2 : (BitVec.ofInt 32 (d : Int)).toNat = d := by rw [BitVec.toNat_ofInt]; omega
  rw [BitVec.toNat_or, e1, e2, h4, wU32]
  omega
end Go.Ra

/- What comes in, read by its type. -/
namespace Go.Ra
set_option linter.unusedVariables false
set_option linter.unusedSimpArgs false
def avI : AV → Int
  | .sc (.int _ n) => n
  | _ => 0


theorem has_u32 {a : AV} (h : (Ty.int .u32).has a) : 0 ≤ avI a ∧ avI a ≤ 4294967295 := by
  simp only [Ty.has] at h
  obtain ⟨n, rfl, h1⟩ := h
  simpa [Lit.wf, IntKind.min, IntKind.max, IntKind.signed, IntKind.bits, avI] using h1
theorem has_i64 {a : AV} (h : (Ty.int .i64).has a) : -9223372036854775808 ≤ avI a ∧ avI a ≤ 9223372036854775807 := by
  simp only [Ty.has] at h
  obtain ⟨n, rfl, h1⟩ := h
  simpa [Lit.wf, IntKind.min, IntKind.max, IntKind.signed, IntKind.bits, avI] using h1
theorem has_u8 {a : AV} (h : (Ty.int .u8).has a) : 0 ≤ avI a ∧ avI a ≤ 255 := by
  simp only [Ty.has] at h
  obtain ⟨n, rfl, h1⟩ := h
  simpa [Lit.wf, IntKind.min, IntKind.max, IntKind.signed, IntKind.bits, avI] using h1
end Go.Ra

/- Less said, functions that work on own memory, and loops of any end. -/
namespace Go.Ra
set_option linter.unusedVariables false
set_option linter.unusedSimpArgs false

mutual
/-- Of the second value the same is said, or less. -/
inductive leQ : AV → AV → Prop
  | refl (a : AV) : leQ a a
  | row {x : Bool} {es es' : Nat} {ts us : List AV} : (es' = es ∨ ts = []) → leQs ts us → leQ (.fro x es ts) (.fro false es' us)
  | agg {n : Nat} {l r : List AV} : leQs l r → leQ (.agg n l) (.agg n r)
  | arr {n es : Nat} {l r : List AV} : leQs l r → leQ (.arr n es l) (.arr n es r)
  | fptr {a b : AV} : leQ a b → leQ (.fptr a) (.fptr b)
  | tup {l r : List AV} : leQs l r → leQ (.tup l) (.tup r)
  | clo {f : Nat} {l r : List AV} : leQs l r → leQ (.clo f l) (.clo f r)
inductive leQs : List AV → List AV → Prop
  | nil : leQs [] []
  | cons {a b : AV} {l r : List AV} : leQ a b → leQs l r → leQs (a :: l) (b :: r)
end
theorem leQs_refl : ∀ l : List AV, leQs l l
  | [] => .nil
  | a :: l => .cons (.refl a) (leQs_refl l)
theorem leQs.len : ∀ {l r : List AV}, leQs l r → r.length = l.length
  | _, _, .nil => rfl
  | _, _, .cons _ h => by simp [leQs.len h]
theorem leQ.isAgg {a b : AV} (h : leQ a b) : b.isAgg = a.isAgg := by cases h <;> rfl
theorem leQs_nil {r : List AV} (h : leQs [] r) : r = [] := by cases h; rfl
theorem leQs_nil' {l : List AV} (h : leQs l []) : l = [] := by cases h; rfl

mutual
theorem leQ.relC {w : World} {F : Nat → Prop} : ∀ {ρ : Nat → Option Loc} {a b : AV} {cs : List Value}, leQ a b → RelC w F ρ a cs → RelC w F ρ b cs
  | _, _, _, _, .refl a, h => h
  | _, _, _, _, .row he hl, h => by
    cases h with
    | fro0 h => rw [leQs_nil hl]; exact .fro0 fun h => by cases h
    | fro h1 h2 h3 h4 h5 =>
      rename_i x es es' ts us cs b o cap
      have hn := leQs.len hl
      by_cases hus : us = []
      · subst hus
        have := leQs_nil' hl
        subst this
        exact .fro0 fun h => by cases h
      · have hts : ts ≠ [] := fun e => hus (by rw [e] at hl; exact leQs_nil hl)
        have he' : es' = es := he.resolve_right hts
        subst he'
        rw [← hn]
        exact .fro (leQs.relE hl h1) h2 h3 (fun h => by cases h) (by rw [hn]; exact h5)
  | _, _, _, _, .agg hl, h => by
    cases h with
    | agg h hn => exact .agg (leQs.relL hl h) hn
  | _, _, _, _, .arr hl, h => by
    cases h with
    | arr h hn => exact .arr (leQs.relE hl h) (by rw [leQs.len hl]; exact hn)
  | _, _, _, _, .fptr hl, h => by
    cases h with
    | fptr h1 h2 h3 => exact .fptr (leQ.relC hl h1) h2 h3
  | _, _, _, _, .tup hl, h => by cases h
  | _, _, _, _, .clo hl, h => by
    cases h with
    | clo h => exact .clo (leQs.relO hl h)
theorem leQs.relL {w : World} {F : Nat → Prop} : ∀ {ρ : Nat → Option Loc} {l r : List AV} {cs : List Value}, leQs l r → RelL w F ρ l cs → RelL w F ρ r cs
  | _, _, _, _, .nil, h => h
  | _, _, _, _, .cons h1 h2, .cons h3 h4 => .cons (leQ.relC h1 h3) (leQs.relL h2 h4)
theorem leQs.relE {w : World} {F : Nat → Prop} : ∀ {es : Nat} {l r : List AV} {cs : List Value}, leQs l r → RelE w F es l cs → RelE w F es r cs
  | _, _, _, _, .nil, .nil => .nil
  | _, _, _, _, .cons h1 h2, .cons h3 h4 h5 => .cons (leQ.relC h1 h3) h4 (leQs.relE h2 h5)
theorem leQs.relO {w : World} {F : Nat → Prop} : ∀ {ρ : Nat → Option Loc} {l r : List AV} {cs : List Value}, leQs l r → RelO w F ρ l cs → RelO w F ρ r cs
  | _, _, _, _, .nil, h => h
  | _, _, _, _, .cons h1 h2, .cons h3 h4 h5 => .cons (leQ.relC h1 h3) ((leQ.isAgg h1).trans h4) (leQs.relO h2 h5)
end
mutual
theorem leQ.rel {w : World} {F : Nat → Prop} {ρ : Nat → Option Loc} : ∀ {a b : AV} {v : Value}, leQ a b → RelV w F ρ a v → RelV w F ρ b v
  | _, _, _, h, .one h1 h2 => .one (h.relC h1) (h.isAgg.trans h2)
  | _, _, _, h, .agg h1 h2 => .agg (h.relC h1) (h.isAgg.trans h2)
  | _, _, _, .refl _, h => h
  | _, _, _, .tup hl, .tup h => .tup (leQs.rels hl h)
theorem leQs.rels {w : World} {F : Nat → Prop} {ρ : Nat → Option Loc} : ∀ {l r : List AV} {vs : List Value}, leQs l r → RelVs w F ρ l vs → RelVs w F ρ r vs
  | _, _, _, .nil, h => h
  | _, _, _, .cons h1 h2, .cons h3 h4 => .cons (leQ.rel h1 h3) (leQs.rels h2 h4)
end
theorem Pure.args {P : Program} {f : Nat} {l r : List AV} {v : AV} (hp : Pure P f r v) (h : leQs l r) : Pure P f l v :=
  ⟨hp.1, fun w F vs hF hr => hp.2 w F vs hF (h.rels hr)⟩
theorem Pure.out {P : Program} {f : Nat} {l : List AV} {v r : AV} (hp : Pure P f l v) (h : leQ v r) : Pure P f l r :=
  ⟨hp.1, fun w F vs hF hr => (hp.2 w F vs hF hr).mono fun e w' ⟨u, F', h1, h2, h3, h4, h5⟩ => ⟨u, F', h1, h2, h3, h4, h.rel h5⟩⟩

theorem lq_int {k : IntKind} {a b : Int} (h : a = b) : leQ (con (.int k a)) (con (.int k b)) := by rw [h]; exact .refl _
theorem lq_agg {n : Nat} {l r : List XV} (h : leQs (cons l) (cons r)) : leQ (con (.agg n l)) (con (.agg n r)) := .agg h
theorem lq_tup {l r : List XV} (h : leQs (cons l) (cons r)) : leQ (con (.tup l)) (con (.tup r)) := .tup h
theorem lqs_nil : leQs (cons []) (cons []) := .nil
theorem lqs_cons {a b : XV} {l r : List XV} (h : leQ (con a) (con b)) (h2 : leQs (cons l) (cons r)) : leQs (cons (a :: l)) (cons (b :: r)) := .cons h h2
theorem leQs_tab {n : Nat} {f g : Nat → AV} (h : ∀ i, i < n → leQ (f i) (g i)) : leQs (tabL n f) (tabL n g) := by
  have key : ∀ l : List Nat, (∀ i ∈ l, i < n) → leQs (l.map f) (l.map g) := by
    intro l
    induction l with
    | nil => intro _; exact .nil
    | cons i l ih => exact fun hl => .cons (h i (hl i (by simp))) (ih fun j hj => hl j (by simp [hj]))
  exact key _ fun i hi => List.mem_range.1 hi
theorem lq_row {x : Bool} {e es n m : Nat} {f g : Nat → XV} (hn : n = m) (he : es = e ∨ n = 0) (h : ∀ i, i < n → leQ (con (f i)) (con (g i))) : leQ (con (.row x e n f)) (con (.row false es m g)) := by
  subst hn
  exact .row (he.imp id fun h => tabL_nil.2 h) (leQs_tab h)
/-- What a call is told of its arguments. -/
structure ArgsLe (a b : List XV) : Prop where
  out : leQs (cons a) (cons b)
structure ResLe (a b : XV) : Prop where
  out : leQ (con a) (con b)
structure PreIs (p : Prop) : Prop where
  out : p
/-- What memory there is, and maybe more. -/
structure MemIs (σ τ : XSt) : Prop where
  mem : ∀ i, τ.st.H i = none ∨ τ.st.H i = σ.st.H i
  num : σ.n ≤ τ.n
theorem ArgsLe.rfl {a : List XV} : ArgsLe a a := ⟨leQs_refl _⟩
theorem ResLe.rfl {a : XV} : ResLe a a := ⟨.refl _⟩
theorem memIs {σ τ : XSt} (h : agreeXH τ.hl σ.hl) (hn : σ.n ≤ τ.n) : MemIs σ τ := ⟨agreesH_look (agreeXH_ok h), hn⟩

/-- A function that leaves memory alone: for each of these, so much being so, it gives this. -/
def skOf {α β : Type} (en : α → List XV) (pre : α → Prop) (F : α → β) (er : β → XV) : List XV → Option ((XV → Prop) → Prop) := fun args => some fun K => ∃ s : α, ArgsLe args (en s) ∧ PreIs (pre s) ∧ ∀ y : β, y = F s → K (er y)
theorem skOf_ok {P : Program} {f : Nat} {α β : Type} {en : α → List XV} {pre : α → Prop} {F : α → β} {er : β → XV} (h : ∀ s, pre s → Pure P f (cons (en s)) (con (er (F s)))) : SkOk P (f, skOf en pre F er) := by
  intro args W hW K hK
  simp only [skOf, Option.some.injEq] at hW
  subst hW
  obtain ⟨s, h1, h2, h3⟩ := hK
  exact ⟨er (F s), (h s h2.out).args h1.out, h3 _ rfl⟩

theorem Own.less {fr : Fr} {G : Gh} {w : World} {σ τ : St} (h : Own fr G w σ) (h1 : ∀ i, τ.H i = none ∨ τ.H i = σ.H i) (h2 : σ.n ≤ τ.n) : Own fr G w τ := by
  have hk : Weak ⟨[], σ.hl, σ.hb, σ.n⟩ ⟨[], τ.hl, τ.hb, τ.n⟩ := ⟨fun _ => .inl rfl, h1, h2⟩
  exact ⟨Wf.weak (σ := ⟨[], σ.hl, σ.hb, σ.n⟩) (τ := ⟨[], τ.hl, τ.hb, τ.n⟩) h.1 hk, FrOk.weak (σ := ⟨[], σ.hl, σ.hb, σ.n⟩) (τ := ⟨[], τ.hl, τ.hb, τ.n⟩) h.2 hk⟩
theorem Gen.less {P : Program} {f : Nat} {args args' : List AV} {σ τ υ : St} {v : AV} (h : Gen P f args' τ v υ) (ha : leQs args args') (h1 : ∀ i, τ.H i = none ∨ τ.H i = σ.H i) (h2 : σ.n ≤ τ.n) : Gen P f args σ v υ :=
  ⟨h.1, fun fr G w vs hown hr => h.2 fr G w vs (hown.less h1 h2) (ha.rels hr)⟩
/-- What an end of a function tells is at least this. -/
def GoW (m : Nat) (v' : AV) (τ' : St) (v : AV) (τ : St) : Prop := ∀ fr G0 w0 G w u, (∀ i l, G0.ρ i = some l → i < m) → Goto fr G0 w0 G w τ' → RelV w G.F G.ρ v' u → ∃ G2, Goto fr G0 w0 G2 w τ ∧ RelV w G2.F G2.ρ v u
theorem goW_of {m : Nat} {v v' : AV} {τ τ' : St} (h : WeakE m ⟨[(0, v')], τ'.hl, τ'.hb, τ'.n⟩ ⟨[(0, v)], τ.hl, τ.hb, τ.n⟩) : GoW m v' τ' v τ := by
  intro fr G0 w0 G w u hm hg hr
  have hs : Sim fr G0 w0 1 ⟨[(0, v')], τ'.hl, τ'.hb, τ'.n⟩ { tmps := #[u], defers := [] } w := by
    refine ⟨G, hg, fun t => ?_, rfl, rfl⟩
    cases t with
    | zero => exact hr
    | succ t => exact .unk
  obtain ⟨G2, g1, g2, _, _⟩ := h fr G0 w0 1 _ w hm hs
  exact ⟨G2, g1, g2 0⟩
theorem gen_of {P : Program} {q : Nat → Bool} {C : Orc} (hmix : P.follows .mixedOrders = true) (hC : OrcOk P C) (hq : Quiet q C) {f nt : Nat} {rs : List AR} {ac : AC} (hF : trF P q f = some (nt, rs, ac)) {args : List AV} {σ τ : St} {v : AV} (hlen : args.length ≤ nt)
    (h : wpC C ac ⟨envOf 0 args, σ.hl, σ.hb, σ.n⟩ (retP rs fun v' τ' => GoW σ.n v' τ' v τ)) : Gen P f args σ v τ := by
  refine ⟨trF_known hF, fun fr G w vs hown hr => ?_⟩
  refine (enter hmix hC hq hF hlen (hl := σ.hl) (hb := σ.hb) (n := σ.n) hown hr h).mono fun e w' ⟨u, G', v', τ', he, hgo, hrel, hk⟩ => ?_
  obtain ⟨G2, h1, h2⟩ := hk fr G w G' w' u (fun i l hi => Nat.lt_of_not_le fun hge => by
    have := (hown.1.free i hge).2
    rw [this] at hi; cases hi) hgo hrel
  exact ⟨u, G2, he, h1, h2⟩

section
variable {P : Program} {T : Tab}
/-- Code of a function up to its loops, for any end. -/
abbrev goX (P : Program) (T : Tab) (kp : List Nat) (fin : AE → XSt → Prop) (Φ : AE → St → Prop) (j : Job) (s : List Frm) (σ : XSt) : Prop := exS T (Ok P T.q) (callI T 80 20) kp fin Φ 2000 j s σ
theorem loopX (hmix : P.follows .mixedOrders = true) (hT : TabOk P T) {kp : List Nat} {fin : AE → XSt → Prop} {Φ : AE → St → Prop} (hfin : ∀ e σ, fin e σ → Φ e σ.st) {c : AC} {σ : XSt} {s : List Frm} {ι : Type} (S : ι → XSt) (V : ι → Prop) (m : ι → Nat) (i0 : ι) (hV : V i0) (h0 : WeakE σ.n σ.st (S i0).st)
    (hr : ∀ i, V i → goX P T kp fin Φ (.run c) (.lp c (fun τ => ∃ j, V j ∧ WeakE σ.n τ.st (S j).st ∧ m j < m i) :: s) (S i)) : LoopAt (Ok P T.q) c σ s Φ :=
  ⟨wpC_forE (fun i => (S i).st) V m i0 hV h0 fun i hi => by
    have h := exS_ok hT (callI_ok hmix hT 20) hfin 2000 _ _ _ (hr i hi)
    refine wpC_mono _ _ (fun e t he => ?_) c _ h
    cases e with
    | normal =>
      obtain ⟨τ, hw, j, h1, h2, h3⟩ := he
      exact ⟨j, h1, weakE_trans hw h2, h3⟩
    | exit _ => exact he
    | ret => exact he⟩

/-- The end of a function that leaves memory alone: what it gives says at least this. -/
def finQ (rs : List AR) (r : XV) : AE → XSt → Prop := retX rs (frzK fun v => ResLe v r)
def finQR (rs : List AR) (r : XV) : AE → St → Prop := retP rs fun v τ => ∃ r', frz τ 6 v = some r' ∧ leQ r' (con r)
theorem finQ_ok {rs : List AR} {r : XV} (e : AE) (σ : XSt) (h : finQ rs r e σ) : finQR rs r e σ.st := by
  obtain ⟨v, h3, h4⟩ := retX_ok h
  refine h4 (fun v τ => ∃ r', frz τ 6 v = some r' ∧ leQ r' (con r)) ?_
  unfold frzK at h3
  split at h3
  · rename_i nd r' hz
    rw [need_iff] at h3
    exact ⟨con r', frzX_con (st_H σ) 6 v nd r' hz h3.1, h3.2.out⟩
  · cases h3
theorem pure_ofQ {q : Nat → Bool} {C : Orc} (hmix : P.follows .mixedOrders = true) (hC : OrcOk P C) (hq : Quiet q C) {f nt : Nat} {rs : List AR} {ac : AC} (hF : trF P q f = some (nt, rs, ac)) {args : List AV} {r : AV} {k : Nat} (hlen : args.length ≤ nt)
    (h : wpC C ac ⟨envOf 0 args, [], fun _ => none, 0⟩ (retP rs fun v τ => ∃ r', frz τ k v = some r' ∧ leQ r' r)) : Pure P f args r := by
  refine ⟨trF_known hF, fun w F vs hFs hr => ?_⟩
  have hown : Own ⟨w, fun _ => False, F, 0⟩ ⟨noIds, F⟩ w ⟨envOf 0 args, [], fun _ => none, 0⟩ :=
    ⟨⟨fun i _ => ⟨rfl, rfl⟩, hFs, fun i t hi => (by cases hi), fun i j b o o' hi => absurd rfl hi⟩, ⟨rfl, rfl, rfl, Nat.le_refl _, fun _ _ _ => rfl, Ext.refl _ _, fun _ h => h, fun _ h => .inl h, fun i b o hi => absurd rfl hi⟩⟩
  refine (enter hmix hC hq hF hlen hown hr h).mono fun e w' ⟨u, G', v, τ, he, hgo, hrel, r', hk, hle⟩ => ?_
  refine ⟨u, FF G' τ, he, ⟨hgo.fr.os, hgo.fr.tape, hgo.fr.output, hgo.fr.size, fun b hb => hgo.fr.same b hb (fun h => h)⟩, fun b hb => .inl (hgo.leF b hb), fun b hb => ⟨?_, FF_lt hgo.own hb⟩, hle.rel (frzV hgo.own k v r' u hrel hk)⟩
  rcases hb with hb | ⟨i, o, h1, h2⟩
  · rcases hgo.fr.fnew b hb with h | h | h
    · exact .inl h
    · cases h
    · exact .inr h
  · rcases hgo.fr.loc i b o h1 h2 with h | h
    · cases h
    · exact .inr h
abbrev goQ (P : Program) (T : Tab) (rs : List AR) (r : XV) (j : Job) (s : List Frm) (σ : XSt) : Prop := goX P T (keepR rs) (finQ rs r) (finQR rs r) j s σ
/-- A function that leaves memory alone, gone through up to its loops. -/
theorem pureQ (hmix : P.follows .mixedOrders = true) (hT : TabOk P T) {f nt : Nat} {rs : List AR} {c : AC} (hF : trF P T.q f = some (nt, rs, c)) {args : List XV} {r : XV} (hl : args.length ≤ nt) (h : goQ P T rs r (.run c) [] ⟨envX 0 args, [], 0⟩) : Pure P f (cons args) (con r) := by
  have := exS_ok hT (callI_ok hmix hT 20) finQ_ok 2000 _ _ _ h
  refine pure_ofQ (k := 6) hmix Ok.ok Ok.quiet hF (by rw [cons_len]; exact hl) ?_
  simpa [jobWp, unwind, XSt.st, envX_con, conH, finQR] using this
/-- The same, all of it gone through. -/
theorem pureR (hmix : P.follows .mixedOrders = true) (hT : TabOk P T) {u k f : Nat} {args : List XV} {r : XV} (h : quietGo T u (callI T u k) f args fun v => ResLe v r) : Pure P f (cons args) (con r) := by
  obtain ⟨v, h1, h2⟩ := quietGo_ok hmix hT (callI_ok hmix hT k) h
  exact h1.out h2.out
theorem loopQ (hmix : P.follows .mixedOrders = true) (hT : TabOk P T) {rs : List AR} {r : XV} {c : AC} {σ : XSt} {s : List Frm} {ι : Type} (S : ι → XSt) (V : ι → Prop) (m : ι → Nat) (i0 : ι) (hV : V i0) (h0 : WeakE σ.n σ.st (S i0).st)
    (hr : ∀ i, V i → goQ P T rs r (.run c) (.lp c (fun τ => ∃ j, V j ∧ WeakE σ.n τ.st (S j).st ∧ m j < m i) :: s) (S i)) : LoopAt (Ok P T.q) c σ s (finQR rs r) := loopX hmix hT finQ_ok S V m i0 hV h0 hr

/-- What an end tells, under other names maybe. -/
structure EndAt (m : Nat) (v' : XV) (σ : XSt) (v : XV) (τ : XSt) : Prop where
  out : WeakE m (XSt.st ⟨[(0, v')], σ.hl, σ.n⟩) (XSt.st ⟨[(0, v)], τ.hl, τ.n⟩)
/-- The end of a function that gives a row of its own making. -/
structure MakesAt (v : XV) (σ : XSt) (r t : XV) : Prop where
  out : (∃ id, σ.st.H id = some (con t) ∧ renT id 0 (con v) = some (con r)) ∨ ∃ es' es, con v = .fro true es' [] ∧ con t = .arr 0 es [] ∧ con r = .sl 0 [] 0 0 0 es
end
theorem Makes.args {P : Program} {f : Nat} {l r : List AV} {v t : AV} (hp : Makes P f r v t) (h : leQs l r) : Makes P f l v t :=
  ⟨hp.1, hp.2.1, hp.2.2.1, fun w F vs hF hr => hp.2.2.2 w F vs hF (h.rels hr)⟩
/-- A function that gives a row of its own making. -/
def mkOf {α β : Type} (en : α → List XV) (pre : α → Prop) (F : α → β) (er : Nat → β → XV) (et : β → XV) : List XV → XSt → Option ((XV → XSt → Prop) → Prop) := fun args σ =>
  match mapX (frzX σ.hl 6) args with
  | some (nd, args') => some fun K => need nd (∃ s : α, ArgsLe args' (en s) ∧ PreIs (pre s) ∧ ∀ y : β, y = F s → K (er σ.n y) (σ.new (et y)))
  | none => none
theorem mkOf_ok {P : Program} {q : Nat → Bool} {f : Nat} {α β : Type} {en : α → List XV} {pre : α → Prop} {F : α → β} {er : Nat → β → XV} {et : β → XV} (hr : ∀ n y, renT 0 n (con (er 0 y)) = some (con (er n y)))
    (h : ∀ s, pre s → Makes P f (cons (en s)) (con (er 0 (F s))) (con (et (F s)))) : GkOk P q (f, mkOf en pre F er et) := by
  intro args σ W hW hqf K hK
  simp only [mkOf] at hW
  split at hW
  · rename_i nd args' hm
    simp only [Option.some.injEq] at hW
    subst hW
    rw [need_iff] at hK
    obtain ⟨hn, s, h1, h2, h3⟩ := hK
    exact ⟨er σ.n (F s), σ.new (et (F s)), .inr (.inr (.inr ⟨hqf, 6, cons args', _, _, mapX_con (frzX_con (st_H σ) 6) hm hn, (h s h2.out).args h1.out, hr _ _, rfl⟩)), h3 _ rfl⟩
  · cases hW
end Go.Ra

/- Plain values of the program's types, and the abstract values that stand for them. -/
namespace Go.Ra
set_option linter.unusedVariables false
set_option linter.unusedSimpArgs false

/-- The element at a place. -/
def ix {α : Type} [Inhabited α] (l : List α) (i : Nat) : α := l.getD i default
section
variable {α : Type} [Inhabited α]
theorem ix_lt {l : List α} {i : Nat} (h : i < l.length) : ix l i = l[i] := by simp [ix, h]
theorem ix_mem {l : List α} {i : Nat} (h : i < l.length) : ix l i ∈ l := by rw [ix_lt h]; exact List.getElem_mem h
theorem ix_append {l r : List α} {i : Nat} : ix (l ++ r) i = if i < l.length then ix l i else ix r (i - l.length) := by
  unfold ix
  split
  · rename_i h; rw [List.getD_eq_getElem?_getD, List.getElem?_append_left h, List.getD_eq_getElem?_getD]
  · rename_i h; rw [List.getD_eq_getElem?_getD, List.getElem?_append_right (by omega), List.getD_eq_getElem?_getD]
theorem ix_ext {l r : List α} (hl : l.length = r.length) (h : ∀ i, i < l.length → ix l i = ix r i) : l = r := by
  refine List.ext_getElem hl fun i h1 h2 => ?_
  have := h i h1
  rw [ix_lt h1, ix_lt h2] at this
  exact this
theorem ix_tabL {n i : Nat} {f : Nat → α} (h : i < n) : ix (tabL n f) i = f i := by
  unfold ix
  rw [List.getD_eq_getElem?_getD, tabL_get h]; rfl
theorem tabL_ix (l : List α) : tabL l.length (ix l) = l := ix_ext tabL_len fun i h => by rw [tabL_len] at h; exact ix_tabL h
end

/-- The first place that has something; -1 if there is none. -/
def idxF {α : Type} (p : α → Bool) (l : List α) : Int := if l.any p then (l.findIdx p : Int) else -1
theorem idxF_some {α : Type} [Inhabited α] {p : α → Bool} {l : List α} {i : Nat} (hi : i < l.length) (hp : p (ix l i) = true) (hn : ∀ j, j < i → p (ix l j) = false) : idxF p l = i := by
  unfold idxF
  have h1 : l.any p = true := List.any_eq_true.2 ⟨_, ix_mem hi, hp⟩
  rw [if_pos h1]
  have h2 : l.findIdx p = i := by
    rw [List.findIdx_eq hi]
    refine ⟨by rw [← ix_lt hi]; exact hp, fun j hj => ?_⟩
    rw [← ix_lt (by omega)]
    exact hn j hj
  rw [h2]
theorem idxF_none {α : Type} [Inhabited α] {p : α → Bool} {l : List α} (hn : ∀ j, j < l.length → p (ix l j) = false) : idxF p l = -1 := by
  unfold idxF
  rw [if_neg]
  rw [List.any_eq_true]
  rintro ⟨x, hx, hp⟩
  obtain ⟨j, hj, rfl⟩ := List.mem_iff_getElem.1 hx
  have := hn j hj
  rw [ix_lt hj, hp] at this
  cases this
theorem idxF_ge {α : Type} {p : α → Bool} {l : List α} : decide (idxF p l ≥ 0) = l.any p := by
  unfold idxF
  split
  · rename_i h; rw [h]; exact decide_eq_true (by omega)
  · rename_i h
    simp only [Bool.not_eq_true] at h
    rw [h]; exact decide_eq_false (by omega)

theorem app_len {α : Type} (l : List α) (x : α) : (l ++ [x]).length = l.length + 1 := by simp
theorem ix_app_lt {α : Type} [Inhabited α] {l : List α} {x : α} {i : Nat} (h : i < l.length) : ix (l ++ [x]) i = ix l i := by rw [ix_append, if_pos h]
theorem ix_app_eq {α : Type} [Inhabited α] {l : List α} {x : α} : ix (l ++ [x]) l.length = x := by rw [ix_append, if_neg (Nat.lt_irrefl _), Nat.sub_self]; rfl
theorem con_tabC {n es : Nat} {f g : Nat → XV} (h : ∀ i, i < n → con (f i) = con (g i)) : con (.tab n es f) = con (.tab n es g) := by
  simp only [con]
  rw [tabL_congr h]
theorem g1 (b : Bool) : (bif b then true else !b) = true := by cases b <;> rfl
theorem g2 (b : Bool) : (bif b then b else true) = true := by cases b <;> rfl
theorem g3 (p z : Bool) : (bif (bif p then (bif !z then p else false) else true) then true else !!z) = true := by cases p <;> cases z <;> rfl
theorem g4 (z : Bool) : (bif (bif !z then true else false) then true else !!z) = true := by cases z <;> rfl
theorem g5 (z : Bool) : (bif z then true else !!!z) = true := by cases z <;> rfl
theorem g6 (z : Bool) : (bif !!z then true else !z) = true := by cases z <;> rfl
theorem g7 (p z : Bool) : (bif (bif p then (bif z then p else false) else true) then true else !z) = true := by cases p <;> cases z <;> rfl
theorem band (a b : Bool) : (bif a then b else false) = (a && b) := by cases a <;> rfl
theorem bor (a b : Bool) : (bif a then true else b) = (a || b) := by cases a <;> rfl
def e_u8 (n : Int) : XV := .int .u8 n
/-- A row. -/
def e_row {α : Type} [Inhabited α] (es : Nat) (en : α → XV) (l : List α) : XV := .row false es l.length (fun i => en (ix l i))

structure Slot where
  tag : Int
  full : Bool
  val : Int
  deriving Inhabited, DecidableEq
structure Entry where
  addr : Int
  size : Int
  step : Int
  known : Bool
  val : Int
  deriving Inhabited, DecidableEq
structure Req where
  store : Bool
  op : Int
  addr : Int
  size : Int
  val : Int
  left : Int
  reg : Int
  tag : Int
  deriving Inhabited, DecidableEq
structure Wr where
  addr : Int
  size : Int
  val : Int
  deriving Inhabited, DecidableEq
structure Pos where
  block : Int
  index : Int
  base : Int
  deriving Inhabited, DecidableEq
structure Trp where
  kind : Int
  step : Int
  pc : Int
  deriving Inhabited, DecidableEq
structure Side where
  regs : Nat → Int
  ready : Nat → Int
  pos : Pos
  wait : Int
  halted : Bool
  done : Int
  deriving Inhabited
structure Stt where
  cycle : Int
  a : Side
  e : Side
  ldq : List Slot
  sdq : List Int
  aeq : List Int
  abq : List Bool
  ebq : List Bool
  saq : List Entry
  table : List Req
  mem : List Int
  writes : List Wr
  trap : Trp
  lats : Int
  picks : Int
  tags : Int
  deriving Inhabited
structure Cfg where
  ldq : Int
  sdq : Int
  aeq : Int
  abq : Int
  ebq : Int
  saq : Int
  banks : Int
  flight : Int
  slip : Int
  lat : Int
  mul : Int
  div : Int
  deriving Inhabited, DecidableEq
structure Script where
  lats : List Int
  picks : List Int
  deriving Inhabited, DecidableEq
structure Ins where
  op : Int
  d : Int
  a : Int
  b : Int
  imm : Int
  deriving Inhabited, DecidableEq
structure Cell where
  kind : Int
  ins : Ins
  reg : Int
  pc : Int
  off : Int
  deriving Inhabited, DecidableEq
structure Block where
  src : Int
  dst : Int
  next : Int
  taken : Int
  a : List Cell
  e : List Cell
  deriving Inhabited, DecidableEq
structure Split where
  blocks : List Block
  owner : Nat → Int
  deriving Inhabited
structure Prog where
  code : List Ins
  size : Int
  data : List Int
  deriving Inhabited, DecidableEq
structure Rslt where
  fin : Int
  trap : Trp
  steps : Int
  regs : Nat → Int
  mem : List Int
  writes : List Wr
  deriving Inhabited

def e_Wr (w : Wr) : XV := .agg 3 [.int .i64 w.addr, .int .i64 w.size, .int .u32 w.val]
def e_Trp (t : Trp) : XV := .agg 3 [.int .i64 t.kind, .int .i64 t.step, .int .i64 t.pc]
def e_Ins (i : Ins) : XV := .agg 5 [.int .i64 i.op, .int .i64 i.d, .int .i64 i.a, .int .i64 i.b, .int .i64 i.imm]
def e_Prog (p : Prog) : XV := .agg 3 [e_row 5 e_Ins p.code, .int .i64 p.size, e_row 1 e_u8 p.data]
def e_Rslt (r : Rslt) : XV := .agg 23 [.int .i64 r.fin, e_Trp r.trap, .int .i64 r.steps, .tab 16 1 (fun i => .int .u32 (r.regs i)), e_row 1 e_u8 r.mem, e_row 3 e_Wr r.writes]

/-- What a row stands for. -/
theorem con_erow {α : Type} [Inhabited α] {es : Nat} {en : α → XV} {l : List α} : con (e_row es en l) = .fro false es (l.map fun x => con (en x)) := by
  show AV.fro false es (tabL l.length fun i => con (en (ix l i))) = _
  congr 1
  have : (tabL l.length fun i => con (en (ix l i))) = (tabL l.length (ix l)).map fun x => con (en x) := by simp [tabL]
  rw [this, tabL_ix]
/-- A row of such elements stands for a list. -/
theorem lq_erow {α : Type} [Inhabited α] {x : Bool} {e es n : Nat} {f : Nat → XV} {en : α → XV} {l : List α} (hn : n = l.length) (he : es = e ∨ n = 0) (h : ∀ i, i < n → leQ (con (f i)) (con (en (ix l i)))) : leQ (con (.row x e n f)) (con (e_row es en l)) := lq_row hn he h
theorem lq_lit0 {α : Type} [Inhabited α] {x : Bool} {e es : Nat} {f : Nat → XV} {en : α → XV} : leQ (con (.row x e 0 f)) (con (e_row es en [])) := lq_erow rfl (.inr rfl) fun j hj => absurd hj (Nat.not_lt_zero _)
def i64R (n : Int) : Prop := -9223372036854775808 ≤ n ∧ n ≤ 9223372036854775807
def u32R (n : Int) : Prop := 0 ≤ n ∧ n ≤ 4294967295
def u8R (n : Int) : Prop := 0 ≤ n ∧ n ≤ 255
theorem has_row {α : Type} [Inhabited α] {es bytes : Nat} {T : Ty} {a : AV} {en : α → XV} {wf : α → Prop} (ho : ∀ b, T.has b → ∃ x, b = con (en x) ∧ wf x) (h : (Ty.slice es bytes T).has a) : ∃ l : List α, a = con (e_row es en l) ∧ (∀ x ∈ l, wf x) ∧ l.length * bytes ≤ 140737488351232 := by
  simp only [Ty.has] at h
  obtain ⟨ts, rfl, h1, h2⟩ := h
  have key : ∀ us : List AV, (∀ t ∈ us, T.has t) → ∃ l : List α, us = l.map (fun x => con (en x)) ∧ ∀ x ∈ l, wf x := by
    intro us
    induction us with
    | nil => exact fun _ => ⟨[], rfl, fun x hx => by cases hx⟩
    | cons u us ih =>
      intro hu
      obtain ⟨x, h3, h4⟩ := ho u (hu u (by simp))
      obtain ⟨l, h5, h6⟩ := ih fun t ht => hu t (by simp [ht])
      refine ⟨x :: l, by rw [h3, h5]; rfl, fun y hy => ?_⟩
      rcases List.mem_cons.1 hy with rfl | hy
      · exact h4
      · exact h6 y hy
  obtain ⟨l, h3, h4⟩ := key ts h2
  refine ⟨l, by rw [con_erow, h3], h4, ?_⟩
  rw [h3] at h1
  simpa using h1
theorem has_tabI {n : Nat} {k : IntKind} {a : AV} {R : Int → Prop} (ho : ∀ b, (Ty.int k).has b → ∃ x, b = con (.int k x) ∧ R x) (h : (Ty.arr n 1 (.int k)).has a) : ∃ f : Nat → Int, a = con (.tab n 1 (fun i => .int k (f i))) ∧ ∀ i, i < n → R (f i) := by
  simp only [Ty.has] at h
  obtain ⟨ts, rfl, h1, h2⟩ := h
  refine ⟨fun i => avI (ts.getD i .unk), ?_, fun i hi => ?_⟩
  · show AV.arr n 1 ts = .arr n 1 (tabL n fun i => con (.int k (avI (ts.getD i .unk))))
    congr 1
    refine tabL_eq h1 fun i hi => ?_
    have hlt : i < ts.length := by omega
    obtain ⟨x, h3, _⟩ := ho _ (h2 _ (List.getElem_mem hlt))
    rw [List.getElem?_eq_getElem hlt, List.getD_eq_getElem?_getD, List.getElem?_eq_getElem hlt, Option.getD_some, h3]
    rfl
  · have hlt : i < ts.length := by omega
    obtain ⟨x, h3, h4⟩ := ho _ (h2 _ (List.getElem_mem hlt))
    show R (avI (ts.getD i .unk))
    rw [List.getD_eq_getElem?_getD, List.getElem?_eq_getElem hlt, Option.getD_some, h3]
    exact h4
theorem has_i64' (a : AV) (h : (Ty.int .i64).has a) : ∃ n, a = con (.int .i64 n) ∧ i64R n := by
  have h1 := has_i64 h
  simp only [Ty.has] at h
  obtain ⟨n, rfl, _⟩ := h
  exact ⟨n, rfl, h1⟩
theorem has_u32' (a : AV) (h : (Ty.int .u32).has a) : ∃ n, a = con (.int .u32 n) ∧ u32R n := by
  have h1 := has_u32 h
  simp only [Ty.has] at h
  obtain ⟨n, rfl, _⟩ := h
  exact ⟨n, rfl, h1⟩
theorem has_u8' (a : AV) (h : (Ty.int .u8).has a) : ∃ n, a = con (.int .u8 n) ∧ u8R n := by
  have h1 := has_u8 h
  simp only [Ty.has] at h
  obtain ⟨n, rfl, _⟩ := h
  exact ⟨n, rfl, h1⟩
def Slot.wf (s : Slot) : Prop := i64R s.tag ∧ u32R s.val
def Entry.wf (s : Entry) : Prop := i64R s.addr ∧ i64R s.size ∧ i64R s.step ∧ u32R s.val
def Req.wf (s : Req) : Prop := i64R s.op ∧ i64R s.addr ∧ i64R s.size ∧ u32R s.val ∧ i64R s.left ∧ i64R s.reg ∧ i64R s.tag
def T_Wr : Ty := .agg 3 [.int .i64, .int .i64, .int .u32]
def Wr.wf (s : Wr) : Prop := i64R s.addr ∧ i64R s.size ∧ u32R s.val
theorem has_Wr (a : AV) (h : T_Wr.has a) : ∃ s : Wr, a = con (e_Wr s) ∧ s.wf := by
  simp only [T_Wr, Ty.has, Ty.hasL] at h
  obtain ⟨_, rfl, h⟩ := h
  obtain ⟨a0, _, rfl, h0, h⟩ := h
  obtain ⟨a1, _, rfl, h1, h⟩ := h
  obtain ⟨a2, _, rfl, h2, h⟩ := h
  subst h
  obtain ⟨x0, rfl, w0⟩ := has_i64' _ (by simp only [Ty.has]; exact h0)
  obtain ⟨x1, rfl, w1⟩ := has_i64' _ (by simp only [Ty.has]; exact h1)
  obtain ⟨x2, rfl, w2⟩ := has_u32' _ (by simp only [Ty.has]; exact h2)
  exact ⟨⟨x0, x1, x2⟩, rfl, ⟨w0, w1, w2⟩⟩
def Pos.wf (s : Pos) : Prop := i64R s.block ∧ i64R s.index ∧ i64R s.base
def T_Trp : Ty := .agg 3 [.int .i64, .int .i64, .int .i64]
def Trp.wf (s : Trp) : Prop := i64R s.kind ∧ i64R s.step ∧ i64R s.pc
theorem has_Trp (a : AV) (h : T_Trp.has a) : ∃ s : Trp, a = con (e_Trp s) ∧ s.wf := by
  simp only [T_Trp, Ty.has, Ty.hasL] at h
  obtain ⟨_, rfl, h⟩ := h
  obtain ⟨a0, _, rfl, h0, h⟩ := h
  obtain ⟨a1, _, rfl, h1, h⟩ := h
  obtain ⟨a2, _, rfl, h2, h⟩ := h
  subst h
  obtain ⟨x0, rfl, w0⟩ := has_i64' _ (by simp only [Ty.has]; exact h0)
  obtain ⟨x1, rfl, w1⟩ := has_i64' _ (by simp only [Ty.has]; exact h1)
  obtain ⟨x2, rfl, w2⟩ := has_i64' _ (by simp only [Ty.has]; exact h2)
  exact ⟨⟨x0, x1, x2⟩, rfl, ⟨w0, w1, w2⟩⟩
def Side.wf (s : Side) : Prop := (∀ i, i < 16 → u32R (s.regs i)) ∧ (∀ i, i < 16 → i64R (s.ready i)) ∧ s.pos.wf ∧ i64R s.wait ∧ i64R s.done
def Stt.wf (s : Stt) : Prop := i64R s.cycle ∧ s.a.wf ∧ s.e.wf ∧ ((∀ x ∈ s.ldq, x.wf) ∧ s.ldq.length * 16 ≤ 140737488351232) ∧ ((∀ x ∈ s.sdq, u32R x) ∧ s.sdq.length * 4 ≤ 140737488351232) ∧ ((∀ x ∈ s.aeq, u32R x) ∧ s.aeq.length * 4 ≤ 140737488351232) ∧ ((∀ x ∈ s.abq, True) ∧ s.abq.length * 1 ≤ 140737488351232) ∧ ((∀ x ∈ s.ebq, True) ∧ s.ebq.length * 1 ≤ 140737488351232) ∧ ((∀ x ∈ s.saq, x.wf) ∧ s.saq.length * 32 ≤ 140737488351232) ∧ ((∀ x ∈ s.table, x.wf) ∧ s.table.length * 64 ≤ 140737488351232) ∧ ((∀ x ∈ s.mem, u8R x) ∧ s.mem.length * 1 ≤ 140737488351232) ∧ ((∀ x ∈ s.writes, x.wf) ∧ s.writes.length * 24 ≤ 140737488351232) ∧ s.trap.wf ∧ i64R s.lats ∧ i64R s.picks ∧ i64R s.tags
def Cfg.wf (s : Cfg) : Prop := i64R s.ldq ∧ i64R s.sdq ∧ i64R s.aeq ∧ i64R s.abq ∧ i64R s.ebq ∧ i64R s.saq ∧ i64R s.banks ∧ i64R s.flight ∧ i64R s.slip ∧ i64R s.lat ∧ i64R s.mul ∧ i64R s.div
def Script.wf (s : Script) : Prop := ((∀ x ∈ s.lats, i64R x) ∧ s.lats.length * 8 ≤ 140737488351232) ∧ ((∀ x ∈ s.picks, i64R x) ∧ s.picks.length * 8 ≤ 140737488351232)
def T_Ins : Ty := .agg 5 [.int .i64, .int .i64, .int .i64, .int .i64, .int .i64]
def Ins.wf (s : Ins) : Prop := i64R s.op ∧ i64R s.d ∧ i64R s.a ∧ i64R s.b ∧ i64R s.imm
theorem has_Ins (a : AV) (h : T_Ins.has a) : ∃ s : Ins, a = con (e_Ins s) ∧ s.wf := by
  simp only [T_Ins, Ty.has, Ty.hasL] at h
  obtain ⟨_, rfl, h⟩ := h
  obtain ⟨a0, _, rfl, h0, h⟩ := h
  obtain ⟨a1, _, rfl, h1, h⟩ := h
  obtain ⟨a2, _, rfl, h2, h⟩ := h
  obtain ⟨a3, _, rfl, h3, h⟩ := h
  obtain ⟨a4, _, rfl, h4, h⟩ := h
  subst h
  obtain ⟨x0, rfl, w0⟩ := has_i64' _ (by simp only [Ty.has]; exact h0)
  obtain ⟨x1, rfl, w1⟩ := has_i64' _ (by simp only [Ty.has]; exact h1)
  obtain ⟨x2, rfl, w2⟩ := has_i64' _ (by simp only [Ty.has]; exact h2)
  obtain ⟨x3, rfl, w3⟩ := has_i64' _ (by simp only [Ty.has]; exact h3)
  obtain ⟨x4, rfl, w4⟩ := has_i64' _ (by simp only [Ty.has]; exact h4)
  exact ⟨⟨x0, x1, x2, x3, x4⟩, rfl, ⟨w0, w1, w2, w3, w4⟩⟩
def Cell.wf (s : Cell) : Prop := i64R s.kind ∧ s.ins.wf ∧ i64R s.reg ∧ i64R s.pc ∧ i64R s.off
def Block.wf (s : Block) : Prop := i64R s.src ∧ i64R s.dst ∧ i64R s.next ∧ i64R s.taken ∧ ((∀ x ∈ s.a, x.wf) ∧ s.a.length * 72 ≤ 140737488351232) ∧ ((∀ x ∈ s.e, x.wf) ∧ s.e.length * 72 ≤ 140737488351232)
def Split.wf (s : Split) : Prop := ((∀ x ∈ s.blocks, x.wf) ∧ s.blocks.length * 80 ≤ 140737488351232) ∧ (∀ i, i < 16 → i64R (s.owner i))
def T_Prog : Ty := .agg 3 [.slice 5 40 T_Ins, .int .i64, .slice 1 1 (.int .u8)]
def Prog.wf (s : Prog) : Prop := ((∀ x ∈ s.code, x.wf) ∧ s.code.length * 40 ≤ 140737488351232) ∧ i64R s.size ∧ ((∀ x ∈ s.data, u8R x) ∧ s.data.length * 1 ≤ 140737488351232)
theorem has_Prog (a : AV) (h : T_Prog.has a) : ∃ s : Prog, a = con (e_Prog s) ∧ s.wf := by
  simp only [T_Prog, Ty.has, Ty.hasL] at h
  obtain ⟨_, rfl, h⟩ := h
  obtain ⟨a0, _, rfl, h0, h⟩ := h
  obtain ⟨a1, _, rfl, h1, h⟩ := h
  obtain ⟨a2, _, rfl, h2, h⟩ := h
  subst h
  obtain ⟨x0, rfl, w0⟩ := has_row (en := e_Ins) (wf := Ins.wf) has_Ins (by simp only [Ty.has]; exact h0)
  obtain ⟨x1, rfl, w1⟩ := has_i64' _ (by simp only [Ty.has]; exact h1)
  obtain ⟨x2, rfl, w2⟩ := has_row (en := e_u8) (wf := u8R) has_u8' (by simp only [Ty.has]; exact h2)
  exact ⟨⟨x0, x1, x2⟩, rfl, ⟨w0, w1, w2⟩⟩
/-- A state whose rows are not too long. -/
def Stt.ok (s : Stt) : Prop := s.wf ∧ s.ldq.length ≤ 1000000 ∧ s.sdq.length ≤ 1000000 ∧ s.aeq.length ≤ 1000000 ∧ s.abq.length ≤ 1000000 ∧ s.ebq.length ≤ 1000000 ∧ s.saq.length ≤ 1000000 ∧ s.table.length ≤ 1000000 ∧ s.mem.length ≤ 1000000 ∧ s.writes.length ≤ 1000000
end Go.Ra

/- Instructions: forms, and which may be. -/
namespace Go.Proofs.Ytmfbaglhmiadjaa
open Go.Ra
set_option linter.unusedVariables false
set_option linter.unusedSimpArgs false
def TR0 : Tab := mkT qq cl_ref1 [] []
/-- The form of an operation. -/
def formI (op : Int) : Int := if op < 1 ∨ op > 41 then 0 else if op ≤ 16 then 1 else if op ≤ 24 then 2 else if op = 25 then 3 else if op ≤ 30 then 4 else if op ≤ 33 then 5 else if op ≤ 39 then 6 else if op = 40 then 7 else 8
def formSp : List XV → Option (List Bool × XV)
  | [.int .i64 op] => some ([], .int .i64 (formI op))
  | _ => none
def hasD (f : Int) : Bool := decide (f = 1 ∨ f = 2 ∨ f = 3 ∨ f = 4)
def hasA (f : Int) : Bool := decide (f = 1 ∨ f = 2 ∨ f = 4 ∨ f = 5 ∨ f = 6)
def hasB (f : Int) : Bool := decide (f = 1 ∨ f = 5 ∨ f = 6)
def hasI (f : Int) : Bool := decide (f = 2 ∨ f = 3 ∨ f = 4 ∨ f = 5 ∨ f = 6 ∨ f = 7)
def hasSp : List XV → Option (List Bool × XV)
  | [.int .i64 f] => some ([], .tup [.bool (hasD f), .bool (hasA f), .bool (hasB f), .bool (hasI f)])
  | _ => none
def regB (n : Int) (t : Bool) : Bool := decide (n = 0) || (t && (decide (n > 0) && decide (n ≤ 15)))
def regSp : List XV → Option (List Bool × XV)
  | [.int .i64 n, .bool t] => some ([], .bool (regB n t))
  | _ => none
def TR1 : Tab := mkT qq cl_ref1 [(26, formSp), (42, hasSp), (43, regSp)] []
/-- May an instruction be? -/
def rightIns (i : Ins) : Bool := decide (¬ formI i.op = 0) && (regB i.d (hasD (formI i.op)) && (regB i.a (hasA (formI i.op)) && (regB i.b (hasB (formI i.op)) && ((hasI (formI i.op) || decide (i.imm = 0)) && (if i.op = 22 ∨ i.op = 23 ∨ i.op = 24 then decide (0 ≤ i.imm ∧ i.imm ≤ 31) else decide (-8192 ≤ i.imm ∧ i.imm ≤ 8191))))))
def rtSp : List XV → Option (List Bool × XV)
  | [.agg 5 [.int .i64 op, .int .i64 d, .int .i64 a, .int .i64 b, .int .i64 m]] => some ([], .bool (rightIns ⟨op, d, a, b, m⟩))
  | _ => none
theorem TR0ok : TabOk Try.prog TR0 := mkT_ok clok_ref1 trivial trivial
theorem r_form (a : Int) (K : XV → Prop) : (quietGo TR0 80 (callI TR0 80 20) 26 [.int .i64 a] K) = (bif bif decide (a < 1) then true else !decide (a < 1) then bif bif decide (a < 1) then true else decide (a > 41) then K (.int .i64 0) else bif decide (a ≤ 16)
 then K (.int .i64 1) else bif decide (a ≤ 24) then K (.int .i64 2) else bif decide (a = 25) then K (.int .i64 3) else bif decide (a ≤ 30) then K (.int .i64 4) else
 bif decide (a ≤ 33) then K (.int .i64 5) else bif decide (a ≤ 39) then K (.int .i64 6) else bif decide (a = 40) then K (.int .i64 7) else K (.int .i64 8)
else False)
 := by kernel_rfl
theorem r_has (a : Int) (K : XV → Prop) : (quietGo TR0 80 (callI TR0 80 20) 42 [.int .i64 a] K) = (bif decide (a = 1) then K (.tup [.bool true, .bool true, .bool true, .bool false])
else bif decide (a = 2) then bif decide (a = 2) then K (.tup [.bool true,
 .bool true, .bool false, .bool true]) else bif decide (a = 3) then K (.tup [.bool true, .bool false, .bool false, .bool true]) else bif decide (a = 5) then bif decide
 (a = 5) then K (.tup [.bool false, .bool true, .bool true, .bool true]) else bif decide (a = 7) then K (.tup [.bool false, .bool false, .bool false, .bool true])
 else K (.tup [.bool false, .bool false, .bool false, .bool false]) else bif decide (a = 6) then K (.tup [.bool false, .bool true, .bool true, .bool true]) else bif
 decide (a = 7) then K (.tup [.bool false, .bool false, .bool false, .bool true]) else K (.tup [.bool false, .bool false, .bool false, .bool false]) else bif decide
 (a = 4) then K (.tup [.bool true, .bool true, .bool false, .bool true]) else bif decide (a = 3) then K (.tup [.bool true, .bool false, .bool false, .bool true])
 else bif decide (a = 5) then bif decide (a = 5) then K (.tup [.bool false, .bool true, .bool true, .bool true]) else bif decide (a = 7) then K (.tup [.bool false,
 .bool false, .bool false, .bool true]) else K (.tup [.bool false, .bool false, .bool false, .bool false]) else bif decide (a = 6) then K (.tup [.bool false, .bool
 true, .bool true, .bool true]) else bif decide (a = 7) then K (.tup [.bool false, .bool false, .bool false, .bool true]) else K (.tup [.bool false, .bool false,
 .bool false, .bool false])) := by kernel_rfl
theorem r_reg (a : Int) (t : Bool) (K : XV → Prop) : (quietGo TR0 80 (callI TR0 80 20) 43 [.int .i64 a, .bool t] K) = (bif bif !decide (a = 0) then true else !!decide (a = 0) then bif bif bif t then bif !decide (a = 0) then t else false else true then true else !!decide (a =
 0) then bif bif !decide (a = 0) then true else !!decide (a = 0) then bif bif bif bif t then decide (a > 0) else false then bif !decide (a = 0) then bif t then decide
 (a > 0) else false else false else true then true else !!decide (a = 0) then bif bif decide (a = 0) then true else !decide (a = 0) then K (.bool (bif decide (a =
 0) then true else bif bif t then decide (a > 0) else false then decide (a ≤ 15) else false)) else False else False else False else False
else False) := by kernel_rfl 

theorem r_rt (i : Ins) (K : XV → Prop) : (quietGo TR1 80 (callI TR1 80 20) 25 [e_Ins i] K) = (bif bif decide (formI (Ins.op i) = 0) then true else !decide (formI (Ins.op i) = 0) then bif bif bif decide (formI (Ins.op i) = 0) then true else !regB (Ins.d
 i) (hasD (formI (Ins.op i))) then true else !bif decide (formI (Ins.op i) = 0) then true else !regB (Ins.d i) (hasD (formI (Ins.op i))) then bif bif bif bif decide
 (formI (Ins.op i) = 0) then true else !regB (Ins.d i) (hasD (formI (Ins.op i))) then true else !regB (Ins.a i) (hasA (formI (Ins.op i))) then true else !bif bif
 decide (formI (Ins.op i) = 0) then true else !regB (Ins.d i) (hasD (formI (Ins.op i))) then true else !regB (Ins.a i) (hasA (formI (Ins.op i))) then bif bif !bif
 bif bif decide (formI (Ins.op i) = 0) then true else !regB (Ins.d i) (hasD (formI (Ins.op i))) then true else !regB (Ins.a i) (hasA (formI (Ins.op i))) then true
 else !regB (Ins.b i) (hasB (formI (Ins.op i))) then true else !!bif bif bif decide (formI (Ins.op i) = 0) then true else !regB (Ins.d i) (hasD (formI (Ins.op i)))
 then true else !regB (Ins.a i) (hasA (formI (Ins.op i))) then true else !regB (Ins.b i) (hasB (formI (Ins.op i))) then bif bif bif !hasI (formI (Ins.op i)) then
 bif !bif bif bif decide (formI (Ins.op i) = 0) then true else !regB (Ins.d i) (hasD (formI (Ins.op i))) then true else !regB (Ins.a i) (hasA (formI (Ins.op i)))
 then true else !regB (Ins.b i) (hasB (formI (Ins.op i))) then !hasI (formI (Ins.op i)) else false else true then true else !!bif bif bif decide (formI (Ins.op i)
 = 0) then true else !regB (Ins.d i) (hasD (formI (Ins.op i))) then true else !regB (Ins.a i) (hasA (formI (Ins.op i))) then true else !regB (Ins.b i) (hasB (formI
 (Ins.op i))) then bif bif bif bif bif decide (formI (Ins.op i) = 0) then true else !regB (Ins.d i) (hasD (formI (Ins.op i))) then true else !regB (Ins.a i) (hasA
 (formI (Ins.op i))) then true else !regB (Ins.b i) (hasB (formI (Ins.op i))) then true else !bif bif bif decide (formI (Ins.op i) = 0) then true else !regB (Ins.d
 i) (hasD (formI (Ins.op i))) then true else !regB (Ins.a i) (hasA (formI (Ins.op i))) then true else !regB (Ins.b i) (hasB (formI (Ins.op i))) then bif bif bif bif
 bif decide (formI (Ins.op i) = 0) then true else !regB (Ins.d i) (hasD (formI (Ins.op i))) then true else !regB (Ins.a i) (hasA (formI (Ins.op i))) then true else
 !regB (Ins.b i) (hasB (formI (Ins.op i))) then true else bif !hasI (formI (Ins.op i)) then decide ¬Ins.imm i = 0 else false then K (.bool false) else bif bif decide
 (Ins.op i = 22) then true else !decide (Ins.op i = 22) then bif bif bif decide (Ins.op i = 22) then true else decide (Ins.op i = 23) then true else !bif decide (Ins.op
 i = 22) then true else decide (Ins.op i = 23) then bif bif bif decide (Ins.op i = 22) then true else decide (Ins.op i = 23) then true else decide (Ins.op i = 24)
 then bif bif decide (Ins.imm i ≥ 0) then decide (Ins.imm i ≥ 0) else true then K (.bool (bif decide (Ins.imm i ≥ 0) then decide (Ins.imm i ≤ 31) else false)) else
 False else bif bif decide (Ins.imm i ≥ (-8192 : Int)) then decide (Ins.imm i ≥ (-8192 : Int)) else true then K (.bool (bif decide (Ins.imm i ≥ (-8192 : Int)) then
 decide (Ins.imm i ≤ 8191) else false)) else False else False else False else False else False else False else False else False
else False) := by kernel_rfl
theorem sp_form : SpOk Try.prog (26, formSp) := by
  intro args nd v ha hn
  simp only [formSp] at ha
  split at ha <;> simp only [Option.some.injEq, Prod.mk.injEq, reduceCtorEq] at ha
  obtain ⟨hnd, rfl⟩ := ha
  clear hnd hn
  rename_i a
  refine pureX (u := 80) (k := 20) mix TR0ok ?_
  rw [r_form]
  unfold formI
  simp only [g1, g2, g3, g4, g5, g6, g7, allN_true, cond_true, Nat.le_refl, decide_true, pl_eq]
  by_cases h0 : a < 1 ∨ a > 41
  · rw [if_pos h0]
    rcases h0 with h | h <;> simp [h]
  · rw [if_neg h0]
    have h1 : ¬ a < 1 := fun h => h0 (.inl h)
    have h2 : ¬ a > 41 := fun h => h0 (.inr h)
    simp only [h1, h2, decide_false, cond_false]
    by_cases h3 : a ≤ 16
    · simp [h3]
    by_cases h4 : a ≤ 24
    · simp [h3, h4]
    by_cases h5 : a = 25
    · simp [h5]
    by_cases h6 : a ≤ 30
    · simp [h3, h4, h5, h6]
    by_cases h7 : a ≤ 33
    · simp [h3, h4, h5, h6, h7]
    by_cases h8 : a ≤ 39
    · simp [h3, h4, h5, h6, h7, h8]
    by_cases h9 : a = 40
    · simp [h9]
    simp [h3, h4, h5, h6, h7, h8, h9]
theorem sp_has : SpOk Try.prog (42, hasSp) := by
  intro args nd v ha hn
  simp only [hasSp] at ha
  split at ha <;> simp only [Option.some.injEq, Prod.mk.injEq, reduceCtorEq] at ha
  obtain ⟨hnd, rfl⟩ := ha
  clear hnd hn
  rename_i a
  refine pureX (u := 80) (k := 20) mix TR0ok ?_
  rw [r_has]
  unfold hasD hasA hasB hasI
  by_cases h1 : a = 1
  · subst h1; simp
  by_cases h2 : a = 2
  · subst h2; simp
  by_cases h3 : a = 3
  · subst h3; simp
  by_cases h4 : a = 4
  · subst h4; simp
  by_cases h5 : a = 5
  · subst h5; simp
  by_cases h6 : a = 6
  · subst h6; simp
  by_cases h7 : a = 7
  · subst h7; simp
  simp [h1, h2, h3, h4, h5, h6, h7]
theorem sp_reg : SpOk Try.prog (43, regSp) := by
  intro args nd v ha hn
  simp only [regSp] at ha
  split at ha <;> simp only [Option.some.injEq, Prod.mk.injEq, reduceCtorEq] at ha
  obtain ⟨hnd, rfl⟩ := ha
  clear hnd hn
  rename_i a t
  refine pureX (u := 80) (k := 20) mix TR0ok ?_
  rw [r_reg]
  simp only [g1, g2, g3, g4, g5, g6, g7, allN_true, cond_true, Nat.le_refl, decide_true, pl_eq]
  refine conB ?_
  unfold regB
  simp only [band, bor, Bool.and_assoc]
theorem TR1ok : TabOk Try.prog TR1 := mkT_ok clok_ref1 ⟨sp_form, sp_has, sp_reg, trivial⟩ trivial
theorem sp_rt : SpOk Try.prog (25, rtSp) := by
  intro args nd v ha hn
  simp only [rtSp] at ha
  split at ha <;> simp only [Option.some.injEq, Prod.mk.injEq, reduceCtorEq] at ha
  obtain ⟨hnd, rfl⟩ := ha
  clear hnd hn
  rename_i op d a b m
  refine pureX (u := 80) (k := 20) mix TR1ok ?_
  refine Eq.mpr (r_rt ⟨op, d, a, b, m⟩ _) ?_
  simp only [g1, g2, g3, g4, g5, g6, g7, allN_true, cond_true, Nat.le_refl, decide_true, pl_eq]
  unfold rightIns
  dsimp only
  generalize formI op = f
  by_cases h0 : f = 0
  · simp [h0]
  cases h1 : regB d (hasD f) with
  | false => simp [h0, h1]
  | true =>
  cases h2 : regB a (hasA f) with
  | false => simp [h0, h1, h2]
  | true =>
  cases h3 : regB b (hasB f) with
  | false => simp [h0, h1, h2, h3]
  | true =>
  have e : (bif !hasI f then decide (¬ m = 0) else false) = !(hasI f || decide (m = 0)) := by cases hasI f <;> by_cases h : m = 0 <;> simp [h]
  simp only [h0, h1, h2, h3, e, decide_false, cond_false, Bool.not_true, not_false_eq_true, decide_true, Bool.true_and]
  cases h4 : (hasI f || decide (m = 0)) with
  | false => simp [h4]
  | true =>
    simp only [Bool.not_true, cond_false, Bool.true_and]
    simp only [bor, band]
    have e2 : (decide (op = 22) || decide (op = 23) || decide (op = 24)) = decide (op = 22 ∨ op = 23 ∨ op = 24) := by simp [Bool.or_assoc]
    rw [e2]
    by_cases h5 : op = 22 ∨ op = 23 ∨ op = 24
    · rw [decide_eq_true h5, cond_true, if_pos h5]
      refine conB ?_
      rw [Bool.eq_iff_iff]; simp
    · rw [decide_eq_false h5, cond_false, if_neg h5]
      refine conB ?_
      rw [Bool.eq_iff_iff]; simp
end Go.Proofs.Ytmfbaglhmiadjaa

/- What instructions read, where they lead, and which programs may be. -/
namespace Go.Proofs.Ytmfbaglhmiadjaa
open Go.Ra
set_option linter.unusedVariables false
set_option linter.unusedSimpArgs false
def TR2 : Tab := mkT qq cl_ref1 [(26, formSp), (42, hasSp), (25, rtSp)] []
/-- Where a branch or a jump leads; -1: nowhere. -/
def targetF (p : Prog) (n : Nat) : Int := if (¬ formI (ix p.code n).op = 6 ∧ ¬ formI (ix p.code n).op = 7) ∨ (ix p.code n).imm < -8192 ∨ (ix p.code n).imm > 8191 ∨ (n : Int) + (ix p.code n).imm < 0 ∨ (n : Int) + (ix p.code n).imm ≥ p.code.length then -1 else (n : Int) + (ix p.code n).imm
def tgtS : List XV → Option ((XV → Prop) → Prop) := skOf (fun q : Prog × Nat => [e_Prog q.1, .int .i64 q.2]) (fun q => q.1.wf ∧ q.2 < q.1.code.length) (fun q => targetF q.1 q.2) (fun y => .int .i64 y)
theorem TR2ok : TabOk Try.prog TR2 := mkT_ok clok_ref1 ⟨sp_form, sp_has, sp_rt, trivial⟩ trivial
theorem r_tgt (p : Prog) (n : Nat) (r : XV) : (quietGo TR2 80 (callI TR2 80 20) 44 [e_Prog p, .int .i64 n] (fun v => ResLe v r)) = (bif decide ((↑n : Int) < (↑(List.length (Prog.code p)) : Int)) then bif bif decide ¬formI (Ins.op (ix (Prog.code p) n)) = 6 then decide ¬formI (Ins.op (ix (Prog.code
 p) n)) = 6 else true then bif bif bif decide ¬formI (Ins.op (ix (Prog.code p) n)) = 6 then decide ¬formI (Ins.op (ix (Prog.code p) n)) = 7 else false then true else
 !bif decide ¬formI (Ins.op (ix (Prog.code p) n)) = 6 then decide ¬formI (Ins.op (ix (Prog.code p) n)) = 7 else false then bif bif bif bif decide ¬formI (Ins.op (ix
 (Prog.code p) n)) = 6 then decide ¬formI (Ins.op (ix (Prog.code p) n)) = 7 else false then true else decide (Ins.imm (ix (Prog.code p) n) < (-8192 : Int)) then true
 else !bif bif decide ¬formI (Ins.op (ix (Prog.code p) n)) = 6 then decide ¬formI (Ins.op (ix (Prog.code p) n)) = 7 else false then true else decide (Ins.imm (ix
 (Prog.code p) n) < (-8192 : Int)) then bif bif bif bif bif decide ¬formI (Ins.op (ix (Prog.code p) n)) = 6 then decide ¬formI (Ins.op (ix (Prog.code p) n)) = 7 else
 false then true else decide (Ins.imm (ix (Prog.code p) n) < (-8192 : Int)) then true else decide (Ins.imm (ix (Prog.code p) n) > 8191) then true else !bif bif bif
 decide ¬formI (Ins.op (ix (Prog.code p) n)) = 6 then decide ¬formI (Ins.op (ix (Prog.code p) n)) = 7 else false then true else decide (Ins.imm (ix (Prog.code p)
 n) < (-8192 : Int)) then true else decide (Ins.imm (ix (Prog.code p) n) > 8191) then bif bif bif bif bif bif decide ¬formI (Ins.op (ix (Prog.code p) n)) = 6 then
 decide ¬formI (Ins.op (ix (Prog.code p) n)) = 7 else false then true else decide (Ins.imm (ix (Prog.code p) n) < (-8192 : Int)) then true else decide (Ins.imm (ix
 (Prog.code p) n) > 8191) then true else decide (IntKind.wrap .i64 ((↑n : Int) + Ins.imm (ix (Prog.code p) n)) < 0) then true else !bif bif bif bif decide ¬formI
 (Ins.op (ix (Prog.code p) n)) = 6 then decide ¬formI (Ins.op (ix (Prog.code p) n)) = 7 else false then true else decide (Ins.imm (ix (Prog.code p) n) < (-8192 :
 Int)) then true else decide (Ins.imm (ix (Prog.code p) n) > 8191) then true else decide (IntKind.wrap .i64 ((↑n : Int) + Ins.imm (ix (Prog.code p) n)) < 0) then
 bif bif bif bif bif bif decide ¬formI (Ins.op (ix (Prog.code p) n)) = 6 then decide ¬formI (Ins.op (ix (Prog.code p) n)) = 7 else false then true else decide (Ins.imm
 (ix (Prog.code p) n) < (-8192 : Int)) then true else decide (Ins.imm (ix (Prog.code p) n) > 8191) then true else decide (IntKind.wrap .i64 ((↑n : Int) + Ins.imm
 (ix (Prog.code p) n)) < 0) then true else decide (IntKind.wrap .i64 ((↑n : Int) + Ins.imm (ix (Prog.code p) n)) ≥ (↑(List.length (Prog.code p)) : Int)) then ResLe
 (.int .i64 (-1 : Int)) r else ResLe (.int .i64 (IntKind.wrap .i64 ((↑n : Int) + Ins.imm (ix (Prog.code p) n)))) r else False else False else False else False else
 False
else False) := by kernel_rfl
theorem sk_tgt : SkOk Try.prog (44, tgtS) := skOf_ok fun ⟨p, n⟩ h => by
  obtain ⟨hw, hn⟩ : p.wf ∧ n < p.code.length := h
  show Pure _ _ (cons [e_Prog p, .int .i64 n]) (con (.int .i64 (targetF p n)))
  refine pureR (u := 80) (k := 20) mix TR2ok ?_
  refine Eq.mpr (r_tgt p n _) ?_
  have h1 : (n : Int) < (p.code.length : Int) := by omega
  have hl := hw.1.2
  simp only [g1, g2, g3, g4, g5, g6, g7, allN_true, cond_true, Nat.le_refl, decide_true, pl_eq, h1]
  simp only [band, bor]
  unfold targetF
  generalize ix p.code n = i
  generalize formI i.op = f
  by_cases hm : i.imm < -8192 ∨ i.imm > 8191
  · rw [if_pos (.inr (hm.imp id .inl))]
    rcases hm with hm | hm <;> (simp only [decide_eq_true hm, Bool.true_or, Bool.or_true, cond_true]; exact .rfl)
  have m1 : ¬ i.imm < -8192 := fun h => hm (.inl h)
  have m2 : ¬ i.imm > 8191 := fun h => hm (.inr h)
  have w1 : IntKind.i64.wrap ((n : Int) + i.imm) = (n : Int) + i.imm := wrap_i64 (by omega) (by omega)
  simp only [w1, m1, m2, decide_false, Bool.or_false, false_or]
  have e : (decide (¬ f = 6) && decide (¬ f = 7) || decide ((n : Int) + i.imm < 0) || decide ((n : Int) + i.imm ≥ (p.code.length : Int))) = decide ((¬ f = 6 ∧ ¬ f = 7) ∨ (n : Int) + i.imm < 0 ∨ (n : Int) + i.imm ≥ p.code.length) := by
    rw [Bool.eq_iff_iff]; simp only [Bool.or_eq_true, Bool.and_eq_true, decide_eq_true_eq, or_assoc]
  rw [e]
  by_cases hc : (¬ f = 6 ∧ ¬ f = 7) ∨ (n : Int) + i.imm < 0 ∨ (n : Int) + i.imm ≥ p.code.length
  · rw [decide_eq_true hc, if_pos hc]; exact .rfl
  · rw [decide_eq_false hc, if_neg hc]; exact .rfl
end Go.Proofs.Ytmfbaglhmiadjaa

/- Which programs may be, as the document says. -/
namespace Go.Proofs.Ytmfbaglhmiadjaa
open Go.Ra
set_option linter.unusedVariables false
set_option linter.unusedSimpArgs false
def TR3 : Tab := mkT2 qq cl_ref1 [(26, formSp), (25, rtSp)] [] [(44, tgtS)] []
/-- Does an instruction lead somewhere, if it must? -/
def tgtOk (p : Prog) (n : Nat) : Bool := !((decide (formI (ix p.code n).op = 6) || decide (formI (ix p.code n).op = 7)) && decide (targetF p n < 0))
def tgsOk (p : Prog) : Bool := allN (tgtOk p) p.code.length
def tgsS : List XV → Option ((XV → Prop) → Prop) := skOf (fun p : Prog => [e_Prog p]) (fun p => p.wf) (fun p => if tgsOk p then (0 : Int) else 4) (fun y => .int .i64 y)
/-- May a program be? -/
def rightProg (p : Prog) : Bool := decide (1 ≤ p.code.length ∧ p.code.length ≤ 2000 ∧ 0 ≤ p.size ∧ p.size ≤ 65536 ∧ (p.data.length : Int) ≤ p.size) && (allN (fun n => rightIns (ix p.code n)) p.code.length && tgsOk p)
def rprS : List XV → Option ((XV → Prop) → Prop) := skOf (fun p : Prog => [e_Prog p]) (fun p => p.wf) (fun p => rightProg p) (fun y => .bool y)
def TR4 : Tab := mkT2 qq cl_ref1 [(25, rtSp)] [] [(27, tgsS)] []
theorem TR3ok : TabOk Try.prog TR3 := mkT2_ok clok_ref1 ⟨sp_form, sp_rt, trivial⟩ trivial ⟨sk_tgt, trivial⟩ trivial
theorem r_tgs0 (p : Prog) (r : XV) : (goQ Try.prog TR3 [(.tmp 2)] r (.run c_ref1_Targets) [] ⟨envX 0 [e_Prog p], [], 0⟩) = (LoopAt (Ok Try.prog (Tab.q TR3)) c_ref1_Targets_l1 (XSt.mk [(3, .int .i64 0), (2, .int .i64 0), (1, .ptr 0 [] 0)] [(0, some (e_Prog p))] 1) [Frm.blk 0, Frm.seq
 c_ref1_Targets_p1] (finQR [AR.tmp 2] r)) := by kernel_rfl
theorem r_tgs1 (p : Prog) (i : Nat) (r : XV) (A : XSt → Prop) : (goQ Try.prog TR3 [(.tmp 2)] r (.run c_ref1_Targets_l1) [.lp c_ref1_Targets_l1 A, .blk 0, .seq c_ref1_Targets_p1] ⟨[(3, .int .i64 i), (1, .ptr 0 [] 0)], [(0, some (e_Prog p))], 1⟩) = (bif decide ((↑i : Int) < (↑(List.length (Prog.code p)) : Int)) then bif decide ((↑i : Int) < (↑(List.length (Prog.code p)) : Int)) then bif bif decide (formI
 (Ins.op (ix (Prog.code p) i)) = 6) then true else !decide (formI (Ins.op (ix (Prog.code p) i)) = 6) then bif bif decide (formI (Ins.op (ix (Prog.code p) i)) = 6)
 then true else decide (formI (Ins.op (ix (Prog.code p) i)) = 7) then ∃ (s : Prog × Nat), ArgsLe [e_Prog p, .int .i64 (↑i : Int)] [e_Prog (Prod.fst s), .int .i64
 (↑(Prod.snd s) : Int)] ∧ PreIs (Prog.wf (Prod.fst s) ∧ Prod.snd s < List.length (Prog.code (Prod.fst s))) ∧ ∀ (y : Int), y = targetF (Prod.fst s) (Prod.snd s) →
 bif bif bif decide (formI (Ins.op (ix (Prog.code p) i)) = 6) then true else decide (formI (Ins.op (ix (Prog.code p) i)) = 7) then decide (y < 0) else false then
 ResLe (.int .i64 4) r else A (XSt.mk [(3, .int .i64 (IntKind.wrap .i64 ((↑i : Int) + (1 : Int)))), (1, .ptr 0 [] 0)] [(0, some (e_Prog p))] 1) else bif !bif decide
 (formI (Ins.op (ix (Prog.code p) i)) = 6) then true else decide (formI (Ins.op (ix (Prog.code p) i)) = 7) then A (XSt.mk [(3, .int .i64 (IntKind.wrap .i64 ((↑i :
 Int) + (1 : Int)))), (1, .ptr 0 [] 0)] [(0, some (e_Prog p))] 1) else False else False else False
else ResLe (.int .i64 0) r) := by kernel_rfl
theorem r_rpr0 (p : Prog) (r : XV) : (goQ Try.prog TR4 [(.tmp 2)] r (.run c_ref1_RightProgram) [] ⟨envX 0 [e_Prog p], [], 0⟩) = (bif bif decide ((↑(List.length (Prog.code p)) : Int) < 1) then true else !decide ((↑(List.length (Prog.code p)) : Int) < 1) then bif bif bif decide ((↑(List.length
 (Prog.code p)) : Int) < 1) then true else decide ((↑(List.length (Prog.code p)) : Int) > 2000) then true else !bif decide ((↑(List.length (Prog.code p)) : Int) <
 1) then true else decide ((↑(List.length (Prog.code p)) : Int) > 2000) then bif bif bif bif decide ((↑(List.length (Prog.code p)) : Int) < 1) then true else decide
 ((↑(List.length (Prog.code p)) : Int) > 2000) then true else decide (Prog.size p < 0) then true else !bif bif decide ((↑(List.length (Prog.code p)) : Int) < 1) then
 true else decide ((↑(List.length (Prog.code p)) : Int) > 2000) then true else decide (Prog.size p < 0) then bif bif bif bif bif decide ((↑(List.length (Prog.code
 p)) : Int) < 1) then true else decide ((↑(List.length (Prog.code p)) : Int) > 2000) then true else decide (Prog.size p < 0) then true else decide (Prog.size p >
 65536) then true else !bif bif bif decide ((↑(List.length (Prog.code p)) : Int) < 1) then true else decide ((↑(List.length (Prog.code p)) : Int) > 2000) then true
 else decide (Prog.size p < 0) then true else decide (Prog.size p > 65536) then bif bif bif bif bif decide ((↑(List.length (Prog.code p)) : Int) < 1) then true else
 decide ((↑(List.length (Prog.code p)) : Int) > 2000) then true else decide (Prog.size p < 0) then true else decide (Prog.size p > 65536) then true else decide ((↑(List.length
 (Prog.data p)) : Int) > Prog.size p) then ResLe (.bool false) r else LoopAt (Ok Try.prog (Tab.q TR4)) c_ref1_RightProgram_l1 (XSt.mk [(3, .int .i64 0), (2, .bool
 false), (1, .ptr 0 [] 0)] [(0, some (e_Prog p))] 1) [Frm.blk 0, Frm.seq c_ref1_RightProgram_p1] (finQR [AR.tmp 2] r) else False else False else False
else False)
 := by kernel_rfl
theorem r_rpr1 (p : Prog) (i : Nat) (r : XV) (A : XSt → Prop) : (goQ Try.prog TR4 [(.tmp 2)] r (.run c_ref1_RightProgram_l1) [.lp c_ref1_RightProgram_l1 A, .blk 0, .seq c_ref1_RightProgram_p1] ⟨[(3, .int .i64 i), (1, .ptr 0 [] 0)], [(0, some (e_Prog p))], 1⟩) = (bif decide ((↑i : Int) < (↑(List.length (Prog.code p)) : Int)) then bif decide ((↑i : Int) < (↑(List.length (Prog.code p)) : Int)) then bif !rightIns (ix (Prog.code
 p) i) then ResLe (.bool false) r else A (XSt.mk [(3, .int .i64 (IntKind.wrap .i64 ((↑i : Int) + (1 : Int)))), (1, .ptr 0 [] 0)] [(0, some (e_Prog p))] 1) else False
else
 ∃ (s : Prog), ArgsLe [e_Prog p] [e_Prog s] ∧ PreIs (Prog.wf s) ∧ ∀ (y : Int), (y = if tgsOk s = true then (0 : Int) else (4 : Int)) → ResLe (.bool (decide (y = 0)))
 r) := by kernel_rfl
theorem allN_false {p : Nat → Bool} {n i : Nat} (hi : i < n) (h : p i = false) : allN p n = false := by
  rw [← Bool.not_eq_true, allN_iff]
  intro h2
  rw [h2 i hi] at h
  cases h
theorem sk_tgs : SkOk Try.prog (27, tgsS) := skOf_ok fun p hw => by
  have hw : p.wf := hw
  have hl := hw.1.2
  refine pureQ mix TR3ok t_ref1_Targets (Nat.le_of_ble_eq_true rfl) ?_
  refine Eq.mpr (r_tgs0 p _) ?_
  refine loopQ mix TR3ok (fun i : Nat => ⟨[(3, .int .i64 i), (1, .ptr 0 [] 0)], [(0, some (e_Prog p))], 1⟩) (fun i => i ≤ p.code.length ∧ ∀ j, j < i → tgtOk p j = true) (fun i => p.code.length - i) 0 ⟨Nat.zero_le _, fun j hj => by omega⟩ (.of (weakX ⟨rfl, rfl, trivial⟩ ⟨rfl, trivial⟩ (Nat.le_refl _))) ?_
  rintro i ⟨hi, hp⟩
  refine Eq.mpr (r_tgs1 p i _ _) ?_
  by_cases hlt : i < p.code.length
  · have h1 : (i : Int) < (p.code.length : Int) := by omega
    have w1 : IntKind.i64.wrap ((i : Int) + 1) = ((i + 1 : Nat) : Int) := wrap_i64 (by omega) (by omega)
    simp only [g1, g2, g3, g4, g5, g6, g7, allN_true, cond_true, Nat.le_refl, decide_true, pl_eq, h1, w1]
    simp only [bor, band]
    have next : tgtOk p i = true → ∃ j, (j ≤ p.code.length ∧ ∀ k, k < j → tgtOk p k = true) ∧ WeakE 1 (XSt.st (XSt.mk [(3, .int .i64 ((i + 1 : Nat) : Int)), (1, .ptr 0 [] 0)] [(0, some (e_Prog p))] 1)) (XSt.st (XSt.mk [(3, .int .i64 (j : Nat)), (1, .ptr 0 [] 0)] [(0, some (e_Prog p))] 1)) ∧ p.code.length - j < p.code.length - i := fun h => by
      refine ⟨i + 1, ⟨hlt, fun j hj => ?_⟩, .of (weakX ⟨rfl, rfl, trivial⟩ ⟨rfl, trivial⟩ (Nat.le_refl _)), by omega⟩
      by_cases hji : j = i
      · subst hji; exact h
      · exact hp j (by omega)
    cases hc : (decide (formI (ix p.code i).op = 6) || decide (formI (ix p.code i).op = 7)) with
    | false =>
      simp only [cond_false, Bool.not_false, cond_true]
      exact next (by unfold tgtOk; rw [hc]; rfl)
    | true =>
      simp only [cond_true]
      refine ⟨(p, i), .rfl, ⟨hw, hlt⟩, ?_⟩
      rintro y rfl
      simp only [Bool.true_and]
      refine cnd2 (fun h => ?_) (fun h => ?_)
      · have : tgsOk p = false := allN_false hlt (by unfold tgtOk; rw [hc]; simpa using h)
        rw [this]
        exact .rfl
      · exact next (by unfold tgtOk; rw [hc]; simpa using h)
  · have h1 : ¬ (i : Int) < (p.code.length : Int) := by omega
    simp only [h1, decide_false, cond_false]
    have : tgsOk p = true := allN_iff.2 fun j hj => hp j (by omega)
    rw [this]
    exact .rfl
theorem TR4ok : TabOk Try.prog TR4 := mkT2_ok clok_ref1 ⟨sp_rt, trivial⟩ trivial ⟨sk_tgs, trivial⟩ trivial
theorem sk_rpr : SkOk Try.prog (12, rprS) := skOf_ok fun p hw => by
  have hw : p.wf := hw
  have hl := hw.1.2
  refine pureQ mix TR4ok t_ref1_RightProgram (Nat.le_of_ble_eq_true rfl) ?_
  refine Eq.mpr (r_rpr0 p _) ?_
  simp only [g1, g2, g3, g4, g5, g6, g7, allN_true, cond_true, Nat.le_refl, decide_true, pl_eq]
  simp only [bor]
  have e : (decide ((p.code.length : Int) < 1) || decide ((p.code.length : Int) > 2000) || decide (p.size < 0) || decide (p.size > 65536) || decide ((p.data.length : Int) > p.size)) = !decide (1 ≤ p.code.length ∧ p.code.length ≤ 2000 ∧ 0 ≤ p.size ∧ p.size ≤ 65536 ∧ (p.data.length : Int) ≤ p.size) := by
    rw [Bool.eq_iff_iff]
    simp only [Bool.or_eq_true, decide_eq_true_eq, Bool.not_eq_true', decide_eq_false_iff_not]
    omega
  rw [e]
  cases hd : decide (1 ≤ p.code.length ∧ p.code.length ≤ 2000 ∧ 0 ≤ p.size ∧ p.size ≤ 65536 ∧ (p.data.length : Int) ≤ p.size) with
  | false =>
    simp only [Bool.not_false, cond_true]
    unfold rightProg
    rw [hd]
    exact .rfl
  | true =>
    simp only [Bool.not_true, cond_false]
    refine loopQ mix TR4ok (fun i : Nat => ⟨[(3, .int .i64 i), (1, .ptr 0 [] 0)], [(0, some (e_Prog p))], 1⟩) (fun i => i ≤ p.code.length ∧ ∀ j, j < i → rightIns (ix p.code j) = true) (fun i => p.code.length - i) 0 ⟨Nat.zero_le _, fun j hj => by omega⟩ (.of (weakX ⟨rfl, rfl, trivial⟩ ⟨rfl, trivial⟩ (Nat.le_refl _))) ?_
    rintro i ⟨hi, hp⟩
    refine Eq.mpr (r_rpr1 p i _ _) ?_
    by_cases hlt : i < p.code.length
    · have h1 : (i : Int) < (p.code.length : Int) := by omega
      have w1 : IntKind.i64.wrap ((i : Int) + 1) = ((i + 1 : Nat) : Int) := wrap_i64 (by omega) (by omega)
      simp only [g1, g2, g3, g4, g5, g6, g7, allN_true, cond_true, Nat.le_refl, decide_true, pl_eq, h1, w1]
      refine cnd2 (fun h => ?_) (fun h => ?_)
      · have h2 : rightIns (ix p.code i) = false := by simpa using h
        have : rightProg p = false := by
          unfold rightProg
          rw [allN_false hlt h2]
          simp
        rw [this]
        exact .rfl
      · have h2 : rightIns (ix p.code i) = true := by simpa using h
        refine ⟨i + 1, ⟨hlt, fun j hj => ?_⟩, .of (weakX ⟨rfl, rfl, trivial⟩ ⟨rfl, trivial⟩ (Nat.le_refl _)), by omega⟩
        by_cases hji : j = i
        · subst hji; exact h2
        · exact hp j (by omega)
    · have h1 : ¬ (i : Int) < (p.code.length : Int) := by omega
      simp only [h1, decide_false, cond_false]
      refine ⟨p, .rfl, ⟨hw⟩, ?_⟩
      rintro y rfl
      have e2 : rightProg p = tgsOk p := by
        unfold rightProg
        rw [hd, allN_iff.2 fun j hj => hp j (by omega)]
        rfl
      rw [e2]
      cases tgsOk p <;> exact .rfl
end Go.Proofs.Ytmfbaglhmiadjaa

/- Abstract code of the functions of bytes: printed by a program from what the given translation yields. -/
namespace Go.Proofs.Ytmfbaglhmiadjaa
open Go.Ra
def c_bytes_Size : AC := (.seq (.ops [⟨(.some 2), (.mv (.c (.sc (.int .i64 0)))), .none⟩]) (.seq (.seq (.ops [⟨(.some 3), (.mv (.t 0)), .none⟩]) (.block 0 (.seq (.seq (.ops [⟨(.some 5), (.bin .eql (.t 3) (.c (.sc (.int .i64 26)))), .none⟩, ⟨(.some 4), (.mv (.t 5)), .none⟩]) (.cond (.t 4) .skip (.ops [⟨(.some 6), (.bin .eql (.t 3) (.c (.sc (.int .i64 31)))), .none⟩, ⟨(.some 4), (.mv (.t 6)), .none⟩]))) (.cond (.t 4) (.seq (.ops [⟨(.some 2), (.mv (.c (.sc (.int .i64 4)))), .none⟩]) .ret) (.seq (.seq (.ops [⟨(.some 8), (.bin .eql (.t 3) (.c (.sc (.int .i64 27)))), .none⟩, ⟨(.some 7), (.mv (.t 8)), .none⟩]) (.cond (.t 7) .skip (.seq (.ops [⟨(.some 9), (.bin .eql (.t 3) (.c (.sc (.int .i64 28)))), .none⟩, ⟨(.some 7), (.mv (.t 9)), .none⟩]) (.cond (.t 7) .skip (.ops [⟨(.some 10), (.bin .eql (.t 3) (.c (.sc (.int .i64 32)))), .none⟩, ⟨(.some 7), (.mv (.t 10)), .none⟩]))))) (.cond (.t 7) (.seq (.ops [⟨(.some 2), (.mv (.c (.sc (.int .i64 2)))), .none⟩]) .ret) (.seq (.seq (.ops [⟨(.some 12), (.bin .eql (.t 3) (.c (.sc (.int .i64 29)))), .none⟩, ⟨(.some 11), (.mv (.t 12)), .none⟩]) (.cond (.t 11) .skip (.seq (.ops [⟨(.some 13), (.bin .eql (.t 3) (.c (.sc (.int .i64 30)))), .none⟩, ⟨(.some 11), (.mv (.t 13)), .none⟩]) (.cond (.t 11) .skip (.ops [⟨(.some 14), (.bin .eql (.t 3) (.c (.sc (.int .i64 33)))), .none⟩, ⟨(.some 11), (.mv (.t 14)), .none⟩]))))) (.cond (.t 11) (.seq (.ops [⟨(.some 2), (.mv (.c (.sc (.int .i64 1)))), .none⟩]) .ret) .skip)))))))) (.seq (.ops [⟨(.some 2), (.mv (.c (.sc (.int .i64 0)))), .none⟩]) .ret)))
theorem t_bytes_Size : trF Try.prog qq 68 = some (15, [(.tmp 2)], c_bytes_Size) := by kernel_rfl
def c_bytes_Check : AC := (.seq (.ops [⟨(.some 6), (.mv (.c (.sc (.int .i64 0)))), .none⟩]) (.seq (.ops [⟨(.some 8), (.mv (.t 1)), .none⟩, ⟨(.some 9), (.conv .i64 (.t 8)), .none⟩, ⟨(.some 7), (.mv (.t 9)), .none⟩]) (.seq (.block 0 (.seq (.ops [⟨(.some 11), (.mv (.t 0)), .none⟩, ⟨(.some 12), (.bin .geq (.t 11) (.c (.sc (.int .i64 1)))), .none⟩, ⟨(.some 13), (.mv (.t 12)), .none⟩, ⟨(.some 14), (.mv (.t 7)), (.some (13, .true))⟩, ⟨(.some 15), (.mv (.t 0)), (.some (13, .true))⟩, ⟨(.some 16), (.bin .rem (.t 14) (.t 15)), (.some (13, .true))⟩, ⟨(.some 17), (.bin .neq (.t 16) (.c (.sc (.int .i64 0)))), (.some (13, .true))⟩, ⟨(.some 18), (.pick (.t 13) (.t 17) (.c (.sc (.bool .false)))), .none⟩, ⟨(.some 10), (.mv (.t 18)), .none⟩]) (.cond (.t 10) (.seq (.ops [⟨(.some 6), (.mv (.c (.sc (.int .i64 1)))), .none⟩]) .ret) (.seq (.ops [⟨(.some 20), (.mv (.t 0)), .none⟩, ⟨(.some 21), (.bin .gtr (.t 20) (.c (.sc (.int .i64 0)))), .none⟩, ⟨(.some 22), (.mv (.t 21)), .none⟩, ⟨(.some 23), (.mv (.t 0)), (.some (22, .true))⟩, ⟨(.some 24), (.mv (.t 2)), (.some (22, .true))⟩, ⟨(.some 25), (.bin .gtr (.t 23) (.t 24)), (.some (22, .true))⟩, ⟨(.some 26), (.mv (.t 25)), (.some (22, .true))⟩, ⟨(.some 27), (.mv (.t 7)), (.some (26, .false))⟩, ⟨(.some 28), (.mv (.t 2)), (.some (26, .false))⟩, ⟨(.some 29), (.mv (.t 0)), (.some (26, .false))⟩, ⟨(.some 30), (.bin .sub (.t 28) (.t 29)), (.some (26, .false))⟩, ⟨(.some 31), (.bin .gtr (.t 27) (.t 30)), (.some (26, .false))⟩, ⟨(.some 32), (.pick (.t 26) (.c (.sc (.bool .true))) (.t 31)), (.some (22, .true))⟩, ⟨(.some 33), (.pick (.t 22) (.t 32) (.c (.sc (.bool .false)))), .none⟩, ⟨(.some 34), (.mv (.t 33)), .none⟩, ⟨(.some 35), (.mv (.t 0)), (.some (34, .false))⟩, ⟨(.some 36), (.bin .leq (.t 35) (.c (.sc (.int .i64 0)))), (.some (34, .false))⟩, ⟨(.some 37), (.mv (.t 36)), (.some (34, .false))⟩, ⟨(.some 38), (.mv (.t 7)), (.some (37, .true))⟩, ⟨(.some 39), (.mv (.t 0)), (.some (37, .true))⟩, ⟨(.some 40), (.bin .add (.t 38) (.t 39)), (.some (37, .true))⟩, ⟨(.some 41), (.mv (.t 2)), (.some (37, .true))⟩, ⟨(.some 42), (.bin .gtr (.t 40) (.t 41)), (.some (37, .true))⟩, ⟨(.some 43), (.pick (.t 37) (.t 42) (.c (.sc (.bool .false)))), (.some (34, .false))⟩, ⟨(.some 44), (.pick (.t 34) (.c (.sc (.bool .true))) (.t 43)), .none⟩, ⟨(.some 19), (.mv (.t 44)), .none⟩]) (.cond (.t 19) (.seq (.ops [⟨(.some 6), (.mv (.c (.sc (.int .i64 2)))), .none⟩]) .ret) .skip))))) (.seq (.ops [⟨(.some 6), (.mv (.c (.sc (.int .i64 0)))), .none⟩]) .ret))))
theorem t_bytes_Check : trF Try.prog qq 70 = some (45, [(.tmp 6)], c_bytes_Check) := by kernel_rfl
def c_bytes_Load_l1 : AC := (.seq (.ops [⟨(.some 25), (.bin .lss (.t 24) (.t 23)), .none⟩]) (.seq (.cond (.t 25) .skip (.exit 0)) (.seq (.block 1 (.seq (.ops [⟨(.some 26), (.mv (.t 24)), .none⟩, ⟨(.some 9), (.mv (.t 26)), .none⟩]) (.ops [⟨(.some 27), (.mv (.t 8)), .none⟩, ⟨(.some 28), (.mv (.t 0)), .none⟩, ⟨(.some 29), (.mv (.t 2)), .none⟩, ⟨(.some 30), (.conv .i64 (.t 29)), .none⟩, ⟨(.some 31), (.mv (.t 9)), .none⟩, ⟨(.some 32), (.bin .add (.t 30) (.t 31)), .none⟩, ⟨(.some 33), (.iadr .none 1 (.t 28) (.t 32)), .none⟩, ⟨(.some 34), (.load .false 1 (.t 33)), .none⟩, ⟨(.some 35), (.conv .u32 (.t 34)), .none⟩, ⟨(.some 36), (.mv (.t 9)), .none⟩, ⟨(.some 37), (.bin .mul (.c (.sc (.int .i64 8))) (.t 36)), .none⟩, ⟨(.some 38), (.bin .shl (.t 35) (.t 37)), .none⟩, ⟨(.some 39), (.bin .or (.t 27) (.t 38)), .none⟩, ⟨(.some 8), (.mv (.t 39)), .none⟩]))) (.ops [⟨(.some 40), (.bin .add (.t 24) (.c (.sc (.int .i64 1)))), .none⟩, ⟨(.some 24), (.mv (.t 40)), .none⟩]))))
def c_bytes_Load_p1 : AC := (.seq (.ops [⟨(.some 41), (.mv (.t 1)), .none⟩, ⟨(.some 42), (.mv (.t 8)), .none⟩, ⟨(.some 43), (.call 76 [(.t 41), (.t 42)]), .none⟩, ⟨(.some 6), (.mv (.t 43)), .none⟩]) .ret)
def c_bytes_Load : AC := (.seq (.ops [⟨(.some 6), (.mv (.c (.sc (.int .u32 0)))), .none⟩]) (.seq (.ops [⟨(.some 10), (.mv (.t 1)), .none⟩, ⟨(.some 11), (.call 68 [(.t 10)]), .none⟩, ⟨(.some 7), (.mv (.t 11)), .none⟩]) (.seq (.seq (.ops [⟨(.some 12), (.mv (.t 1)), .none⟩, ⟨(.some 13), (.call 75 [(.t 12)]), .none⟩, ⟨(.some 14), (.un .not (.t 13)), .none⟩, ⟨(.some 15), (.mv (.t 14)), .none⟩, ⟨(.some 16), (.mv (.t 7)), (.some (15, .false))⟩, ⟨(.some 17), (.mv (.t 2)), (.some (15, .false))⟩, ⟨(.some 18), (.mv (.t 0)), (.some (15, .false))⟩, ⟨(.some 19), (.len .none (.t 18)), (.some (15, .false))⟩, ⟨(.some 20), (.call 70 [(.t 16), (.t 17), (.t 19)]), (.some (15, .false))⟩, ⟨(.some 21), (.bin .neq (.t 20) (.c (.sc (.int .i64 0)))), (.some (15, .false))⟩, ⟨(.some 22), (.pick (.t 15) (.c (.sc (.bool .true))) (.t 21)), .none⟩]) (.cond (.t 22) (.seq (.ops [⟨(.some 6), (.mv (.c (.sc (.int .u32 0)))), .none⟩]) .ret) .skip)) (.seq (.ops [⟨(.some 8), (.mv (.c (.sc (.int .u32 0)))), .none⟩]) (.seq (.seq (.ops [⟨(.some 23), (.mv (.t 7)), .none⟩, ⟨(.some 24), (.mv (.c (.sc (.int .i64 0)))), .none⟩]) (.block 0 (.loop c_bytes_Load_l1))) c_bytes_Load_p1)))))
theorem t_bytes_Load : trF Try.prog qq 71 = some (44, [(.tmp 6)], c_bytes_Load) := by kernel_rfl
def c_bytes_Write_l1 : AC := (.seq (.ops [⟨(.some 42), (.bin .lss (.t 41) (.t 40)), .none⟩]) (.seq (.cond (.t 42) .skip (.exit 0)) (.seq (.block 1 (.seq (.ops [⟨(.some 43), (.mv (.t 41)), .none⟩, ⟨(.some 4), (.mv (.t 43)), .none⟩]) (.ops [⟨(.some 44), (.mv (.t 0)), .none⟩, ⟨(.some 45), (.fadr 0 0 1 (.t 3)), .none⟩, ⟨(.some 46), (.load .false 1 (.t 45)), .none⟩, ⟨(.some 47), (.mv (.t 4)), .none⟩, ⟨(.some 48), (.bin .add (.t 46) (.t 47)), .none⟩, ⟨(.some 49), (.fadr 2 2 1 (.t 3)), .none⟩, ⟨(.some 50), (.load .false 1 (.t 49)), .none⟩, ⟨(.some 51), (.mv (.t 4)), .none⟩, ⟨(.some 52), (.bin .mul (.c (.sc (.int .i64 8))) (.t 51)), .none⟩, ⟨(.some 53), (.bin .shr (.t 50) (.t 52)), .none⟩, ⟨(.some 54), (.conv .u8 (.t 53)), .none⟩, ⟨(.some 55), (.iadr .none 1 (.t 44) (.t 48)), .none⟩, ⟨.none, (.store 1 (.t 55) (.t 54)), .none⟩]))) (.ops [⟨(.some 56), (.bin .add (.t 41) (.c (.sc (.int .i64 1)))), .none⟩, ⟨(.some 41), (.mv (.t 56)), .none⟩]))))
def c_bytes_Write : AC := (.seq (.ops [⟨(.some 3), (.box (.t 1)), .none⟩]) (.seq (.seq (.ops [⟨(.some 5), (.fadr 1 1 1 (.t 3)), .none⟩, ⟨(.some 6), (.load .false 1 (.t 5)), .none⟩, ⟨(.some 7), (.bin .neq (.t 6) (.c (.sc (.int .i64 1)))), .none⟩, ⟨(.some 8), (.mv (.t 7)), .none⟩, ⟨(.some 9), (.fadr 1 1 1 (.t 3)), (.some (8, .true))⟩, ⟨(.some 10), (.load .false 1 (.t 9)), (.some (8, .true))⟩, ⟨(.some 11), (.bin .neq (.t 10) (.c (.sc (.int .i64 2)))), (.some (8, .true))⟩, ⟨(.some 12), (.pick (.t 8) (.t 11) (.c (.sc (.bool .false)))), .none⟩, ⟨(.some 13), (.mv (.t 12)), .none⟩, ⟨(.some 14), (.fadr 1 1 1 (.t 3)), (.some (13, .true))⟩, ⟨(.some 15), (.load .false 1 (.t 14)), (.some (13, .true))⟩, ⟨(.some 16), (.bin .neq (.t 15) (.c (.sc (.int .i64 4)))), (.some (13, .true))⟩, ⟨(.some 17), (.pick (.t 13) (.t 16) (.c (.sc (.bool .false)))), .none⟩, ⟨(.some 18), (.mv (.t 17)), .none⟩, ⟨(.some 19), (.fadr 0 0 1 (.t 3)), (.some (18, .false))⟩, ⟨(.some 20), (.load .false 1 (.t 19)), (.some (18, .false))⟩, ⟨(.some 21), (.bin .lss (.t 20) (.c (.sc (.int .i64 0)))), (.some (18, .false))⟩, ⟨(.some 22), (.pick (.t 18) (.c (.sc (.bool .true))) (.t 21)), .none⟩, ⟨(.some 23), (.mv (.t 22)), .none⟩, ⟨(.some 24), (.fadr 0 0 1 (.t 3)), (.some (23, .false))⟩, ⟨(.some 25), (.load .false 1 (.t 24)), (.some (23, .false))⟩, ⟨(.some 26), (.bin .gtr (.t 25) (.c (.sc (.int .i64 4294967295)))), (.some (23, .false))⟩, ⟨(.some 27), (.pick (.t 23) (.c (.sc (.bool .true))) (.t 26)), .none⟩, ⟨(.some 28), (.mv (.t 27)), .none⟩, ⟨(.some 29), (.fadr 1 1 1 (.t 3)), (.some (28, .false))⟩, ⟨(.some 30), (.load .false 1 (.t 29)), (.some (28, .false))⟩, ⟨(.some 31), (.fadr 0 0 1 (.t 3)), (.some (28, .false))⟩, ⟨(.some 32), (.load .false 1 (.t 31)), (.some (28, .false))⟩, ⟨(.some 33), (.conv .u32 (.t 32)), (.some (28, .false))⟩, ⟨(.some 34), (.mv (.t 0)), (.some (28, .false))⟩, ⟨(.some 35), (.len .none (.t 34)), (.some (28, .false))⟩, ⟨(.some 36), (.call 70 [(.t 30), (.t 33), (.t 35)]), (.some (28, .false))⟩, ⟨(.some 37), (.bin .neq (.t 36) (.c (.sc (.int .i64 0)))), (.some (28, .false))⟩, ⟨(.some 38), (.pick (.t 28) (.c (.sc (.bool .true))) (.t 37)), .none⟩]) (.cond (.t 38) .ret .skip)) (.seq (.ops [⟨(.some 39), (.fadr 1 1 1 (.t 3)), .none⟩, ⟨(.some 40), (.load .false 1 (.t 39)), .none⟩, ⟨(.some 41), (.mv (.c (.sc (.int .i64 0)))), .none⟩]) (.block 0 (.loop c_bytes_Write_l1)))))
theorem t_bytes_Write : trF Try.prog qq 72 = some (57, [], c_bytes_Write) := by kernel_rfl
def c_bytes_loads : AC := (.seq (.ops [⟨(.some 2), (.mv (.c (.sc (.bool .false)))), .none⟩]) (.seq (.ops [⟨(.some 3), (.mv (.t 0)), .none⟩, ⟨(.some 4), (.bin .geq (.t 3) (.c (.sc (.int .i64 26)))), .none⟩, ⟨(.some 5), (.mv (.t 4)), .none⟩, ⟨(.some 6), (.mv (.t 0)), (.some (5, .true))⟩, ⟨(.some 7), (.bin .leq (.t 6) (.c (.sc (.int .i64 30)))), (.some (5, .true))⟩, ⟨(.some 8), (.pick (.t 5) (.t 7) (.c (.sc (.bool .false)))), .none⟩, ⟨(.some 2), (.mv (.t 8)), .none⟩]) .ret))
theorem t_bytes_loads : trF Try.prog qq 75 = some (9, [(.tmp 2)], c_bytes_loads) := by kernel_rfl
def c_bytes_Sign : AC := (.seq (.ops [⟨(.some 4), (.mv (.c (.sc (.int .u32 0)))), .none⟩]) (.seq (.seq (.ops [⟨(.some 5), (.mv (.t 0)), .none⟩]) (.block 0 (.seq (.ops [⟨(.some 7), (.bin .eql (.t 5) (.c (.sc (.int .i64 27)))), .none⟩, ⟨(.some 6), (.mv (.t 7)), .none⟩]) (.cond (.t 6) (.seq (.ops [⟨(.some 8), (.mv (.t 1)), .none⟩, ⟨(.some 9), (.conv .i16 (.t 8)), .none⟩, ⟨(.some 10), (.conv .i32 (.t 9)), .none⟩, ⟨(.some 11), (.conv .u32 (.t 10)), .none⟩, ⟨(.some 4), (.mv (.t 11)), .none⟩]) .ret) (.seq (.ops [⟨(.some 13), (.bin .eql (.t 5) (.c (.sc (.int .i64 29)))), .none⟩, ⟨(.some 12), (.mv (.t 13)), .none⟩]) (.cond (.t 12) (.seq (.ops [⟨(.some 14), (.mv (.t 1)), .none⟩, ⟨(.some 15), (.conv .i8 (.t 14)), .none⟩, ⟨(.some 16), (.conv .i32 (.t 15)), .none⟩, ⟨(.some 17), (.conv .u32 (.t 16)), .none⟩, ⟨(.some 4), (.mv (.t 17)), .none⟩]) .ret) .skip)))))) (.seq (.ops [⟨(.some 18), (.mv (.t 1)), .none⟩, ⟨(.some 4), (.mv (.t 18)), .none⟩]) .ret)))
theorem t_bytes_Sign : trF Try.prog qq 76 = some (19, [(.tmp 4)], c_bytes_Sign) := by kernel_rfl
/-- The functions of bytes. -/
def cl_bytes : CodeL := [(68, 15, [(.tmp 2)], c_bytes_Size), (70, 45, [(.tmp 6)], c_bytes_Check), (71, 44, [(.tmp 6)], c_bytes_Load), (72, 57, [], c_bytes_Write), (75, 9, [(.tmp 2)], c_bytes_loads), (76, 19, [(.tmp 4)], c_bytes_Sign)]
theorem clok_bytes : AllL (fun p => trF Try.prog qq p.1 = some p.2) cl_bytes := ⟨t_bytes_Size, t_bytes_Check, t_bytes_Load, t_bytes_Write, t_bytes_loads, t_bytes_Sign, trivial⟩
end Go.Proofs.Ytmfbaglhmiadjaa

/- Abstract code of the functions of slices: printed by a program from what the given translation yields. -/
namespace Go.Proofs.Ytmfbaglhmiadjaa
open Go.Ra
def c_slices_Clone_byte_byte : AC := cloneC 1 1
theorem t_slices_Clone_byte_byte : trF Try.prog qq 31 = some (8, [(.tmp 2)], c_slices_Clone_byte_byte) := by kernel_rfl
def c_slices_Clone_Write_Write : AC := cloneC 3 24
theorem t_slices_Clone_Write_Write : trF Try.prog qq 32 = some (8, [(.tmp 2)], c_slices_Clone_Write_Write) := by kernel_rfl
def c_slices_ContainsFunc_Ins_Ins : AC := (.seq (.ops [⟨(.some 4), (.mv (.c (.sc (.bool .false)))), .none⟩]) (.seq (.ops [⟨(.some 5), (.mv (.t 0)), .none⟩, ⟨(.some 6), (.mv (.t 1)), .none⟩, ⟨(.some 7), (.call 66 [(.t 5), (.t 6)]), .none⟩, ⟨(.some 8), (.bin .geq (.t 7) (.c (.sc (.int .i64 0)))), .none⟩, ⟨(.some 4), (.mv (.t 8)), .none⟩]) .ret))
theorem t_slices_ContainsFunc_Ins_Ins : trF Try.prog qq 48 = some (9, [(.tmp 4)], c_slices_ContainsFunc_Ins_Ins) := by kernel_rfl
def c_slices_IndexFunc_Ins_Ins_l1 : AC := (.seq (.ops [⟨(.some 9), (.bin .lss (.t 8) (.t 7)), .none⟩]) (.seq (.cond (.t 9) .skip (.exit 0)) (.seq (.block 1 (.seq (.ops [⟨(.some 10), (.mv (.t 8)), .none⟩, ⟨(.some 5), (.mv (.t 10)), .none⟩]) (.seq (.ops [⟨(.some 11), (.mv (.t 1)), .none⟩, ⟨(.some 12), (.mv (.t 0)), .none⟩, ⟨(.some 13), (.mv (.t 5)), .none⟩, ⟨(.some 14), (.iadr .none 5 (.t 12) (.t 13)), .none⟩, ⟨(.some 15), (.load .true 5 (.t 14)), .none⟩, ⟨(.some 16), (.callv (.t 11) [(.t 15)]), .none⟩]) (.cond (.t 16) (.seq (.ops [⟨(.some 17), (.mv (.t 5)), .none⟩, ⟨(.some 4), (.mv (.t 17)), .none⟩]) .ret) .skip)))) (.ops [⟨(.some 18), (.bin .add (.t 8) (.c (.sc (.int .i64 1)))), .none⟩, ⟨(.some 8), (.mv (.t 18)), .none⟩]))))
def c_slices_IndexFunc_Ins_Ins_p1 : AC := (.seq (.ops [⟨(.some 4), (.mv (.c (.sc (.int .i64 (-1))))), .none⟩]) .ret)
def c_slices_IndexFunc_Ins_Ins : AC := (.seq (.ops [⟨(.some 4), (.mv (.c (.sc (.int .i64 0)))), .none⟩]) (.seq (.seq (.ops [⟨(.some 6), (.mv (.t 0)), .none⟩, ⟨(.some 7), (.len .none (.t 6)), .none⟩, ⟨(.some 8), (.mv (.c (.sc (.int .i64 0)))), .none⟩]) (.block 0 (.loop c_slices_IndexFunc_Ins_Ins_l1))) c_slices_IndexFunc_Ins_Ins_p1))
theorem t_slices_IndexFunc_Ins_Ins : trF Try.prog qq 66 = some (19, [(.tmp 4)], c_slices_IndexFunc_Ins_Ins) := by kernel_rfl
/-- The functions of slices. -/
def cl_slices : CodeL := [(31, 8, [(.tmp 2)], c_slices_Clone_byte_byte), (32, 8, [(.tmp 2)], c_slices_Clone_Write_Write), (48, 9, [(.tmp 4)], c_slices_ContainsFunc_Ins_Ins), (66, 19, [(.tmp 4)], c_slices_IndexFunc_Ins_Ins)]
theorem clok_slices : AllL (fun p => trF Try.prog qq p.1 = some p.2) cl_slices := ⟨t_slices_Clone_byte_byte, t_slices_Clone_Write_Write, t_slices_ContainsFunc_Ins_Ins, t_slices_IndexFunc_Ins_Ins, trivial⟩
/-- What is told of those that only make memory. -/
def gl_slices : SgL := [(31, makeS 1 1), (32, makeS 3 24)]
theorem glok_slices : AllL (SgOk Try.prog qq) gl_slices := ⟨makeS_ok fun x es0 ts h1 h2 h3 => makes_clone mix t_slices_Clone_byte_byte (by decide) x es0 ts h1 h2 h3, makeS_ok fun x es0 ts h1 h2 h3 => makes_clone mix t_slices_Clone_Write_Write (by decide) x es0 ts h1 h2 h3, trivial⟩
end Go.Proofs.Ytmfbaglhmiadjaa

