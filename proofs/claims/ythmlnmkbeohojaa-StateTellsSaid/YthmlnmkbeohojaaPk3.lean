/- Texts put together. -/
import Derived.KernelRfl
import GoSem.ClaimJoined
import Derived.ProofKit
import Derived.OpenShut
import Derived.WideShapes
import Derived.Carry
import Derived.ChangeOld
import Derived.SizedLaws
import Derived.Test.YthmlnmkbeohojaaProg
import Derived.Test.YthmlnmkbeohojaaPk2
/- The evaluation is sound. -/
namespace Go.Ra
set_option linter.unusedVariables false
set_option linter.unusedSimpArgs false

structure TabOk (P : Program) (T : Tab) : Prop where
  codes : ∀ f r, T.codes f = some r → trF P T.q f = some r
  sp : ∀ f args nd v, T.sp f args = some (nd, v) → allT nd → Pure P f (cons args) (con v)
  sg : ∀ f args σ nd v τ, T.sg f args σ = some (nd, v, τ) → allT nd → T.q f = false → Ok P T.q f (cons args) σ.st (con v) τ.st
  sk : ∀ f args W, T.sk f args = some W → ∀ K : XV → Prop, W K → ∃ v, Pure P f (cons args) (con v) ∧ K v
  gk : ∀ f args σ W, T.gk f args σ = some W → T.q f = false → ∀ K : XV → XSt → Prop, W K → ∃ v τ, Ok P T.q f (cons args) σ.st (con v) τ.st ∧ K v τ

section
variable {P : Program} {T : Tab}
abbrev CiOk (P : Program) (q : Nat → Bool) (ci : Nat → List XV → XSt → (XV → XSt → Prop) → Prop) : Prop :=
  ∀ f args σ K, ci f args σ K → ∃ v τ, Ok P q f (cons args) σ.st (con v) τ.st ∧ K v τ

theorem wpOps_eff {C : Orc} {d : Option Nat} {o : AOp} {r : List AG} {s t : St} {v : AV} {K : St → Prop} (h : stepE o s = some (v, t)) (hK : wpOps C r (t.put d v) K) : wpOps C (⟨d, o, none⟩ :: r) s K := by
  unfold wpOps
  simp only
  split
  · simp [stepE] at h
  · simp [stepE] at h
  · simp [stepE] at h
  · rw [h]; exact hK

theorem args_con {e : AX → XV} {σ : St} (he : ∀ x, σ.ev x = con (e x)) : ∀ {l : List AX}, allT (theres e l) → l.map σ.ev = cons (l.map fun x => strip (e x))
  | [], h => rfl
  | x :: l, h => by
    simp only [theres, allT_app] at h
    simp only [List.map_cons, cons, he x, strip_con h.1, args_con he h.2]

variable {ci : Nat → List XV → XSt → (XV → XSt → Prop) → Prop}

theorem stepW_env {σ τ : XSt} {e : AX → XV} {o : AOp} {nd : List Bool} {v : XV} (h : stepW σ e o = some (nd, v, τ)) : τ = σ.back τ := by
  cases o <;> simp only [stepW, reduceCtorEq] at h
  case box x =>
    cases hc : (e x).stor <;> rw [hc] at h
    · cases h
    · simp only [cond_true, Option.some.injEq, Prod.mk.injEq] at h
      obtain ⟨_, _, rfl⟩ := h; rfl
  case store n x w =>
    repeat' split at h
    all_goals first | (cases h; done) | skip
    rename_i u _ _ _ _ _
    revert h
    generalize (Nat.beq _ n && _ && _) = c
    intro h
    cases c
    · cases h
    · simp only [cond_true, Option.some.injEq, Prod.mk.injEq] at h
      obtain ⟨_, _, rfl⟩ := h; rfl
  case mks es bytes zero len =>
    split at h
    · cases hc : Nat.blt 0 bytes <;> rw [hc] at h
      · cases h
      · simp only [cond_true, Option.some.injEq, Prod.mk.injEq] at h
        obtain ⟨_, _, rfl⟩ := h; rfl
    · cases h
  case app es bytes y x =>
    repeat' split at h
    all_goals first | (cases h; done) | skip
    all_goals
      revert h
      generalize (_ && Nat.blt 0 bytes) = c
      intro h
      cases c
      · cases h
      · simp only [cond_true, Option.some.injEq, Prod.mk.injEq] at h
        obtain ⟨_, _, rfl⟩ := h; rfl
  case copy es x y =>
    repeat' split at h
    all_goals first | (cases h; done) | skip
    revert h
    generalize (_ && _ && _ && _) = c
    intro h
    cases c
    · cases h
    · simp only [cond_true, Option.some.injEq, Prod.mk.injEq] at h
      obtain ⟨_, _, rfl⟩ := h; rfl

theorem exOne_ok (hT : TabOk P T) (hci : CiOk P T.q ci) {d : Option Nat} {o : AOp} {σ : XSt} {K : XSt → Prop} (h : exOne T ci d o σ K) : ∃ σ', K σ' ∧ (∃ v τ, σ' = (σ.back τ).put d v) ∧ ∀ r Φ, wpOps (Ok P T.q) r σ'.st Φ → wpOps (Ok P T.q) (⟨d, o, none⟩ :: r) σ.st Φ := by
  unfold exOne at h
  split at h
  · rename_i c a b
    split at h
    · rename_i nd v hp
      rw [need_iff] at h
      exact ⟨_, h.2, ⟨v, σ, rfl⟩, fun r Φ hr => wpOps_eff (pickX_con (st_ev σ) hp h.1) (by rw [← put_st]; exact hr)⟩
    · cases h
  · rename_i f args
    rw [need_iff] at h
    obtain ⟨v, τ, h1, h2⟩ := hci _ _ _ _ h.2
    refine ⟨_, h2, ⟨v, τ, rfl⟩, fun r Φ hr => ?_⟩
    refine ⟨con v, τ.st, ?_, by rw [← back_st, ← put_st]; exact hr⟩
    rw [args_con (st_ev σ) h.1]
    exact h1
  · rename_i x args
    split at h
    · rename_i f caps hx
      cases hqf : T.q f <;> rw [hqf] at h
      · exact h.elim
      rw [cond_true, need_iff] at h
      simp only [theres, allT_app] at h
      obtain ⟨v, τ, h1, h2⟩ := hci _ _ _ _ h.2
      have hsame := Ok.quiet.1 _ _ _ _ _ h1 hqf
      refine ⟨_, h2, ⟨v, τ, rfl⟩, fun r Φ hr => ?_⟩
      have hx2 : σ.st.ev x = .clo f (cons caps) := by rw [st_ev, strip_con h.1.1, hx]; rfl
      unfold wpOps
      simp only [hx2]
      refine ⟨con v, τ.st, ?_, hsame, by rw [← back_st, ← put_st]; exact hr⟩
      rw [args_con (st_ev σ) h.1.2]
      rw [cons_map, List.map_append, ← cons_map, ← cons_map] at h1
      exact h1
    · cases h
  · rename_i f args
    cases hid : XV.idfs (args.map fun x => strip (σ.ev x)) <;> rw [hid] at h
    · exact h.elim
    rw [cond_true, need_iff] at h
    obtain ⟨ht, h⟩ := h
    have key : ∀ v, Pure P f (cons (args.map fun x => strip (σ.ev x))) (con v) → K (σ.put d v) → ∃ σ', K σ' ∧ (∃ v τ, σ' = (σ.back τ).put d v) ∧ ∀ r Φ, wpOps (Ok P T.q) r σ'.st Φ → wpOps (Ok P T.q) (⟨d, .callq f args, none⟩ :: r) σ.st Φ := fun v hp hk => by
      refine ⟨_, hk, ⟨v, σ, rfl⟩, fun r Φ hr => ⟨con v, fun σ' => ?_, by rw [← put_st]; exact hr⟩⟩
      rw [args_con (st_ev σ) ht]
      exact .inl ⟨rfl, by rw [cons_idf]; exact hid, hp⟩
    split at h
    · rename_i nd v hs
      rw [need_iff] at h
      exact key v (hT.sp _ _ _ _ hs h.1) h.2
    · split at h
      · rename_i W hs
        obtain ⟨v, h1, h2⟩ := hT.sk _ _ _ hs _ h
        exact key v h1 h2
      · exact h.elim
  · have he : allT (theres σ.ev (opnds o)) → ∀ x ∈ opnds o, σ.st.ev x = con (strip (σ.ev x)) := fun ht x hx => by
      rw [st_ev]; exact theres_spec ht x hx
    split at h
    · rename_i nd v hs
      rw [need_iff, need_iff] at h
      exact ⟨_, h.2.2, ⟨v, σ, rfl⟩, fun r Φ hr => wpOps_eff (stepR_con (st_H σ) (he h.1) hs h.2.1) (by rw [← put_st]; exact hr)⟩
    · split at h
      · rename_i nd v τ hs
        rw [need_iff, need_iff] at h
        exact ⟨_, h.2.2, ⟨v, τ, by rw [← stepW_env hs]⟩, fun r Φ hr => wpOps_eff (stepW_con rfl (he h.1) hs h.2.1) (by rw [← put_st]; exact hr)⟩
      · cases h

theorem oneR_ok (hT : TabOk P T) {σ : XSt} {o : AOp} {nd : List Bool} {v : XV} {d : Option Nat} (h : oneR T σ.hl (evE σ.env) o = some (nd, v)) (hn : allT nd) {r : List AG} {Φ : St → Prop} (hr : wpOps (Ok P T.q) r (σ.put d v).st Φ) : wpOps (Ok P T.q) (⟨d, o, none⟩ :: r) σ.st Φ := by
  have hev : evE σ.env = σ.ev := by funext x; cases x <;> rfl
  rw [hev] at h
  rw [put_st] at hr
  unfold oneR at h
  split at h
  · exact wpOps_eff (pickX_con (st_ev σ) h hn) hr
  · rename_i f args
    cases hc : (T.q f && XV.idfs (args.map fun x => strip (σ.ev x))) <;> rw [hc] at h
    · cases h
    · rw [cond_true] at h
      split at h
      · rename_i nd' v' hs
        simp only [Option.some.injEq, Prod.mk.injEq] at h
        obtain ⟨rfl, rfl⟩ := h
        rw [allT_app] at hn
        simp only [Bool.and_eq_true] at hc
        have ha := args_con (st_ev σ) hn.1
        exact call_pure (by rw [ha]; exact hT.sp _ _ _ _ hs hn.2) (by rw [ha, cons_idf]; exact hc.2) hr
      · cases h
  · split at h
    · rename_i nd' v' hs
      simp only [Option.some.injEq, Prod.mk.injEq] at h
      obtain ⟨rfl, rfl⟩ := h
      rw [allT_app] at hn
      refine wpOps_eff (stepR_con (st_H σ) (fun x hx => ?_) hs hn.2) hr
      rw [st_ev]; exact theres_spec hn.1 x hx
    · cases h

theorem put_is {σ : XSt} {d : Option Nat} {v : XV} : σ.put d v = ⟨putE d v σ.env, σ.hl, σ.n⟩ := by cases d <;> rfl

theorem guard_run {C : Orc} {d : Option Nat} {o : AOp} {t : Nat} {b : Bool} {r : List AG} {s : St} {Φ : St → Prop} (hg : get s.env t = .sc (.bool b)) (h : wpOps C (⟨d, o, none⟩ :: r) s Φ) : wpOps C (⟨d, o, some (t, b)⟩ :: r) s Φ := by
  rw [wpOps_guard, hg]
  exact ⟨fun _ => h, fun e => absurd rfl e⟩
theorem guard_skip {C : Orc} {d : Option Nat} {o : AOp} {t : Nat} {b : Bool} {r : List AG} {s : St} {Φ : St → Prop} (hg : get s.env t = .sc (.bool (!b)) ∨ get s.env t = .tup []) (h : wpOps C r (s.put d (.tup [])) Φ) : wpOps C (⟨d, o, some (t, b)⟩ :: r) s Φ := by
  rw [wpOps_guard]
  rcases hg with hg | hg
  · rw [hg]
    refine ⟨fun e => ?_, fun _ => h⟩
    cases b <;> cases e
  · rw [hg]; exact h

theorem run_true (hT : TabOk P T) {t : Nat} {b : Bool} {H : List (Nat × Option XV)} {n : Nat} {r : List AG} {Φ : St → Prop} : ∀ (l : List (Option Nat × AOp)) (env env' : List (Nat × XV)) (nd : List Bool), runX T H l env = some (nd, env') → allT nd → okRun t l = true →
    get (conE env) t = .sc (.bool b) → wpOps (Ok P T.q) r (XSt.st ⟨env', H, n⟩) Φ → wpOps (Ok P T.q) (ungR t b l r) (XSt.st ⟨env, H, n⟩) Φ
  | [], env, env', nd, h, hn, hok, hg, hr => by
    simp only [runX, Option.some.injEq, Prod.mk.injEq] at h
    obtain ⟨_, rfl⟩ := h
    exact hr
  | (d, o) :: l, env, env', nd, h, hn, hok, hg, hr => by
    simp only [runX] at h
    split at h
    · rename_i nd1 v h1
      split at h
      · rename_i nd2 env2 h2
        simp only [Option.some.injEq, Prod.mk.injEq] at h
        obtain ⟨rfl, rfl⟩ := h
        rw [allT_app] at hn
        refine guard_run hg (oneR_ok (σ := ⟨env, H, n⟩) hT h1 hn.1 ?_)
        rw [put_is]
        cases l with
        | nil =>
          simp only [runX, Option.some.injEq, Prod.mk.injEq] at h2
          obtain ⟨_, rfl⟩ := h2
          exact hr
        | cons x l =>
          simp only [okRun, Bool.and_eq_true, Bool.not_eq_true'] at hok
          refine run_true hT (x :: l) (putE d v env) env2 nd2 h2 hn.2 hok.2 ?_ hr
          rw [get_conE] at hg ⊢
          cases d with
          | none => exact hg
          | some d =>
            have : ¬ t = d := fun e => by have := hok.1; rw [e] at this; simp [isD] at this
            show con (getX ((d, v) :: env) t) = _
            simp only [getX, beq_if, if_neg this]
            exact hg
      · cases h
    · cases h

theorem run_skip {C : Orc} {t : Nat} {b : Bool} {H : List (Nat × Option XV)} {n : Nat} {r : List AG} {Φ : St → Prop} : ∀ (l : List (Option Nat × AOp)) (env : List (Nat × XV)), (get (conE env) t = .sc (.bool (!b)) ∨ get (conE env) t = .tup []) →
    wpOps C r (XSt.st ⟨skips l env, H, n⟩) Φ → wpOps C (ungR t b l r) (XSt.st ⟨env, H, n⟩) Φ
  | [], env, hg, h => h
  | (d, o) :: l, env, hg, h => by
    refine guard_skip (s := XSt.st ⟨env, H, n⟩) hg ?_
    have : (XSt.st ⟨env, H, n⟩).put d (.tup []) = XSt.st ⟨putE d (.tup []) env, H, n⟩ := by cases d <;> rfl
    rw [this]
    refine run_skip l _ ?_ h
    cases d with
    | none => exact hg
    | some d =>
      show get (conE ((d, .tup []) :: env)) t = _ ∨ get (conE ((d, .tup []) :: env)) t = _
      rw [get_conE]
      simp only [getX, beq_if]
      split
      · exact .inr rfl
      · rw [← get_conE]; exact hg

theorem runX_keys {H : List (Nat × Option XV)} : ∀ (l : List (Option Nat × AOp)) (env env' : List (Nat × XV)) (nd : List Bool), runX T H l env = some (nd, env') → ∃ dl, env' = dl ++ env ∧ dl.length = cntR l ∧ conE (skips l env) = (dl.map fun p => (p.1, AV.tup [])) ++ conE env
  | [], env, env', nd, h => by
    simp only [runX, Option.some.injEq, Prod.mk.injEq] at h
    obtain ⟨_, rfl⟩ := h
    exact ⟨[], rfl, rfl, rfl⟩
  | (d, o) :: l, env, env', nd, h => by
    simp only [runX] at h
    split at h
    · rename_i nd1 v h1
      split at h
      · rename_i nd2 env2 h2
        simp only [Option.some.injEq, Prod.mk.injEq] at h
        obtain ⟨rfl, rfl⟩ := h
        obtain ⟨dl, h3, h4, h5⟩ := runX_keys l _ _ _ h2
        cases d with
        | none =>
          refine ⟨dl, h3, h4, ?_⟩
          -- the names are the same whatever the values
          exact h5
        | some d =>
          refine ⟨dl ++ [(d, v)], by rw [h3]; simp [putE], by simp [cntR, h4], ?_⟩
          show conE (skips l ((d, .tup []) :: env)) = _
          have key : ∀ (l : List (Option Nat × AOp)) (e1 e2 : List (Nat × XV)) (x : List (Nat × AV)), conE (skips l e1) = x ++ conE e1 → conE (skips l e2) = x ++ conE e2 := by
            intro l
            induction l with
            | nil =>
              intro e1 e2 x hx
              have : x = [] := by
                have := congrArg List.length hx
                simp only [skips, List.length_append] at this
                exact List.eq_nil_of_length_eq_zero (by omega)
              subst this; rfl
            | cons p l ih =>
              intro e1 e2 x hx
              obtain ⟨d', o'⟩ := p
              cases d' with
              | none => exact ih e1 e2 x hx
              | some d' =>
                -- peel the last name
                have hlen : ∀ (l : List (Option Nat × AOp)) (e : List (Nat × XV)), ∃ y, conE (skips l e) = y ++ conE e := by
                  intro l
                  induction l with
                  | nil => exact fun e => ⟨[], rfl⟩
                  | cons p l ih =>
                    intro e
                    obtain ⟨d'', o''⟩ := p
                    obtain ⟨y, hy⟩ := ih (putE d'' (.tup []) e)
                    cases d'' with
                    | none => exact ⟨y, hy⟩
                    | some d'' => exact ⟨y ++ [(d'', .tup [])], by show conE (skips l _) = _; rw [hy]; simp [putE, conE, con, cons]⟩
                obtain ⟨y, hy⟩ := hlen l ((d', .tup []) :: e1)
                have hx' : x = y ++ [(d', .tup [])] := by
                  have h6 : conE (skips l ((d', .tup []) :: e1)) = x ++ conE e1 := hx
                  rw [hy] at h6
                  have h7 : y ++ ((d', AV.tup []) :: conE e1) = x ++ conE e1 := h6
                  have h8 : (y ++ [(d', AV.tup [])]) ++ conE e1 = x ++ conE e1 := by simpa using h7
                  exact (List.append_cancel_right h8).symm
                have := ih _ ((d', .tup []) :: e2) y hy
                show conE (skips l ((d', .tup []) :: e2)) = _
                rw [this, hx']
                simp [conE, con, cons]
          have := key l _ ((d, .tup []) :: env) _ h5
          rw [this]
          simp [conE, con, cons]
      · cases h
    · cases h

theorem wrap_true : ∀ (k : Nat) (env : List (Nat × XV)), conE (wrap true k env) = conE env
  | 0, env => by cases env <;> rfl
  | k + 1, [] => rfl
  | k + 1, (i, v) :: l => by
    have := wrap_true k l
    simp only [conE] at this
    simp only [wrap, conE, List.map_cons, con, cond_true, this]
theorem wrap_false : ∀ (dl env : List (Nat × XV)), conE (wrap false dl.length (dl ++ env)) = (dl.map fun p => (p.1, AV.tup [])) ++ conE env
  | [], env => by cases env <;> rfl
  | (i, v) :: l, env => by
    have := wrap_false l env
    simp only [conE] at this
    simp only [List.cons_append, List.length_cons, wrap, conE, List.map_cons, con, cond_false, this]

theorem exRun_ok (hT : TabOk P T) (hci : CiOk P T.q ci) {t : Nat} {b : Bool} : ∀ (l : List (Option Nat × AOp)) (σ : XSt) (K : XSt → Prop), exRun T ci l σ K → okRun t l = true → get (conE σ.env) t = .sc (.bool b) → ∃ σ', K σ' ∧ ∀ r Φ, wpOps (Ok P T.q) r σ'.st Φ → wpOps (Ok P T.q) (ungR t b l r) σ.st Φ
  | [], σ, K, h, hok, hg => ⟨σ, h, fun r Φ hr => hr⟩
  | (d, o) :: l, σ, K, h, hok, hg => by
    simp only [exRun] at h
    obtain ⟨σ1, h1, ⟨v, τ, h2⟩, h3⟩ := exOne_ok hT hci h
    cases l with
    | nil => exact ⟨σ1, h1, fun r Φ hr => guard_run hg (h3 r Φ hr)⟩
    | cons x l =>
      simp only [okRun, Bool.and_eq_true, Bool.not_eq_true'] at hok
      obtain ⟨σ', h4, h5⟩ := exRun_ok hT hci (x :: l) σ1 K h1 hok.2 (by
        rw [h2, put_is, get_conE] at *
        cases d with
        | none => exact hg
        | some d =>
          have : ¬ t = d := fun e => by have := hok.1; rw [e] at this; simp [isD] at this
          show con (getX ((d, v) :: σ.env) t) = _
          simp only [getX, beq_if, if_neg this]
          exact hg)
      exact ⟨σ', h4, fun r Φ hr => guard_run hg (h3 _ Φ (h5 r Φ hr))⟩

theorem guardX_true {v : XV} {b : Bool} (h : guardX v b = some true) : con v = .sc (.bool b) := by
  unfold guardX at h
  split at h <;> simp only [Option.some.injEq, reduceCtorEq] at h
  · rename_i c
    cases b <;> cases c <;> first | rfl | cases h
  · rename_i g c
    cases g <;> cases b <;> cases c <;> first | rfl | cases h
theorem guardX_false {v : XV} {b : Bool} (h : guardX v b = some false) : con v = .sc (.bool (!b)) ∨ con v = .tup [] := by
  unfold guardX at h
  split at h <;> simp only [Option.some.injEq, reduceCtorEq] at h
  · rename_i c
    cases b <;> cases c <;> first | exact .inl rfl | cases h
  · rename_i g c
    cases g <;> cases b <;> cases c <;> first | exact .inl rfl | exact .inr rfl | cases h
  · exact .inr rfl

theorem exO_ok (hT : TabOk P T) (hci : CiOk P T.q ci) : ∀ (gs : List XG) (σ : XSt) (K : XSt → Prop), exO T ci gs σ K → okG gs = true → ∃ σ', K σ' ∧ ∀ Φ, Φ σ'.st → wpOps (Ok P T.q) (ung gs) σ.st Φ
  | [], σ, K, h, hok => ⟨σ, h, fun Φ hr => hr⟩
  | .one d o :: r, σ, K, h, hok => by
    simp only [exO] at h
    obtain ⟨σ1, h1, _, h3⟩ := exOne_ok hT hci h
    obtain ⟨σ', h4, h5⟩ := exO_ok hT hci r σ1 K h1 (by simpa [okG] using hok)
    exact ⟨σ', h4, fun Φ hr => h3 _ Φ (h5 Φ hr)⟩
  | .run t b l :: r, σ, K, h, hok => by
    simp only [okG, Bool.and_eq_true] at hok
    simp only [exO] at h
    split at h
    · rename_i g hg
      have hgt : get (conE σ.env) t = con (getX σ.env t) := get_conE _ _
      split at h
      · rename_i nd env hx
        rw [needG_iff] at h
        obtain ⟨σ', h4, h5⟩ := exO_ok hT hci r _ K h.2 hok.2
        refine ⟨σ', h4, fun Φ hr => ?_⟩
        have h6 := h5 Φ hr
        cases g with
        | true =>
          refine run_true (σ.hl |> fun _ => hT) l σ.env env nd hx (h.1 rfl) hok.1 (by rw [hgt, guardX_true hg]) ?_
          have : XSt.st ⟨wrap true (cntR l) env, σ.hl, σ.n⟩ = XSt.st ⟨env, σ.hl, σ.n⟩ := by simp only [XSt.st, wrap_true]
          rw [this] at h6
          exact h6
        | false =>
          refine run_skip l σ.env (by rw [hgt]; exact guardX_false hg) ?_
          obtain ⟨dl, e1, e2, e3⟩ := runX_keys l _ _ _ hx
          have : XSt.st ⟨wrap false (cntR l) env, σ.hl, σ.n⟩ = XSt.st ⟨skips l σ.env, σ.hl, σ.n⟩ := by
            simp only [XSt.st]
            rw [e3, ← e2, e1, wrap_false]
          rw [this] at h6
          exact h6
      · cases g with
        | true =>
          simp only [cond_true] at h
          obtain ⟨σ1, h1, h2⟩ := exRun_ok hT hci l σ _ h hok.1 (by rw [hgt, guardX_true hg])
          obtain ⟨σ', h4, h5⟩ := exO_ok hT hci r σ1 K h1 hok.2
          exact ⟨σ', h4, fun Φ hr => h2 _ Φ (h5 Φ hr)⟩
        | false =>
          simp only [cond_false] at h
          obtain ⟨σ', h4, h5⟩ := exO_ok hT hci r _ K h hok.2
          exact ⟨σ', h4, fun Φ hr => run_skip l σ.env (by rw [hgt]; exact guardX_false hg) (h5 Φ hr)⟩
    · cases h

theorem Weak.refl (σ : St) : Weak σ σ := ⟨fun _ => .inr (.inl rfl), fun _ => .inr rfl, Nat.le_refl _⟩

theorem iterX_ok {c : AC} {g : XSt → (AE → XSt → Prop) → Prop} (hg : ∀ σ K, g σ K → ∃ e σ', K e σ' ∧ ∀ Φ, Φ e σ'.st → wpC (Ok P T.q) c σ.st Φ) : ∀ (n : Nat) (σ : XSt) (K : AE → XSt → Prop), iterX n g σ K →
    ∃ (S : Nat → XSt) (m : Nat) (e : AE) (σ' : XSt), S 0 = σ ∧ K e σ' ∧ (∀ i, i < m → ∀ Φ, Φ .normal (S (i + 1)).st → wpC (Ok P T.q) c (S i).st Φ) ∧ (∀ Φ, Φ e σ'.st → wpC (Ok P T.q) c (S m).st Φ) ∧ e ≠ .normal
  | 0, σ, K, h => h.elim
  | n + 1, σ, K, h => by
    simp only [iterX] at h
    obtain ⟨e, σ1, h1, h2⟩ := hg _ _ h
    cases e with
    | normal =>
      obtain ⟨S, m, e, σ', g1, g2, g3, g4, g5⟩ := iterX_ok hg n σ1 K h1
      refine ⟨fun i => match i with | 0 => σ | i + 1 => S i, m + 1, e, σ', rfl, g2, fun i hi Φ hr => ?_, g4, g5⟩
      cases i with
      | zero => exact h2 Φ (by rw [← g1]; exact hr)
      | succ i => exact g3 i (by omega) Φ hr
    | exit id => exact ⟨fun _ => σ, 0, _, σ1, rfl, h1, fun i hi => by omega, h2, by simp⟩
    | ret => exact ⟨fun _ => σ, 0, _, σ1, rfl, h1, fun i hi => by omega, h2, by simp⟩

theorem inL_iff {i : Nat} : ∀ {l : List Nat}, inL i l = true ↔ i ∈ l
  | [] => by simp [inL]
  | k :: l => by
    simp only [inL, beq_if, List.mem_cons]
    split
    · rename_i h; simp [h]
    · rename_i h; rw [inL_iff (l := l)]; simp [h]
mutual
theorem fzV_ok {H : List (Nat × Option XV)} {σ : St} (hH : ∀ i, σ.H i = (lookX H i).map con) {L : List Nat} : ∀ v : XV, (∀ i ∈ slIds v, i ∈ L) → allT (fzV H v).1 → leF L σ (con v) (con (fzV H v).2)
  | .sl id path off k len es, hL, hn => by
    simp only [fzV] at hn ⊢
    split at hn
    · rename_i nd n f hr
      have := rowX_con hH hr hn
      simp only [hr]
      exact .fz (hL id (by simp [slIds])) this
    · rename_i hr
      simp only [hr]
      exact .same
  | .agg n ts, hL, hn => .agg (fzVs_ok hH ts (by simpa [slIds] using hL) hn)
  | .int .., _, _ => .same
  | .bool _, _, _ => .same
  | .str .., _, _ => .same
  | .tab .., _, _ => .same
  | .row .., _, _ => .same
  | .fptr _, _, _ => .same
  | .ptr .., _, _ => .same
  | .clo .., _, _ => .same
  | .tup _, _, _ => .same
  | .anyb, _, _ => .same
  | .tri .., _, _ => .same
  | .unk, _, _ => .same
  | .opt .., _, _ => .same
  | .raw _, _, _ => .same
theorem fzVs_ok {H : List (Nat × Option XV)} {σ : St} (hH : ∀ i, σ.H i = (lookX H i).map con) {L : List Nat} : ∀ ts : List XV, (∀ i ∈ slIdsL ts, i ∈ L) → allT (fzVs H ts).1 → leFs L σ (cons ts) (cons (fzVs H ts).2)
  | [], _, _ => .nil
  | t :: ts, hL, hn => by
    simp only [fzVs, allT_app] at hn
    simp only [slIdsL, List.mem_append] at hL
    exact .cons (fzV_ok hH t (fun i hi => hL i (.inl hi)) hn.1) (fzVs_ok hH ts (fun i hi => hL i (.inr hi)) hn.2)
end
theorem fz_ok {σ : XSt} (h : allT σ.fz.1) : FrzS σ.st σ.fz.2.st := by
  simp only [XSt.fz, allT_app] at h
  refine ⟨idsE σ.env ++ idsH σ.hl, rfl, fun t => ?_, fun j => ?_⟩
  · have key : ∀ (e : List (Nat × XV)), (∀ i ∈ idsE e, i ∈ idsE σ.env ++ idsH σ.hl) → allT (fzE σ.hl e).1 → leF (idsE σ.env ++ idsH σ.hl) σ.st (get (conE e) t) (get (conE (fzE σ.hl e).2) t) := by
      intro e
      induction e with
      | nil => intro _ _; exact .same
      | cons p r ih =>
        obtain ⟨k, v⟩ := p
        intro hL hn
        simp only [fzE, allT_app] at hn
        simp only [idsE, List.mem_append] at hL
        show leF _ _ (if t = k then con v else get (conE r) t) (if t = k then con (fzV σ.hl v).2 else get (conE (fzE σ.hl r).2) t)
        split
        · exact fzV_ok (st_H σ) v (fun i hi => by simpa using hL i (.inl hi)) hn.1
        · exact ih (fun i hi => by simpa using hL i (.inr hi)) hn.2
    exact key σ.env (fun i hi => List.mem_append_left _ hi) h.1
  · have key : ∀ (e : List (Nat × Option XV)), (∀ i ∈ idsH e, i ∈ idsE σ.env ++ idsH σ.hl) → allT (fzH σ.hl (idsE σ.env ++ idsH σ.hl) e).1 → look (conH (fzH σ.hl (idsE σ.env ++ idsH σ.hl) e).2) (fun _ => none) j = none ∨
        (j ∉ idsE σ.env ++ idsH σ.hl ∧ ∃ t t', look (conH e) (fun _ => none) j = some t ∧ look (conH (fzH σ.hl (idsE σ.env ++ idsH σ.hl) e).2) (fun _ => none) j = some t' ∧ leF (idsE σ.env ++ idsH σ.hl) σ.st t t') := by
      intro e
      induction e with
      | nil => intro _ _; exact .inl rfl
      | cons p r ih =>
        obtain ⟨k, v⟩ := p
        intro hL hn
        cases v with
        | none =>
          simp only [fzH] at hn ⊢
          show (if j = k then none else look (conH _) _ j) = none ∨ _ ∧ ∃ t t', (if j = k then none else look (conH r) _ j) = some t ∧ (if j = k then none else look (conH _) _ j) = some t' ∧ _
          by_cases hjk : j = k
          · rw [if_pos hjk]; exact .inl rfl
          · rw [if_neg hjk, if_neg hjk]
            exact ih hL hn
        | some u =>
          simp only [idsH, List.mem_append] at hL
          cases hin : inL k (idsE σ.env ++ idsH σ.hl) with
          | true =>
            simp only [fzH, hin, cond_true] at hn ⊢
            show (if j = k then none else look (conH _) _ j) = none ∨ _ ∧ ∃ t t', (if j = k then some (con u) else look (conH r) _ j) = some t ∧ (if j = k then none else look (conH _) _ j) = some t' ∧ _
            by_cases hjk : j = k
            · rw [if_pos hjk]; exact .inl rfl
            · rw [if_neg hjk, if_neg hjk]
              exact ih (fun i hi => by simpa using hL i (.inr hi)) hn
          | false =>
            simp only [fzH, hin, cond_false, allT_app] at hn ⊢
            show (if j = k then some (con (fzV σ.hl u).2) else look (conH _) _ j) = none ∨ _ ∧ ∃ t t', (if j = k then some (con u) else look (conH r) _ j) = some t ∧ (if j = k then some (con (fzV σ.hl u).2) else look (conH _) _ j) = some t' ∧ _
            by_cases hjk : j = k
            · rw [if_pos hjk, if_pos hjk]
              refine .inr ⟨fun hm => ?_, _, _, rfl, rfl, fzV_ok (st_H σ) u (fun i hi => by simpa using hL i (.inl hi)) hn.1⟩
              rw [hjk, ← inL_iff, hin] at hm
              cases hm
            · rw [if_neg hjk, if_neg hjk]
              exact ih (fun i hi => by simpa using hL i (.inr hi)) hn.2
    exact key σ.hl (fun i hi => List.mem_append_right _ hi) h.2

theorem sepXs_ok {σ : XSt} : ∀ {ps : List (Nat × Nat)}, allT (sepXs σ ps) → sepAll σ.st ps
  | [], _ => trivial
  | (t, u) :: r, h => by
    simp only [sepXs, allT_app] at h
    refine ⟨?_, sepXs_ok h.2⟩
    show sepV (get (conE σ.env) t) (get (conE σ.env) u)
    rw [get_conE, get_conE]
    exact sepX_ok h.1

theorem exC_ok (hT : TabOk P T) (hci : CiOk P T.q ci) {u : Nat} : ∀ (c : AC) (σ : XSt) (K : AE → XSt → Prop), exC T ci u c σ K → ∃ e σ', K e σ' ∧ ∀ Φ, Φ e σ'.st → wpC (Ok P T.q) c σ.st Φ
  | .skip, σ, K, h => ⟨_, _, h, fun Φ hr => hr⟩
  | .ops l, σ, K, h => by
    simp only [exC] at h
    obtain ⟨h1, h2⟩ := grp_ung l
    obtain ⟨σ', h3, h4⟩ := exO_ok hT hci (grp l) σ _ h h2
    rw [h1] at h4
    exact ⟨.normal, σ', h3, fun Φ hr => h4 (Φ .normal) hr⟩
  | .opsD l ps, σ, K, h => by
    simp only [exC] at h
    obtain ⟨h1, h2⟩ := grp_ung l
    obtain ⟨σ', h3, h4⟩ := exO_ok hT hci (grp l) σ _ h h2
    rw [h1] at h4
    rw [need_iff] at h3
    exact ⟨.normal, σ', h3.2, fun Φ hr => h4 _ ⟨sepXs_ok h3.1, hr⟩⟩
  | .seq a b, σ, K, h => by
    simp only [exC] at h
    obtain ⟨e, σ1, h1, h2⟩ := exC_ok hT hci a σ _ h
    cases e with
    | normal =>
      obtain ⟨e, σ', h3, h4⟩ := exC_ok hT hci b σ1 K h1
      exact ⟨e, σ', h3, fun Φ hr => h2 _ (h4 Φ hr)⟩
    | exit id => exact ⟨_, σ1, h1, fun Φ hr => h2 _ hr⟩
    | ret => exact ⟨_, σ1, h1, fun Φ hr => h2 _ hr⟩
  | .cond c x y, σ, K, h => by
    simp only [exC] at h
    split at h
    · rename_i b hb
      rw [need_iff] at h
      have hc : σ.st.ev c = .sc (.bool b) := by rw [st_ev, strip_con h.1, hb]; rfl
      cases b with
      | true =>
        obtain ⟨e, σ', h1, h2⟩ := exC_ok hT hci x σ K h.2
        refine ⟨e, σ', h1, fun Φ hr => ?_⟩
        unfold wpC
        rw [hc]
        exact ⟨fun _ => h2 Φ hr, fun e => by cases e⟩
      | false =>
        obtain ⟨e, σ', h1, h2⟩ := exC_ok hT hci y σ K h.2
        refine ⟨e, σ', h1, fun Φ hr => ?_⟩
        unfold wpC
        rw [hc]
        exact ⟨fun e => by (cases e), fun _ => h2 Φ hr⟩
    · cases h
  | .block id c, σ, K, h => by
    simp only [exC] at h
    obtain ⟨e, σ1, h1, h2⟩ := exC_ok hT hci c σ _ h
    cases e with
    | normal => exact ⟨_, σ1, h1, fun Φ hr => h2 (AE.inBlock id Φ) hr⟩
    | exit i =>
      cases hi : Nat.beq i id <;> simp only [hi, cond_true, cond_false] at h1
      · exact ⟨_, σ1, h1, fun Φ hr => h2 (AE.inBlock id Φ) (by simp only [AE.inBlock]; rw [if_neg (Nat.ne_of_beq_eq_false hi)]; exact hr)⟩
      · exact ⟨_, σ1, h1, fun Φ hr => h2 (AE.inBlock id Φ) (by simp only [AE.inBlock]; rw [if_pos (Nat.eq_of_beq_eq_true hi)]; exact hr)⟩
    | ret => exact ⟨_, σ1, h1, fun Φ hr => h2 (AE.inBlock id Φ) hr⟩
  | .loop c, σ, K, h => by
    simp only [exC] at h
    obtain ⟨S, m, e, σ', g1, g2, g3, g4, g5⟩ := iterX_ok (c := c) (fun σ K h => exC_ok hT hci c σ K h) u σ K h
    refine ⟨e, σ', g2, fun Φ hr => ?_⟩
    refine wpC_for (fun i => (S i).st) (fun i => i ≤ m) (fun i => m - i) 0 (Nat.zero_le _) (by rw [g1]; exact Weak.refl _) fun i hi => ?_
    by_cases him : i = m
    · subst him
      refine g4 _ ?_
      cases e with
      | normal => exact absurd rfl g5
      | exit id => exact hr
      | ret => exact hr
    · exact g3 i (by omega) _ ⟨i + 1, by omega, Weak.refl _, by omega⟩
  | .exit id, σ, K, h => ⟨_, _, h, fun Φ hr => hr⟩
  | .ret, σ, K, h => ⟨_, _, h, fun Φ hr => hr⟩
  | .frz, σ, K, h => by
    simp only [exC] at h
    rw [need_iff] at h
    exact ⟨_, _, h.2, fun Φ hr => ⟨_, fz_ok h.1, hr⟩⟩

theorem envX_con : ∀ (k : Nat) (args : List XV), conE (envX k args) = envOf k (cons args)
  | k, [] => rfl
  | k, v :: r => by
    have := envX_con (k + 1) r
    simp only [conE] at this
    simp only [envX, conE, List.map_cons, cons, envOf, this]

theorem cons_len (l : List XV) : (cons l).length = l.length := by simp [cons_map]

theorem resXs_con {σ : XSt} : ∀ {rs : List AR} {nd : List Bool} {vs : List XV}, resXs σ rs = some (nd, vs) → allT nd → resA σ.st rs = some (cons vs)
  | [], nd, vs, h, hn => by
    simp only [resXs, Option.some.injEq, Prod.mk.injEq] at h
    obtain ⟨_, rfl⟩ := h; rfl
  | r :: rs, nd, vs, h, hn => by
    simp only [resXs] at h
    split at h
    · rename_i nd1 v nd2 vs' h1 h2
      simp only [Option.some.injEq, Prod.mk.injEq] at h
      obtain ⟨rfl, rfl⟩ := h
      rw [allT_app] at hn
      have h3 : resV σ.st r = some (con v) := by
        cases r with
        | tmp t =>
          simp only [resX, Option.some.injEq, Prod.mk.injEq] at h1
          obtain ⟨_, rfl⟩ := h1
          simp only [resV]
          exact congrArg some (get_conE _ _)
        | cell t ag n =>
          simp only [resX] at h1
          split at h1
          · rename_i nd' u hl
            cases hc : (u.isAgg == ag && Nat.beq u.size n) <;> rw [hc] at h1
            · cases h1
            · simp only [cond_true, Option.some.injEq, Prod.mk.injEq] at h1
              obtain ⟨rfl, rfl⟩ := h1
              simp only [Bool.and_eq_true, beq_iff_eq] at hc
              have h4 := loadX_con (st_H σ) hl hn.1
              rw [← get_conE] at h4
              simp only [resV]
              show (match σ.st.loadA (get (conE σ.env) t) with | some u => _ | none => _) = _
              rw [h4]
              simp only [con_isAgg, con_size]
              rw [if_pos ⟨hc.1, Nat.eq_of_beq_eq_true hc.2⟩]
          · cases h1
      simp only [resA, h3, resXs_con h2 hn.2, cons]
    · cases h

theorem tupX_con : ∀ vs : List XV, tupV (cons vs) = con (tupX vs)
  | [] => rfl
  | [v] => rfl
  | v :: w :: r => rfl

theorem retX_ok {rs : List AR} {K : XV → XSt → Prop} {e : AE} {σ : XSt} (h : retX rs K e σ) : ∃ v, K v σ ∧ ∀ Φ : AV → St → Prop, Φ (con v) σ.st → retP rs Φ e σ.st := by
  have key : (match resXs σ rs with | some (nd, vs) => need nd (K (tupX vs) σ) | none => False) → ∃ v, K v σ ∧ ∀ Φ : AV → St → Prop, Φ (con v) σ.st → (match resA σ.st rs with | some vs => Φ (tupV vs) σ.st | none => False) := by
    intro h
    split at h
    · rename_i nd vs hv
      rw [need_iff] at h
      refine ⟨_, h.2, fun Φ hr => ?_⟩
      rw [resXs_con hv h.1]
      simp only [tupX_con]
      exact hr
    · cases h
  cases e with
  | normal => exact key h
  | exit i => exact h.elim
  | ret => exact key h

theorem quietGo_ok (hmix : P.follows .mixedOrders = true) (hT : TabOk P T) (hci : CiOk P T.q ci) {u f : Nat} {args : List XV} {K : XV → Prop} (h : quietGo T u ci f args K) : ∃ v, Pure P f (cons args) (con v) ∧ K v := by
  unfold quietGo at h
  split at h
  · rename_i nd v hs
    rw [need_iff] at h
    exact ⟨v, hT.sp _ _ _ _ hs h.1, h.2⟩
  · split at h
    · rename_i W hs
      exact hT.sk _ _ _ hs _ h
    · split at h
      · rename_i nt rs c hc
        cases hl : Nat.ble args.length nt <;> rw [hl] at h
        · exact h.elim
        · rw [cond_true] at h
          obtain ⟨e, σ', h1, h2⟩ := exC_ok hT hci c _ _ h
          obtain ⟨v, h3, h4⟩ := retX_ok h1
          unfold frzK at h3
          split at h3
          · rename_i nd r hz
            rw [need_iff] at h3
            refine ⟨r, ?_, h3.2⟩
            have hw := h2 _ (h4 (fun v τ => frz τ 6 v = some (con r)) (frzX_con (st_H σ') 6 v nd r hz h3.1))
            refine pure_of (k := 6) hmix Ok.ok Ok.quiet (hT.codes _ _ hc) (by rw [cons_len]; exact Nat.le_of_ble_eq_true hl) ?_
            simpa [XSt.st, envX_con, conH] using hw
          · cases h3
      · cases h

theorem callI_ok (hmix : P.follows .mixedOrders = true) (hT : TabOk P T) {u : Nat} : ∀ k : Nat, CiOk P T.q (callI T u k)
  | 0 => fun f args σ K h => h.elim
  | k + 1 => fun f args σ K h => by
    have ih := callI_ok hmix hT (u := u) k
    simp only [callI] at h
    cases hq : T.q f <;> rw [hq] at h
    · rw [cond_false] at h
      split at h
      · rename_i nd v τ hs
        rw [need_iff] at h
        exact ⟨v, τ, hT.sg _ _ _ _ _ _ hs h.1 hq, h.2⟩
      · split at h
        · rename_i W hs
          exact hT.gk _ _ _ _ hs hq _ h
        · split at h
          · rename_i nt rs c hc
            cases hl' : (Nat.ble args.length nt && !T.q (f + 1000000)) <;> rw [hl'] at h
            · exact h.elim
            · rw [cond_true] at h
              simp only [Bool.and_eq_true, Bool.not_eq_true'] at hl'
              obtain ⟨hl, hal⟩ := hl'
              obtain ⟨e, σ', h1, h2⟩ := exC_ok hT ih c _ _ h
              obtain ⟨v, h3, h4⟩ := retX_ok h1
              refine ⟨v, σ', .inr (.inr (.inl ⟨hq, hal, trF_known (hT.codes _ _ hc), fun fr G w vs hown hr => ?_⟩)), h3⟩
              have hw := h2 _ (h4 (fun v' τ => v' = con v ∧ τ = σ'.st) ⟨rfl, rfl⟩)
              have hw' : wpC (Ok P T.q) c ⟨envOf 0 (cons args), conH σ.hl, fun _ => none, σ.n⟩ (retP rs fun v' τ => v' = con v ∧ τ = σ'.st) := by
                simpa [XSt.st, envX_con] using hw
              refine (enter hmix Ok.ok Ok.quiet (hT.codes _ _ hc) (by rw [cons_len]; exact Nat.le_of_ble_eq_true hl) hown hr hw').mono fun e w' ⟨u', G', v', τ, g1, g2, g3, g4, g5⟩ => ?_
              subst g4 g5
              exact ⟨u', G', g1, g2, g3⟩
          · cases h
    · rw [cond_true] at h
      cases hi : XV.idfs args <;> rw [hi] at h
      · rw [cond_false] at h
        split at h
        · rename_i nd args' hm
          rw [need_iff] at h
          obtain ⟨v, h1, h2⟩ := quietGo_ok hmix hT ih h.2
          cases hsol : v.sol <;> rw [hsol] at h2
          · exact h2.elim
          · exact ⟨v, σ, .inr (.inl ⟨rfl, con_sol v hsol, 6, cons args', mapX_con (frzX_con (st_H σ) 6) hm h.1, h1⟩), h2⟩
        · cases h
      · rw [cond_true] at h
        obtain ⟨v, h1, h2⟩ := quietGo_ok hmix hT ih h
        exact ⟨v, σ, .inl ⟨rfl, by rw [cons_idf]; exact hi, h1⟩, h2⟩

/-- A function that leaves memory alone, gone through. -/
theorem pureX (hmix : P.follows .mixedOrders = true) (hT : TabOk P T) {u k f : Nat} {args : List XV} {r : AV} (h : quietGo T u (callI T u k) f args fun v => con v = r) : Pure P f (cons args) r := by
  obtain ⟨v, h1, h2⟩ := quietGo_ok hmix hT (callI_ok hmix hT k) h
  rw [← h2]; exact h1

end
end Go.Ra

/- Tables of functions. -/
namespace Go.Ra
set_option linter.unusedVariables false
def assoc {α : Type} : List (Nat × α) → Nat → Option α
  | [], _ => none
  | (k, v) :: l, i => bif Nat.beq i k then some v else assoc l i
def AllL {α : Type} (p : α → Prop) : List α → Prop
  | [] => True
  | x :: l => p x ∧ AllL p l
theorem assoc_all {α : Type} {p : Nat × α → Prop} : ∀ {l : List (Nat × α)} {i : Nat} {v : α}, AllL p l → assoc l i = some v → p (i, v)
  | [], i, v, h, ha => by cases ha
  | (k, u) :: l, i, v, h, ha => by
    simp only [assoc, beq_if] at ha
    split at ha
    · rename_i e
      subst e
      simp only [Option.some.injEq] at ha
      subst ha
      exact h.1
    · exact assoc_all h.2 ha
theorem AllL.app {α : Type} {p : α → Prop} : ∀ {l r : List α}, AllL p l → AllL p r → AllL p (l ++ r)
  | [], r, _, h => h
  | x :: l, r, h, h2 => ⟨h.1, AllL.app h.2 h2⟩

abbrev CodeL := List (Nat × (Nat × List AR × AC))
abbrev SpL := List (Nat × (List XV → Option (List Bool × XV)))
abbrev SgL := List (Nat × (List XV → XSt → Option (List Bool × XV × XSt)))
def mkT (q : Nat → Bool) (cl : CodeL) (sl : SpL) (gl : SgL) : Tab where
  codes := assoc cl
  q := q
  sp f args :=
    match assoc sl f with
    | some g => g args
    | none => none
  sg f args σ :=
    match assoc gl f with
    | some g => g args σ
    | none => none
def SpOk (P : Program) (p : Nat × (List XV → Option (List Bool × XV))) : Prop := ∀ args nd v, p.2 args = some (nd, v) → allT nd → Pure P p.1 (cons args) (con v)
def SgOk (P : Program) (q : Nat → Bool) (p : Nat × (List XV → XSt → Option (List Bool × XV × XSt))) : Prop := ∀ args σ nd v τ, p.2 args σ = some (nd, v, τ) → allT nd → q p.1 = false → Ok P q p.1 (cons args) σ.st (con v) τ.st
abbrev SkL := List (Nat × (List XV → Option ((XV → Prop) → Prop)))
abbrev GkL := List (Nat × (List XV → XSt → Option ((XV → XSt → Prop) → Prop)))
/-- With what is told by propositions. -/
def mkT2 (q : Nat → Bool) (cl : CodeL) (sl : SpL) (gl : SgL) (kl : SkL) (hl : GkL) : Tab where
  codes := assoc cl
  q := q
  sp f args :=
    match assoc sl f with
    | some g => g args
    | none => none
  sg f args σ :=
    match assoc gl f with
    | some g => g args σ
    | none => none
  sk f args :=
    match assoc kl f with
    | some g => g args
    | none => none
  gk f args σ :=
    match assoc hl f with
    | some g => g args σ
    | none => none
def SkOk (P : Program) (p : Nat × (List XV → Option ((XV → Prop) → Prop))) : Prop := ∀ args W, p.2 args = some W → ∀ K : XV → Prop, W K → ∃ v, Pure P p.1 (cons args) (con v) ∧ K v
def GkOk (P : Program) (q : Nat → Bool) (p : Nat × (List XV → XSt → Option ((XV → XSt → Prop) → Prop))) : Prop := ∀ args σ W, p.2 args σ = some W → q p.1 = false → ∀ K : XV → XSt → Prop, W K → ∃ v τ, Ok P q p.1 (cons args) σ.st (con v) τ.st ∧ K v τ
theorem mkT2_ok {P : Program} {q : Nat → Bool} {cl : CodeL} {sl : SpL} {gl : SgL} {kl : SkL} {hl : GkL} (h1 : AllL (fun p => trF P q p.1 = some p.2) cl) (h2 : AllL (SpOk P) sl) (h3 : AllL (SgOk P q) gl) (h4 : AllL (SkOk P) kl) (h5 : AllL (GkOk P q) hl) : TabOk P (mkT2 q cl sl gl kl hl) := by
  refine ⟨fun f r h => assoc_all h1 h, fun f args nd v h hn => ?_, fun f args σ nd v τ h hn hq => ?_, fun f args W h => ?_, fun f args σ W h hq => ?_⟩
  · simp only [mkT2] at h
    split at h
    · rename_i g hg
      exact assoc_all h2 hg args nd v h hn
    · cases h
  · simp only [mkT2] at h
    split at h
    · rename_i g hg
      exact assoc_all h3 hg args σ nd v τ h hn hq
    · cases h
  · simp only [mkT2] at h
    split at h
    · rename_i g hg
      exact assoc_all h4 hg args W h
    · cases h
  · simp only [mkT2] at h
    split at h
    · rename_i g hg
      exact assoc_all h5 hg args σ W h hq
    · cases h
theorem mkT_ok {P : Program} {q : Nat → Bool} {cl : CodeL} {sl : SpL} {gl : SgL} (h1 : AllL (fun p => trF P q p.1 = some p.2) cl) (h2 : AllL (SpOk P) sl) (h3 : AllL (SgOk P q) gl) : TabOk P (mkT q cl sl gl) := by
  refine ⟨fun f r h => assoc_all h1 h, fun f args nd v h hn => ?_, fun f args σ nd v τ h hn hq => ?_, fun f args W h => (by cases h), fun f args σ W h => (by cases h)⟩
  · simp only [mkT] at h
    split at h
    · rename_i g hg
      exact assoc_all h2 hg args nd v h hn
    · cases h
  · simp only [mkT] at h
    split at h
    · rename_i g hg
      exact assoc_all h3 hg args σ nd v τ h hn hq
    · cases h
end Go.Ra

/- slices.Clone: a row of one's own. -/
namespace Go.Ra
set_option linter.unusedVariables false
set_option linter.unusedSimpArgs false

/-- A function that gives append(nil, l...). -/
def copyC (es bytes : Nat) : AC := .seq (.ops [⟨some 2, .mv (.c (.fro true 0 [])), none⟩]) (.seq (.ops [⟨some 3, .mv (.t 0), none⟩, ⟨some 4, .app es bytes (.c (.fro true 0 [])) (.t 3), none⟩, ⟨some 2, .mv (.t 4), none⟩]) .ret)

section
variable {P : Program} {q : Nat → Bool} {f es bytes : Nat}
theorem makes_copy (hmix : P.follows .mixedOrders = true) (hF : trF P q f = some (5, [.tmp 2], copyC es bytes)) (h0 : 0 < bytes) (x : Bool) (es0 : Nat) (ts : List AV) (hes : es0 = es ∨ ts = []) (hs : AV.solids ts = true) (hb : ts.length * bytes ≤ 140737488355328) :
    Makes P f [.fro x es0 ts] (.sl 0 [] 0 0 ts.length es) (.arr ts.length es ts) := by
  refine make_of hmix Ok.ok Ok.quiet hF (Nat.le_of_ble_eq_true rfl) (by simpa [AV.solid] using hs) rfl ?_
  unfold copyC
  simp only [envOf]
  have hor : (es0 = es ∨ ts = []) = True := by simp [hes]
  clear hes
  repeat' (first
    | (with_reducible refine wpC_seq ?_; intro K hK)
    | with_reducible refine wpC_ops ?_
    | with_reducible refine wpC_ret ?_
    | with_reducible refine wpC_skip ?_
    | with_reducible refine wpC_exit ?_
    | with_reducible refine wpC_block ?_
    | with_reducible refine then_normal ?_
    | with_reducible refine then_ret ?_
    | with_reducible refine then_exit ?_
    | with_reducible refine inBlock_normal ?_
    | with_reducible refine inBlock_ret ?_
    | with_reducible refine inBlock_self ?_
    | with_reducible refine inBlock_other (by decide) ?_
    | (with_reducible refine hK.out _ ?_; clear hK K)
    | with_reducible refine KK.out (by assumption) _ ?_
    | simp -implicitDefEqProofs (disch := omega) only [wpOps_mv, wpOps_pick, wpOps_box, wpOps_build, wpOps_bsl, wpOps_load, wpOps_store, wpOps_nilck, wpOps_bin, wpOps_eqs, wpOps_eqn, wpOps_un, wpOps_conv, wpOps_b2s, wpOps_slice, wpOps_aslice, wpOps_fadr, wpOps_iadr, wpOps_ext, wpOps_mkf, wpOps_mks, wpOps_app, wpOps_appf, wpOps_len, wpOps_lens, wpOps_copy, wpOps_min, wpOps_max, wpOps_guard, wpOps_nil, wpE_some, wpG_tt, wpG_ff, wpG_tf, wpG_ft, wpG_n, wpC_cond, cnd_t, cnd_f, put_some, put_none, ev_t, ev_c, St_H, hput_mk, new_mk, get_self, get_cons, look_cons, look_nil, hset_nil, hset_cons, stepE, binV, isShift, intBin_add, intBin_sub, intBin_mul, intBin_quo, intBin_rem, intBin_and, intBin_or, intBin_xor, intBin_eql, intBin_neq, intBin_lss, intBin_leq, intBin_gtr, intBin_geq, notV, I, U32, B, U8, if_true, if_false, ite_true, ite_false, reduceCtorEq, Nat.reduceEqDiff, Nat.succ_ne_self, Bool.false_eq_true, ↓reduceIte, Bool.not_true, Bool.not_false, decide_true, decide_false, not_true_eq_false, not_false_eq_true, St.loadA, AV.at?, AV.set?, isAgg_sc, size_sc, storable_sc, isAgg_agg, size_agg, storable_agg, isAgg_arr, size_arr, storable_arr, isAgg_fro, size_fro, storable_fro, isAgg_fptr, size_fptr, storable_fptr, isAgg_sl, size_sl, storable_sl, isAgg_ptr, size_ptr, storable_ptr, isAgg_clo, size_clo, storable_clo, AV.idfree, AV.idfrees, sizes, List.map_cons, List.map_nil, List.getElem?_cons_zero, List.getElem?_cons_succ, List.getElem?_nil, List.take_succ_cons, List.take_zero, List.take_nil, Nat.zero_add, Nat.add_zero, Nat.reduceAdd, and_self, and_true, true_and, List.nil_append, List.cons_append, List.append_nil, allOk, capsOk, BEq.rfl, beq_self_eq_true, Bool.and_true, Bool.true_and, Bool.and_self, partsA, List.set_cons_zero, List.set_cons_succ, foldI, foldJ, asI, Int.toNat_natCast, agrees, agreesH, Option.map_some, Option.map_none, eqnV, St.row, appA, List.isEmpty_nil, List.isEmpty_cons, List.length_nil, List.length_cons, List.length_map, true_or, or_true, or_false, false_or, ne_eq, not_true_eq_false, boundsA, Nat.sub_zero, List.drop_zero, List.length_append, List.length_set, Nat.reduceMul, Nat.reduceLT, Nat.reduceLeDiff, Int.reduceLT, Int.reduceLE, Int.reduceToNat, Nat.zero_mul, Nat.zero_le, Nat.le_refl, Int.le_refl, List.take_length, Int.natCast_zero, List.drop_succ_cons, List.take_succ_cons, Nat.add_sub_cancel, *]
    | with_reducible refine cnd_any ?_ ?_
    | (with_reducible refine cnd_split (fun h => ?_) (fun h => ?_) <;> (first | simp only [decide_eq_true_eq, decide_eq_false_iff_not, Classical.not_not, Bool.and_eq_true, Bool.or_eq_true] at h | skip))
    | (with_reducible refine wpG_true (fun h => ?_) (fun h => ?_) <;> (first | simp only [decide_eq_true_eq, decide_eq_false_iff_not, Classical.not_not, Bool.and_eq_true, Bool.or_eq_true] at h | skip))
    | (with_reducible refine wpG_false (fun h => ?_) (fun h => ?_) <;> (first | simp only [decide_eq_true_eq, decide_eq_false_iff_not, Classical.not_not, Bool.and_eq_true, Bool.or_eq_true] at h | skip)))
  simp -implicitDefEqProofs only [retP, resA, resV, get_cons, Nat.reduceEqDiff, ↓reduceIte, tupV, reduceCtorEq, Nat.succ_ne_self, St_H, look_cons, look_nil]
  exact .inl ⟨0, rfl, rfl⟩

/-- What is told of slices.Clone. -/
def makeS (es bytes : Nat) (args : List XV) (σ : XSt) : Option (List Bool × XV × XSt) :=
  match mapX (frzX σ.hl 6) args with
  | some (nd, [.row x es' n f]) => bif ((Nat.beq es' es || Nat.beq n 0) && Nat.blt 0 bytes) then some (decide (n * bytes ≤ 140737488355328) :: allN (fun i => (f i).sol) n :: nd, .sl σ.n [] 0 0 n es, σ.new (.tab n es f)) else none
  | _ => none

theorem makeS_ok (hM : ∀ (x : Bool) (es0 : Nat) (ts : List AV), (es0 = es ∨ ts = []) → AV.solids ts = true → ts.length * bytes ≤ 140737488355328 → Makes P f [.fro x es0 ts] (.sl 0 [] 0 0 ts.length es) (.arr ts.length es ts)) : SgOk P q (f, makeS es bytes) := by
  intro args σ nd v τ h hn hq
  simp only [makeS] at h
  split at h
  · rename_i nd' x es' n g hm
    cases hc : ((Nat.beq es' es || Nat.beq n 0) && Nat.blt 0 bytes) <;> rw [hc] at h
    · cases h
    · simp only [cond_true, Option.some.injEq, Prod.mk.injEq] at h
      obtain ⟨rfl, rfl, rfl⟩ := h
      simp only [allT_cons, decide_eq_true_eq, allN_iff] at hn
      simp only [Bool.and_eq_true, Bool.or_eq_true] at hc
      have h1 := mapX_con (frzX_con (st_H σ) 6) hm hn.2.2
      have h2 := hM x es' (tabL n fun i => con (g i)) (hc.1.imp Nat.eq_of_beq_eq_true (fun e => tabL_nil.2 (Nat.eq_of_beq_eq_true e))) (by
        rw [solids_iff]
        intro t ht
        simp only [tabL, List.mem_map, List.mem_range] at ht
        obtain ⟨i, hi, rfl⟩ := ht
        exact con_sol _ (hn.2.1 i hi)) (by rw [tabL_len]; exact hn.1)
      rw [tabL_len] at h2
      exact .inr (.inr (.inr ⟨hq, 6, _, _, _, h1, h2, by simp only [renT, ren, if_true]; rfl, rfl⟩))
  · cases h
end
end Go.Ra

/- What comes in: the data of a row as abstract values. -/
namespace Go.Ra
open Go.RowKit (Below)
set_option linter.unusedVariables false
set_option linter.unusedSimpArgs false

/-- Types of what comes in. -/
inductive Ty where
  | int (k : IntKind)
  | bool
  | str
  | slice (es bytes : Nat) (e : Ty)
  | agg (n : Nat) (l : List Ty)
  | arr (n es : Nat) (e : Ty)
  deriving Inhabited

mutual
def Ty.has : Ty → AV → Prop
  | .int k, a => ∃ n, a = .sc (.int k n) ∧ (Lit.int k n).wf = true
  | .bool, a => ∃ b, a = .sc (.bool b)
  | .str, a => ∃ s, a = .sc (.string s) ∧ s.size ≤ maxLen
  | .slice es bytes e, a => ∃ ts, a = .fro false es ts ∧ ts.length * bytes ≤ 140737488351232 ∧ ∀ t ∈ ts, e.has t
  | .agg n l, a => ∃ ts, a = .agg n ts ∧ Ty.hasL l ts
  | .arr n es e, a => ∃ ts, a = .arr n es ts ∧ ts.length = n ∧ ∀ t ∈ ts, e.has t
def Ty.hasL : List Ty → List AV → Prop
  | [], ts => ts = []
  | T :: l, ts => ∃ t r, ts = t :: r ∧ T.has t ∧ Ty.hasL l r
end

mutual
def tyT (P : Program) : Nat → TypeId → Option Ty
  | 0, _ => none
  | d + 1, t =>
    match P.underlying t with
    | some (.int k) => some (.int k)
    | some .bool => some .bool
    | some .string => some .str
    | some (.slice e) =>
      match tyT P d e with
      | some T => if P.cellsOf e = 0 then none else some (.slice (P.cellsOf e) (P.bytesOf e) T)
      | none => none
    | some (.struct fs) =>
      match tyFs P d 0 fs.toList with
      | some (l, n) => if n = P.cellsOf t then some (.agg n l) else none
      | none => none
    | some (.array n e) =>
      match tyT P d e with
      | some T => if P.cellsOf t = n * P.cellsOf e then some (.arr n (P.cellsOf e) T) else none
      | none => none
    | _ => none
def tyFs (P : Program) : Nat → Nat → List Field → Option (List Ty × Nat)
  | _, o, [] => some ([], o)
  | 0, _, _ :: _ => none
  | d + 1, o, f :: fs =>
    if f.offset = o then
      match tyT P d f.type, tyFs P d (o + P.cellsOf f.type) fs with
      | some T, some (l, n) => some (T :: l, n)
      | _, _ => none
    else none
end

section
variable {P : Program} {H : Type} {enc : TypeId × Value → H} {W : World} {base : Nat} {sp : Nat → Bool} {held : Bool}

theorem cells_at {a : Addr} {n : Nat} {cs : List Value} (h : W.cells? base a n = some cs) : cs.length = n ∧ ∀ j v, cs[j]? = some v → W.cell? (a.add j) = some v := by
  unfold World.cells? at h
  split at h
  · have hl := mapM_len h
    refine ⟨by simpa using hl, fun j v hj => ?_⟩
    have hlt : j < n := by have := (List.getElem?_eq_some_iff.1 hj).1; rw [hl] at this; simpa using this
    obtain ⟨y, h1, h2⟩ := mapM_get h j j (by simp [hlt])
    rw [hj] at h1
    simp only [Option.some.injEq] at h1
    subst h1
    exact h2
  · cases h

theorem spot_none {a : Addr} {v : Value} (h : W.cell? a = some v) : a.spot = none := by
  unfold World.cell? at h
  split at h
  · rename_i c e f hc
    cases hs : a.spot with
    | none => rfl
    | some s => rw [hs] at h; simp at h
  · cases h

theorem block_lt {a : Addr} {v : Value} (h : W.cell? a = some v) : a.block < W.heap.size := World.block_lt_of_cell? W a h

abbrev Low (W : World) : Nat → Prop := fun b => b < W.heap.size

/-- Elements, one behind the other. -/
theorem open_elems {e : TypeId} {fuel es b o : Nat} {T : Ty} (hes : 0 < es) (ih : ∀ (cs : List Value) (d : DataW H) (ps : List MemPlace), DataW.trod enc P W base sp held fuel e cs = some (d, ps) → (∀ x ∈ d.weights P e, x ≤ 140737488351232) → ∃ a, RelC W (Low W) noIds a cs ∧ T.has a) : ∀ (n k : Nat) (xs : List (DataW H × List MemPlace)),
    xs.length = n → (∀ i, i < n → (W.cells? base ((⟨b, o, none⟩ : Addr).add ((k + i) * es)) es).bind (DataW.trod enc P W base sp held fuel e) = xs[i]?) → (∀ x ∈ DataW.weightsAll P e (xs.map (·.1)), x ≤ 140737488351232) →
    ∃ ts cs, ts.length = n ∧ RelE W (Low W) es ts cs ∧ Reads W b (o + k * es) cs ∧ ∀ t ∈ ts, T.has t
  | 0, k, xs, hn, h, hw => ⟨[], [], rfl, .nil, fun j v hj => by simp at hj, fun t ht => by cases ht⟩
  | n + 1, k, [], hn, h, hw => by simp at hn
  | n + 1, k, y :: ys, hn, h, hw => by
    have h1 := h 0 (by omega)
    simp only [List.map_cons, DataW.weightsAll, List.mem_append] at hw
    obtain ⟨ts, cs, h3, h4, h5, h6⟩ := open_elems hes ih n (k + 1) ys (by simpa using hn) (fun i hi => by
      have := h (i + 1) (by omega)
      rw [show k + (i + 1) = k + 1 + i by omega] at this
      simpa using this) (fun x hx => hw x (.inr hx))
    simp only [Nat.add_zero, List.getElem?_cons_zero] at h1
    cases hc : W.cells? base ((⟨b, o, none⟩ : Addr).add (k * es)) es with
    | none => rw [hc] at h1; cases h1
    | some c =>
      rw [hc] at h1
      simp only [Option.bind_some] at h1
      obtain ⟨h7, h8⟩ := cells_at hc
      obtain ⟨d, ps⟩ := y
      obtain ⟨a, h9, h10⟩ := ih c d ps h1 (fun x hx => hw x (.inl hx))
      refine ⟨a :: ts, c ++ cs, by simp [h3], .cons h9 h7 h4, fun j v hj => ?_, fun t ht => ?_⟩
      · by_cases hjc : j < c.length
        · rw [List.getElem?_append_left hjc] at hj
          have := h8 j v hj
          rwa [add_lit, add_lit] at this
        · rw [List.getElem?_append_right (by omega)] at hj
          have := h5 _ v hj
          rw [Nat.add_mul, Nat.one_mul] at this
          rw [show o + k * es + j = o + (k * es + es) + (j - c.length) by omega]
          exact this
      · rcases List.mem_cons.1 ht with rfl | ht
        · exact h10
        · exact h6 t ht

theorem open_fields {fuel : Nat} {whole : List Value} {D : Nat} (ih : ∀ (m : Nat), m < D → ∀ (t : TypeId) (T : Ty) (cs : List Value) (d : DataW H) (ps : List MemPlace), tyT P m t = some T → DataW.trod enc P W base sp held fuel t cs = some (d, ps) → (∀ x ∈ d.weights P t, x ≤ 140737488351232) → ∃ a, RelC W (Low W) noIds a cs ∧ T.has a) :
    ∀ (fs : List Field) (d o : Nat) (xs : List (DataW H × List MemPlace)) (l : List Ty) (m : Nat), d ≤ D → tyFs P d o fs = some (l, m) → xs.length = fs.length → (∀ (i : Nat) (f : Field), fs[i]? = some f → DataW.trod enc P W base sp held fuel f.type ((whole.drop f.offset).take (P.cellsOf f.type)) = xs[i]?) →
      (∀ x ∈ DataW.weightsEach P (fs.map (·.type)) (xs.map (·.1)), x ≤ 140737488351232) → m ≤ whole.length → o ≤ m ∧ ∃ ts, RelL W (Low W) noIds ts ((whole.drop o).take (m - o)) ∧ Ty.hasL l ts
  | [], d, o, xs, l, m, hd, hT, hn, h, hw, hm => by
    simp only [tyFs, Option.some.injEq, Prod.mk.injEq] at hT
    obtain ⟨rfl, rfl⟩ := hT
    exact ⟨Nat.le_refl _, [], by simp; exact .nil, rfl⟩
  | f :: fs, 0, o, xs, l, m, hd, hT, hn, h, hw, hm => by simp [tyFs] at hT
  | f :: fs, d + 1, o, [], l, m, hd, hT, hn, h, hw, hm => by simp at hn
  | f :: fs, d + 1, o, y :: ys, l, m, hd, hT, hn, h, hw, hm => by
    simp only [tyFs] at hT
    split at hT
    · rename_i hoff
      split at hT
      · rename_i T l' m' hT1 hT2
        simp only [Option.some.injEq, Prod.mk.injEq] at hT
        obtain ⟨rfl, rfl⟩ := hT
        simp only [List.map_cons, DataW.weightsEach, List.mem_append] at hw
        obtain ⟨h1, ts, h2, h3⟩ := open_fields ih fs d (o + P.cellsOf f.type) ys l' m' (by omega) hT2 (by simpa using hn) (fun i g hg => by simpa using h (i + 1) g (by simpa using hg)) (fun x hx => hw x (.inr hx)) hm
        have h4 := h 0 f rfl
        simp only [List.getElem?_cons_zero] at h4
        obtain ⟨dd, ps⟩ := y
        obtain ⟨a, h5, h6⟩ := ih d (by omega) f.type T _ dd ps hT1 h4 (fun x hx => hw x (.inl hx))
        refine ⟨by omega, a :: ts, ?_, ⟨a, ts, rfl, h6, h3⟩⟩
        have e1 : (whole.drop o).take (m' - o) = (whole.drop f.offset).take (P.cellsOf f.type) ++ (whole.drop (o + P.cellsOf f.type)).take (m' - (o + P.cellsOf f.type)) := by
          rw [hoff, show m' - o = P.cellsOf f.type + (m' - (o + P.cellsOf f.type)) by omega, List.take_add, List.drop_drop]
        rw [e1]
        exact .cons h5 h2
      · cases hT
    · cases hT

theorem open_parts {e : TypeId} {fuel es : Nat} {T : Ty} {whole : List Value} (ih : ∀ (cs : List Value) (d : DataW H) (ps : List MemPlace), DataW.trod enc P W base sp held fuel e cs = some (d, ps) → (∀ x ∈ d.weights P e, x ≤ 140737488351232) → ∃ a, RelC W (Low W) noIds a cs ∧ T.has a) : ∀ (n k : Nat) (xs : List (DataW H × List MemPlace)),
    xs.length = n → (∀ i, i < n → DataW.trod enc P W base sp held fuel e ((whole.drop ((k + i) * es)).take es) = xs[i]?) → (k + n) * es ≤ whole.length → (∀ x ∈ DataW.weightsAll P e (xs.map (·.1)), x ≤ 140737488351232) →
    ∃ ts, ts.length = n ∧ RelE W (Low W) es ts ((whole.drop (k * es)).take (n * es)) ∧ ∀ t ∈ ts, T.has t
  | 0, k, xs, hn, h, hl, hw => ⟨[], rfl, by simp; exact .nil, fun t ht => by cases ht⟩
  | n + 1, k, [], hn, h, hl, hw => by simp at hn
  | n + 1, k, y :: ys, hn, h, hl, hw => by
    have h1 := h 0 (by omega)
    simp only [Nat.add_zero, List.getElem?_cons_zero] at h1
    simp only [List.map_cons, DataW.weightsAll, List.mem_append] at hw
    obtain ⟨ts, h3, h4, h6⟩ := open_parts ih n (k + 1) ys (by simpa using hn) (fun i hi => by
      have := h (i + 1) (by omega)
      rw [show k + (i + 1) = k + 1 + i by omega] at this
      simpa using this) (by rw [show k + 1 + n = k + (n + 1) by omega]; exact hl) (fun x hx => hw x (.inr hx))
    obtain ⟨d, ps⟩ := y
    obtain ⟨a, h9, h10⟩ := ih _ d ps h1 (fun x hx => hw x (.inl hx))
    have hlen : ((whole.drop (k * es)).take es).length = es := by
      simp only [List.length_take, List.length_drop]
      have : (k + (n + 1)) * es = k * es + es + n * es := by rw [Nat.add_mul, Nat.add_mul, Nat.one_mul]; omega
      omega
    refine ⟨a :: ts, by simp [h3], ?_, fun t ht => ?_⟩
    · have e1 : (whole.drop (k * es)).take ((n + 1) * es) = (whole.drop (k * es)).take es ++ (whole.drop ((k + 1) * es)).take (n * es) := by
        rw [show (n + 1) * es = es + n * es by rw [Nat.add_mul, Nat.one_mul]; omega, List.take_add, List.drop_drop, show k * es + es = (k + 1) * es by rw [Nat.add_mul, Nat.one_mul]]
      rw [e1]
      exact .cons h9 hlen h4
    · rcases List.mem_cons.1 ht with rfl | ht
      · exact h10
      · exact h6 t ht

theorem open_trod : ∀ (n : Nat) (t : TypeId) (T : Ty) (fuel : Nat) (cs : List Value) (d : DataW H) (ps : List MemPlace), tyT P n t = some T → DataW.trod enc P W base sp held fuel t cs = some (d, ps) →
    (∀ x ∈ d.weights P t, x ≤ 140737488351232) → ∃ a, RelC W (Low W) noIds a cs ∧ T.has a := by
  intro n
  induction n using Nat.strongRecOn with
  | _ n ih =>
  intro t T fuel cs d ps hT h hw
  cases n with
  | zero => simp [tyT] at hT
  | succ n =>
    simp only [tyT] at hT
    split at hT
    · rename_i k hu
      simp only [Option.some.injEq] at hT
      subst hT
      obtain ⟨x, rfl, _, h2⟩ := DataW.trod_int hu h
      exact ⟨.sc (.int k x), .sc rfl, ⟨x, rfl, h2⟩⟩
    · rename_i hu
      simp only [Option.some.injEq] at hT
      subst hT
      obtain ⟨b, rfl, _⟩ := DataW.trod_bool hu h
      exact ⟨.sc (.bool b), .sc rfl, ⟨b, rfl⟩⟩
    · rename_i hu
      simp only [Option.some.injEq] at hT
      subst hT
      obtain ⟨s, rfl, _, h2⟩ := DataW.trod_string hu h
      exact ⟨.sc (.string s), .sc rfl, ⟨s, rfl, h2⟩⟩
    · rename_i e hu
      split at hT
      · rename_i T' hT'
        split at hT
        · cases hT
        · rename_i hes
          simp only [Option.some.injEq] at hT
          subst hT
          have hes' : 0 < P.cellsOf e := Nat.pos_of_ne_zero hes
          rcases DataW.trod_slice hu h with ⟨rfl, hx⟩ | ⟨a, len, cap, elems, rest, m, rfl, rfl, hx, hb, hlc, hcm, hel, hat, _⟩
          · exact ⟨.fro false (P.cellsOf e) [], .fro0 (fun h => by cases h), ⟨[], rfl, by simp, fun t ht => by cases ht⟩⟩
          · simp only [Prod.mk.injEq] at hx
            obtain ⟨rfl, rfl⟩ := hx
            simp only [DataW.weights, hu, List.mem_cons, List.mem_append] at hw
            have hw1 := hw _ (.inl rfl)
            simp only [List.length_map] at hw1
            cases len with
            | zero => exact ⟨.fro false (P.cellsOf e) [], .fro0 (fun h => by cases h), ⟨[], rfl, by simp, fun t ht => by cases ht⟩⟩
            | succ len =>
              have h0 := hat 0 (by omega)
              rw [List.getElem?_eq_getElem (by omega), Nat.zero_mul] at h0
              cases hc : W.cells? base (a.add 0) (P.cellsOf e) with
              | none => rw [hc] at h0; cases h0
              | some c =>
                obtain ⟨h7, h8⟩ := cells_at hc
                have h9 := h8 0 c[0] (List.getElem?_eq_getElem (by omega))
                have hadd : (a.add 0).add 0 = a := by simp [Addr.add]
                rw [hadd] at h9
                have hspot := spot_none h9
                obtain ⟨b, o, sp'⟩ := a
                simp only at hspot
                subst hspot
                obtain ⟨ts, cs, g1, g2, g3, g4⟩ := open_elems hes' (fun cs d ps h1 h2 => ih n (by omega) e T' m cs d ps hT' h1 h2) (len + 1) 0 elems hel (fun i hi => by rw [Nat.zero_add]; exact hat i hi) (fun x hx => hw x (.inr (.inl hx)))
                rw [Nat.zero_mul, Nat.add_zero] at g3
                refine ⟨.fro false (P.cellsOf e) ts, ?_, ⟨ts, rfl, ?_, g4⟩⟩
                · rw [← g1]
                  exact .fro g2 g3 (block_lt h9) (fun h => by cases h) (by rw [g1]; exact hlc)
                · rw [g1]
                  rw [hel] at hw1
                  exact Nat.le_trans (Nat.mul_le_mul_right _ (by omega)) hw1
      · cases hT
    · rename_i fs hu
      split at hT
      · rename_i l m hl
        split at hT
        · rename_i hm
          simp only [Option.some.injEq] at hT
          subst hT
          obtain ⟨xs, k, rfl, hx, hlen, hxl, hat⟩ := DataW.trod_struct hu h
          simp only [Prod.mk.injEq] at hx
          obtain ⟨rfl, rfl⟩ := hx
          simp only [DataW.weights, hu] at hw
          obtain ⟨_, ts, h2, h3⟩ := open_fields (D := n) (whole := cs) (fuel := k) (fun m hm t T cs d ps h1 h2 h3 => ih m (by omega) t T k cs d ps h1 h2 h3) fs.toList n 0 xs l m (Nat.le_refl _) hl (by simpa using hxl) (fun i f hf => hat i f (by simpa using hf)) hw (by omega)
          refine ⟨.agg m ts, ?_, ⟨ts, rfl, h3⟩⟩
          have e1 : (cs.drop 0).take (m - 0) = cs := by
            rw [List.drop_zero, Nat.sub_zero]; exact List.take_of_length_le (by omega)
          rw [e1] at h2
          exact .agg h2 (by omega)
        · cases hT
      · cases hT
    · rename_i k e hu
      split at hT
      · rename_i T' hT'
        split at hT
        · rename_i hsz
          simp only [Option.some.injEq] at hT
          subst hT
          obtain ⟨xs, m, rfl, hx, hlen, hxl, hat⟩ := DataW.trod_array hu h
          simp only [Prod.mk.injEq] at hx
          obtain ⟨rfl, rfl⟩ := hx
          simp only [DataW.weights, hu] at hw
          obtain ⟨ts, g1, g2, g3⟩ := open_parts (whole := cs) (fun cs d ps h1 h2 => ih n (by omega) e T' m cs d ps hT' h1 h2) k 0 xs hxl (fun i hi => by rw [Nat.zero_add]; exact hat i hi) (by rw [Nat.zero_add]; omega) hw
          refine ⟨.arr k (P.cellsOf e) ts, ?_, ⟨ts, rfl, g1, g3⟩⟩
          have e1 : (cs.drop (0 * P.cellsOf e)).take (k * P.cellsOf e) = cs := by
            rw [Nat.zero_mul, List.drop_zero]; exact List.take_of_length_le (by omega)
          rw [e1] at g2
          exact .arr g2 g1
        · cases hT
      · cases hT
    · cases hT
end
end Go.Ra

/- From what is shown of a law's function to the row's contract. -/
namespace Go.Ra
open Go.RowKit (Below)
open Go.ChangeShapes Go.WideShapes Go.ChangeAt Go.RowKit
set_option linter.unusedVariables false
set_option linter.unusedSimpArgs false
section
variable {P : Program} {H : Type} {enc : TypeId × Value → H} {W : World} {sp : Nat → Bool} {held : Bool} {base b0 : Nat}

theorem open_val {n : Nat} {t : TypeId} {T : Ty} {v : Value} {d : DataW H} {ps : List MemPlace} (hT : tyT P n t = some T) (hval : Value.okWide P W .any b0 t v) (h : DataW.Trod enc P W base sp held t v d ps) (hw : ∀ x ∈ d.weights P t, x ≤ 140737488351232) :
    ∃ a, RelV W (Low W) noIds a v ∧ T.has a := by
  obtain ⟨fuel, hf⟩ := h
  obtain ⟨a, h1, h2⟩ := open_trod n t T fuel _ d ps hT hf hw
  refine ⟨a, ?_, h2⟩
  cases n with
  | zero => simp [tyT] at hT
  | succ n =>
    simp only [tyT] at hT
    split at hT
    · rename_i k hu
      simp only [Option.some.injEq] at hT
      subst hT
      obtain ⟨x, rfl⟩ := okWide_int hu hval
      obtain ⟨y, rfl, _⟩ := h2
      exact .one (by simpa [Value.cells] using h1) rfl
    · rename_i hu
      simp only [Option.some.injEq] at hT
      subst hT
      obtain ⟨x, rfl⟩ := okWide_bool hu hval
      obtain ⟨y, rfl⟩ := h2
      exact .one (by simpa [Value.cells] using h1) rfl
    · rename_i hu
      simp only [Option.some.injEq] at hT
      subst hT
      obtain ⟨x, rfl⟩ := okWide_string hu hval
      obtain ⟨y, rfl, _⟩ := h2
      exact .one (by simpa [Value.cells] using h1) rfl
    · rename_i e hu
      obtain ⟨x, len, cap, rfl⟩ := okWide_slice hu hval
      split at hT
      · split at hT
        · cases hT
        · simp only [Option.some.injEq] at hT
          subst hT
          obtain ⟨ts, rfl, _⟩ := h2
          exact .one (by simpa [Value.cells] using h1) rfl
      · cases hT
    · rename_i fs hu
      simp only [Value.okWide, hu] at hval
      obtain ⟨cs, rfl, _⟩ := hval
      split at hT
      · split at hT
        · simp only [Option.some.injEq] at hT
          subst hT
          obtain ⟨ts, rfl, _⟩ := h2
          simpa using RelV.agg (cs := cs.toList) (by simpa [Value.cells] using h1) rfl
        · cases hT
      · cases hT
    · rename_i k e hu
      simp only [Value.okWide, hu] at hval
      obtain ⟨cs, rfl, _⟩ := hval
      split at hT
      · split at hT
        · simp only [Option.some.injEq] at hT
          subst hT
          obtain ⟨ts, rfl, _⟩ := h2
          simpa using RelV.agg (cs := cs.toList) (by simpa [Value.cells] using h1) rfl
        · cases hT
      · cases hT
    · cases hT

theorem open_all {n : Nat} : ∀ {ts : List TypeId} {Ts : List Ty} {vs : List Value} {ds : List (DataW H)} {ps : List MemPlace}, mapO (tyT P n) ts = some Ts → (∀ (j : Nat) (t : TypeId) (v : Value), ts[j]? = some t → vs[j]? = some v → Value.okWide P W .any b0 t v) →
    DataW.TrodAll enc P W base sp held ts vs ds ps → (∀ x ∈ DataW.weightsEach P ts ds, x ≤ 140737488351232) → ∃ as0, RelVs W (Low W) noIds as0 vs ∧ Ty.hasL Ts as0
  | [], Ts, [], [], ps, hT, hv, h, hw => by
    simp only [mapO, Option.some.injEq] at hT
    subst hT
    exact ⟨[], .nil, rfl⟩
  | t :: ts, Ts, v :: vs, d :: ds, ps, hT, hv, h, hw => by
    simp only [mapO] at hT
    split at hT
    · rename_i T Ts' hT1 hT2
      simp only [Option.some.injEq] at hT
      subst hT
      obtain ⟨p, q, h1, h2, rfl⟩ := h
      simp only [DataW.weightsEach, List.mem_append] at hw
      obtain ⟨a, h3, h4⟩ := open_val hT1 (hv 0 t v rfl rfl) h1 (fun x hx => hw x (.inl hx))
      obtain ⟨as0, h5, h6⟩ := open_all hT2 (fun j t' v' h7 h8 => hv (j + 1) t' v' (by simpa using h7) (by simpa using h8)) h2 (fun x hx => hw x (.inr hx))
      exact ⟨a :: as0, .cons h3 h5, ⟨a, as0, rfl, h4, h6⟩⟩
    · cases hT
  | [], Ts, v :: vs, ds, ps, hT, hv, h, hw => by cases ds <;> exact h.elim
  | [], Ts, [], d :: ds, ps, hT, hv, h, hw => h.elim
  | t :: ts, Ts, [], ds, ps, hT, hv, h, hw => by cases ds <;> exact h.elim
  | t :: ts, Ts, v :: vs, [], ps, hT, hv, h, hw => h.elim

theorem all_below (hl : laidOutB P = true) {W' : World} (hb : Below W.heap.size W W') : ∀ {ts : List TypeId} {vs : List Value} {ds : List (DataW H)} {ps : List MemPlace}, ts.all (fun t => P.readableRec t && decide (t < P.types.size)) = true →
    DataW.TrodAll enc P W 0 (fun _ => true) true ts vs ds ps → (∀ x ∈ ps, x.block < W.heap.size) → DataW.TrodAll enc P W' 0 (fun b => decide (b < W.heap.size)) true ts vs ds ps
  | [], [], [], ps, hr, h, hlt => h
  | t :: ts, v :: vs, d :: ds, ps, hr, h, hlt => by
    obtain ⟨p, q, h1, h2, rfl⟩ := h
    simp only [List.all_cons, Bool.and_eq_true, decide_eq_true_eq] at hr
    exact ⟨p, q, Below.trod hl hr.1.1 hr.1.2 h1 hb (fun x hx => hlt x (List.mem_append_left _ hx)), all_below hl hb hr.2 h2 (fun x hx => hlt x (List.mem_append_right _ hx)), rfl⟩
  | [], v :: vs, ds, ps, hr, h, hlt => by cases ds <;> exact h.elim
  | [], [], d :: ds, ps, hr, h, hlt => h.elim
  | t :: ts, [], ds, ps, hr, h, hlt => by cases ds <;> exact h.elim
  | t :: ts, v :: vs, [], ps, hr, h, hlt => h.elim

theorem all_len : ∀ {ts : List TypeId} {vs : List Value} {ds : List (DataW H)} {ps : List MemPlace}, DataW.TrodAll enc P W base sp held ts vs ds ps → ds.length = ts.length
  | [], [], [], ps, h => rfl
  | t :: ts, v :: vs, d :: ds, ps, h => by
    obtain ⟨p, q, h1, h2, rfl⟩ := h
    simp [all_len h2]
  | [], v :: vs, ds, ps, h => by cases ds <;> exact h.elim
  | [], [], d :: ds, ps, h => h.elim
  | t :: ts, [], ds, ps, h => by cases ds <;> exact h.elim
  | t :: ts, v :: vs, [], ps, h => h.elim
end

/-- The contract of a law that gives true whatever comes in. -/
theorem law_post {P : Program} {H : Type} {enc : TypeId × Value → H} {fn : Func} {f : Nat} {s : ChangeSpec} {ts : List TypeId} {Ts : List Ty} {tb : TypeId} {n : Nat} (hl : laidOutB P = true) (hp : fn.params.toList = ts) (hr : fn.resultTypes = #[tb]) (htb : P.underlying tb = some .bool)
    (hv : s.vars = []) (hTs : mapO (tyT P n) ts = some Ts) (hread : ts.all (fun t => P.readableRec t && decide (t < P.types.size)) = true)
    (hfn : ∀ ds : List (DataW H), ds.length = ts.length → (s.fn H ds).results = [.lit (.bool true)] ∧ (s.fn H ds).args = ds ∧ (s.fn H ds).vars = [])
    (hlaw : ∀ as0, Ty.hasL Ts as0 → Pure P f as0 (.sc (.bool true))) {apart : Bool} :
    ∀ (W : World) (base : Nat) (args : Array Value) (ds gs : List (DataW H)) (before : List MemPlace),
      (∀ (j : Nat) t v, fn.params[j]? = some t → args[j]? = some v → Value.okWide P W .any base t v) →
      DataW.Whole enc P fn.params.toList s.vars apart W args.toList ds gs before →
      (DataW.weightsEach P (fn.params.toList ++ s.plain.varTypes P) (ds ++ gs)).all (· ≤ reachBytes) = true →
      Calls P f args W fun e W' => ∃ v, e = .returned v ∧ s.post enc P fn apart true false false W args v W' := by
  intro W base args ds gs before hval hW hsz
  have hW' := hW
  obtain ⟨p, q, hA, hV, rfl, hfz, hnd⟩ := hW
  rw [hv] at hV
  have hgs : gs = [] ∧ q = [] := by
    cases gs with
    | nil => exact ⟨rfl, hV⟩
    | cons g gs => exact hV.elim
  obtain ⟨rfl, rfl⟩ := hgs
  rw [hp] at hA
  have hvt : s.plain.varTypes P = [] := by
    simp only [ChangeSpec.plain, DataSpec.varTypes, hv]
    rfl
  rw [hvt, List.append_nil, List.append_nil, hp] at hsz
  obtain ⟨as0, h1, h2⟩ := open_all (b0 := base) hTs (fun j t v hj hvj => hval j t v (by rw [← Array.getElem?_toList, hp]; exact hj) (by rw [← Array.getElem?_toList]; exact hvj)) hA (fun x hx => by
    have := List.all_eq_true.1 hsz x hx
    exact of_decide_eq_true this)
  obtain ⟨_, hc⟩ := hlaw as0 h2
  have := hc W (Low W) args.toList (fun b hb => hb) h1
  rw [Array.toArray_toList] at this
  refine this.mono fun e W' ⟨u, F', he, hb, _, _, hrel⟩ => ?_
  obtain ⟨hu, _⟩ := hrel.sc_inv
  subst hu
  obtain ⟨g1, g2, g3⟩ := hfn ds (all_len hA)
  have hlt := hA.lt
  refine ⟨_, he, ds, [], _, [], p, [], hW', ?_, ?_, ?_, hb.frame _, fun h => by cases h⟩
  · rw [List.append_nil, g1, hr]
    exact trodAll_mk1 (shut_bool htb _)
  · rw [List.append_nil, g2, hp]
    exact all_below hl hb hread hA hlt
  · rw [List.append_nil, g3, hv]
    rfl
end Go.Ra

/- Which functions leave memory alone, by number. -/
namespace Go.Proofs.Ythmlnmkbeohojaa
open Go.Ra
/-- A number n: that function leaves memory alone; n + 1000000: it only makes memory; n + 2000000: its appends onto nil are only read. -/
def qq : Nat → Bool := qs [0, 1, 2, 3, 4, 5, 6, 7, 8, 9, 10, 11, 12, 13, 14, 15, 16, 17, 18, 19, 20, 21, 23, 24, 25, 26, 27, 29, 30, 31, 32, 33, 34, 35, 36, 37, 38, 39, 40, 41, 42, 43, 44, 45, 46, 47, 48, 50, 51, 52, 53, 54, 55, 56, 57, 58, 59, 60, 61, 62, 63, 64, 65, 66, 67, 69, 70, 71, 72, 73, 74, 75, 76, 77, 78, 79, 80, 81, 82, 83, 84, 85, 86, 87, 88, 89, 90, 93, 94, 97, 98, 99, 100, 101, 102, 103, 104, 105, 106, 107, 108, 109, 110, 111, 112, 113, 1000049, 1000068, 2000003, 5000300022, 5000400022, 5000500022, 5000700022, 5000800022, 5000900022, 5001000022, 5002100022]
theorem mix : Try.prog.follows .mixedOrders = true := by kernel_rfl
end Go.Proofs.Ythmlnmkbeohojaa

/- Abstract code of the functions of bytes: printed by a program from what the given translation yields. -/
namespace Go.Proofs.Ythmlnmkbeohojaa
open Go.Ra
def c_bytes_Check : AC := (.seq (.ops [⟨(.some 6), (.mv (.c (.sc (.int .i64 0)))), .none⟩]) (.seq (.ops [⟨(.some 8), (.mv (.t 1)), .none⟩, ⟨(.some 9), (.conv .i64 (.t 8)), .none⟩, ⟨(.some 7), (.mv (.t 9)), .none⟩]) (.seq (.block 0 (.seq (.ops [⟨(.some 11), (.mv (.t 0)), .none⟩, ⟨(.some 12), (.bin .geq (.t 11) (.c (.sc (.int .i64 1)))), .none⟩, ⟨(.some 13), (.mv (.t 12)), .none⟩, ⟨(.some 14), (.mv (.t 7)), (.some (13, .true))⟩, ⟨(.some 15), (.mv (.t 0)), (.some (13, .true))⟩, ⟨(.some 16), (.bin .rem (.t 14) (.t 15)), (.some (13, .true))⟩, ⟨(.some 17), (.bin .neq (.t 16) (.c (.sc (.int .i64 0)))), (.some (13, .true))⟩, ⟨(.some 18), (.pick (.t 13) (.t 17) (.c (.sc (.bool .false)))), .none⟩, ⟨(.some 10), (.mv (.t 18)), .none⟩]) (.cond (.t 10) (.seq (.ops [⟨(.some 6), (.mv (.c (.sc (.int .i64 1)))), .none⟩]) .ret) (.seq (.ops [⟨(.some 20), (.mv (.t 0)), .none⟩, ⟨(.some 21), (.bin .gtr (.t 20) (.c (.sc (.int .i64 0)))), .none⟩, ⟨(.some 22), (.mv (.t 21)), .none⟩, ⟨(.some 23), (.mv (.t 0)), (.some (22, .true))⟩, ⟨(.some 24), (.mv (.t 2)), (.some (22, .true))⟩, ⟨(.some 25), (.bin .gtr (.t 23) (.t 24)), (.some (22, .true))⟩, ⟨(.some 26), (.mv (.t 25)), (.some (22, .true))⟩, ⟨(.some 27), (.mv (.t 7)), (.some (26, .false))⟩, ⟨(.some 28), (.mv (.t 2)), (.some (26, .false))⟩, ⟨(.some 29), (.mv (.t 0)), (.some (26, .false))⟩, ⟨(.some 30), (.bin .sub (.t 28) (.t 29)), (.some (26, .false))⟩, ⟨(.some 31), (.bin .gtr (.t 27) (.t 30)), (.some (26, .false))⟩, ⟨(.some 32), (.pick (.t 26) (.c (.sc (.bool .true))) (.t 31)), (.some (22, .true))⟩, ⟨(.some 33), (.pick (.t 22) (.t 32) (.c (.sc (.bool .false)))), .none⟩, ⟨(.some 34), (.mv (.t 33)), .none⟩, ⟨(.some 35), (.mv (.t 0)), (.some (34, .false))⟩, ⟨(.some 36), (.bin .leq (.t 35) (.c (.sc (.int .i64 0)))), (.some (34, .false))⟩, ⟨(.some 37), (.mv (.t 36)), (.some (34, .false))⟩, ⟨(.some 38), (.mv (.t 7)), (.some (37, .true))⟩, ⟨(.some 39), (.mv (.t 0)), (.some (37, .true))⟩, ⟨(.some 40), (.bin .add (.t 38) (.t 39)), (.some (37, .true))⟩, ⟨(.some 41), (.mv (.t 2)), (.some (37, .true))⟩, ⟨(.some 42), (.bin .gtr (.t 40) (.t 41)), (.some (37, .true))⟩, ⟨(.some 43), (.pick (.t 37) (.t 42) (.c (.sc (.bool .false)))), (.some (34, .false))⟩, ⟨(.some 44), (.pick (.t 34) (.c (.sc (.bool .true))) (.t 43)), .none⟩, ⟨(.some 19), (.mv (.t 44)), .none⟩]) (.cond (.t 19) (.seq (.ops [⟨(.some 6), (.mv (.c (.sc (.int .i64 2)))), .none⟩]) .ret) .skip))))) (.seq (.ops [⟨(.some 6), (.mv (.c (.sc (.int .i64 0)))), .none⟩]) .ret))))
theorem t_bytes_Check : trF Try.prog qq 83 = some (45, [(.tmp 6)], c_bytes_Check) := by kernel_rfl
def c_bytes_Size : AC := (.seq (.ops [⟨(.some 2), (.mv (.c (.sc (.int .i64 0)))), .none⟩]) (.seq (.seq (.ops [⟨(.some 3), (.mv (.t 0)), .none⟩]) (.block 0 (.seq (.seq (.ops [⟨(.some 5), (.bin .eql (.t 3) (.c (.sc (.int .i64 26)))), .none⟩, ⟨(.some 4), (.mv (.t 5)), .none⟩]) (.cond (.t 4) .skip (.ops [⟨(.some 6), (.bin .eql (.t 3) (.c (.sc (.int .i64 31)))), .none⟩, ⟨(.some 4), (.mv (.t 6)), .none⟩]))) (.cond (.t 4) (.seq (.ops [⟨(.some 2), (.mv (.c (.sc (.int .i64 4)))), .none⟩]) .ret) (.seq (.seq (.ops [⟨(.some 8), (.bin .eql (.t 3) (.c (.sc (.int .i64 27)))), .none⟩, ⟨(.some 7), (.mv (.t 8)), .none⟩]) (.cond (.t 7) .skip (.seq (.ops [⟨(.some 9), (.bin .eql (.t 3) (.c (.sc (.int .i64 28)))), .none⟩, ⟨(.some 7), (.mv (.t 9)), .none⟩]) (.cond (.t 7) .skip (.ops [⟨(.some 10), (.bin .eql (.t 3) (.c (.sc (.int .i64 32)))), .none⟩, ⟨(.some 7), (.mv (.t 10)), .none⟩]))))) (.cond (.t 7) (.seq (.ops [⟨(.some 2), (.mv (.c (.sc (.int .i64 2)))), .none⟩]) .ret) (.seq (.seq (.ops [⟨(.some 12), (.bin .eql (.t 3) (.c (.sc (.int .i64 29)))), .none⟩, ⟨(.some 11), (.mv (.t 12)), .none⟩]) (.cond (.t 11) .skip (.seq (.ops [⟨(.some 13), (.bin .eql (.t 3) (.c (.sc (.int .i64 30)))), .none⟩, ⟨(.some 11), (.mv (.t 13)), .none⟩]) (.cond (.t 11) .skip (.ops [⟨(.some 14), (.bin .eql (.t 3) (.c (.sc (.int .i64 33)))), .none⟩, ⟨(.some 11), (.mv (.t 14)), .none⟩]))))) (.cond (.t 11) (.seq (.ops [⟨(.some 2), (.mv (.c (.sc (.int .i64 1)))), .none⟩]) .ret) .skip)))))))) (.seq (.ops [⟨(.some 2), (.mv (.c (.sc (.int .i64 0)))), .none⟩]) .ret)))
theorem t_bytes_Size : trF Try.prog qq 85 = some (15, [(.tmp 2)], c_bytes_Size) := by kernel_rfl
/-- The functions of bytes. -/
def cl_bytes : CodeL := [(83, 45, [(.tmp 6)], c_bytes_Check), (85, 15, [(.tmp 2)], c_bytes_Size)]
theorem clok_bytes : AllL (fun p => trF Try.prog qq p.1 = some p.2) cl_bytes := ⟨t_bytes_Check, t_bytes_Size, trivial⟩
end Go.Proofs.Ythmlnmkbeohojaa

/- Abstract code of the functions of state: printed by a program from what the given translation yields. -/
namespace Go.Proofs.Ythmlnmkbeohojaa
open Go.Ra
def c_state_Config : AC := (.seq (.ops [⟨(.some 1), (.box (.t 0)), .none⟩, ⟨(.some 2), (.mv (.c (.sc (.bool .false)))), .none⟩]) (.seq (.ops [⟨(.some 3), (.fadr 0 0 1 (.t 1)), .none⟩, ⟨(.some 4), (.load .false 1 (.t 3)), .none⟩, ⟨(.some 5), (.fadr 1 1 1 (.t 1)), .none⟩, ⟨(.some 6), (.load .false 1 (.t 5)), .none⟩, ⟨(.some 7), (.fadr 2 2 1 (.t 1)), .none⟩, ⟨(.some 8), (.load .false 1 (.t 7)), .none⟩, ⟨(.some 9), (.fadr 3 3 1 (.t 1)), .none⟩, ⟨(.some 10), (.load .false 1 (.t 9)), .none⟩, ⟨(.some 11), (.fadr 4 4 1 (.t 1)), .none⟩, ⟨(.some 12), (.load .false 1 (.t 11)), .none⟩, ⟨(.some 13), (.fadr 5 5 1 (.t 1)), .none⟩, ⟨(.some 14), (.load .false 1 (.t 13)), .none⟩, ⟨(.some 15), (.fadr 7 7 1 (.t 1)), .none⟩, ⟨(.some 16), (.load .false 1 (.t 15)), .none⟩, ⟨(.some 17), (.fadr 8 8 1 (.t 1)), .none⟩, ⟨(.some 18), (.load .false 1 (.t 17)), .none⟩, ⟨(.some 19), (.bsl 1 [(.t 4), (.t 6), (.t 8), (.t 10), (.t 12), (.t 14), (.t 16), (.t 18)]), .none⟩, ⟨(.some 20), (.call 23 [(.c (.sc (.int .i64 1))), (.c (.sc (.int .i64 64))), (.t 19)]), .none⟩, ⟨(.some 21), (.mv (.t 20)), .none⟩, ⟨(.some 22), (.fadr 6 6 1 (.t 1)), (.some (21, .true))⟩, ⟨(.some 23), (.load .false 1 (.t 22)), (.some (21, .true))⟩, ⟨(.some 24), (.bsl 1 [(.t 23)]), (.some (21, .true))⟩, ⟨(.some 25), (.call 23 [(.c (.sc (.int .i64 1))), (.c (.sc (.int .i64 16))), (.t 24)]), (.some (21, .true))⟩, ⟨(.some 26), (.pick (.t 21) (.t 25) (.c (.sc (.bool .false)))), .none⟩, ⟨(.some 27), (.mv (.t 26)), .none⟩, ⟨(.some 28), (.fadr 9 9 1 (.t 1)), (.some (27, .true))⟩, ⟨(.some 29), (.load .false 1 (.t 28)), (.some (27, .true))⟩, ⟨(.some 30), (.bsl 1 [(.t 29)]), (.some (27, .true))⟩, ⟨(.some 31), (.call 23 [(.c (.sc (.int .i64 1))), (.c (.sc (.int .i64 1000))), (.t 30)]), (.some (27, .true))⟩, ⟨(.some 32), (.pick (.t 27) (.t 31) (.c (.sc (.bool .false)))), .none⟩, ⟨(.some 33), (.mv (.t 32)), .none⟩, ⟨(.some 34), (.fadr 10 10 1 (.t 1)), (.some (33, .true))⟩, ⟨(.some 35), (.load .false 1 (.t 34)), (.some (33, .true))⟩, ⟨(.some 36), (.fadr 11 11 1 (.t 1)), (.some (33, .true))⟩, ⟨(.some 37), (.load .false 1 (.t 36)), (.some (33, .true))⟩, ⟨(.some 38), (.bsl 1 [(.t 35), (.t 37)]), (.some (33, .true))⟩, ⟨(.some 39), (.call 23 [(.c (.sc (.int .i64 1))), (.c (.sc (.int .i64 50))), (.t 38)]), (.some (33, .true))⟩, ⟨(.some 40), (.pick (.t 33) (.t 39) (.c (.sc (.bool .false)))), .none⟩, ⟨(.some 2), (.mv (.t 40)), .none⟩]) .ret))
theorem t_state_Config : trF Try.prog qq 11 = some (41, [(.tmp 2)], c_state_Config) := by kernel_rfl
def c_state_First : AC := (.seq (.ops [⟨(.some 1), (.box (.t 0)), .none⟩, ⟨(.some 2), (.box (.c (.agg 92 [(.sc (.int .i64 0)), (.agg 38 [(.arr 16 1 [(.sc (.int .u32 0)), (.sc (.int .u32 0)), (.sc (.int .u32 0)), (.sc (.int .u32 0)), (.sc (.int .u32 0)), (.sc (.int .u32 0)), (.sc (.int .u32 0)), (.sc (.int .u32 0)), (.sc (.int .u32 0)), (.sc (.int .u32 0)), (.sc (.int .u32 0)), (.sc (.int .u32 0)), (.sc (.int .u32 0)), (.sc (.int .u32 0)), (.sc (.int .u32 0)), (.sc (.int .u32 0))]), (.arr 16 1 [(.sc (.int .i64 0)), (.sc (.int .i64 0)), (.sc (.int .i64 0)), (.sc (.int .i64 0)), (.sc (.int .i64 0)), (.sc (.int .i64 0)), (.sc (.int .i64 0)), (.sc (.int .i64 0)), (.sc (.int .i64 0)), (.sc (.int .i64 0)), (.sc (.int .i64 0)), (.sc (.int .i64 0)), (.sc (.int .i64 0)), (.sc (.int .i64 0)), (.sc (.int .i64 0)), (.sc (.int .i64 0))]), (.agg 3 [(.sc (.int .i64 0)), (.sc (.int .i64 0)), (.sc (.int .i64 0))]), (.sc (.int .i64 0)), (.sc (.bool .false)), (.sc (.int .i64 0))]), (.agg 38 [(.arr 16 1 [(.sc (.int .u32 0)), (.sc (.int .u32 0)), (.sc (.int .u32 0)), (.sc (.int .u32 0)), (.sc (.int .u32 0)), (.sc (.int .u32 0)), (.sc (.int .u32 0)), (.sc (.int .u32 0)), (.sc (.int .u32 0)), (.sc (.int .u32 0)), (.sc (.int .u32 0)), (.sc (.int .u32 0)), (.sc (.int .u32 0)), (.sc (.int .u32 0)), (.sc (.int .u32 0)), (.sc (.int .u32 0))]), (.arr 16 1 [(.sc (.int .i64 0)), (.sc (.int .i64 0)), (.sc (.int .i64 0)), (.sc (.int .i64 0)), (.sc (.int .i64 0)), (.sc (.int .i64 0)), (.sc (.int .i64 0)), (.sc (.int .i64 0)), (.sc (.int .i64 0)), (.sc (.int .i64 0)), (.sc (.int .i64 0)), (.sc (.int .i64 0)), (.sc (.int .i64 0)), (.sc (.int .i64 0)), (.sc (.int .i64 0)), (.sc (.int .i64 0))]), (.agg 3 [(.sc (.int .i64 0)), (.sc (.int .i64 0)), (.sc (.int .i64 0))]), (.sc (.int .i64 0)), (.sc (.bool .false)), (.sc (.int .i64 0))]), (.fro .true 0 []), (.fro .true 0 []), (.fro .true 0 []), (.fro .true 0 []), (.fro .true 0 []), (.fro .true 0 []), (.fro .true 0 []), (.fro .true 0 []), (.fro .true 0 []), (.agg 3 [(.sc (.int .i64 0)), (.sc (.int .i64 0)), (.sc (.int .i64 0))]), (.sc (.int .i64 0)), (.sc (.int .i64 0)), (.sc (.int .i64 0))]))), .none⟩]) (.seq (.seq (.ops [⟨(.some 3), (.load .true 3 (.t 1)), .none⟩, ⟨(.some 4), (.call 27 [(.t 3)]), .none⟩, ⟨(.some 5), (.un .not (.t 4)), .none⟩]) (.cond (.t 5) (.seq (.ops [⟨(.some 6), (.build 92 [(.sc (.int .i64 0)), (.agg 38 [(.arr 16 1 [(.sc (.int .u32 0)), (.sc (.int .u32 0)), (.sc (.int .u32 0)), (.sc (.int .u32 0)), (.sc (.int .u32 0)), (.sc (.int .u32 0)), (.sc (.int .u32 0)), (.sc (.int .u32 0)), (.sc (.int .u32 0)), (.sc (.int .u32 0)), (.sc (.int .u32 0)), (.sc (.int .u32 0)), (.sc (.int .u32 0)), (.sc (.int .u32 0)), (.sc (.int .u32 0)), (.sc (.int .u32 0))]), (.arr 16 1 [(.sc (.int .i64 0)), (.sc (.int .i64 0)), (.sc (.int .i64 0)), (.sc (.int .i64 0)), (.sc (.int .i64 0)), (.sc (.int .i64 0)), (.sc (.int .i64 0)), (.sc (.int .i64 0)), (.sc (.int .i64 0)), (.sc (.int .i64 0)), (.sc (.int .i64 0)), (.sc (.int .i64 0)), (.sc (.int .i64 0)), (.sc (.int .i64 0)), (.sc (.int .i64 0)), (.sc (.int .i64 0))]), (.agg 3 [(.sc (.int .i64 0)), (.sc (.int .i64 0)), (.sc (.int .i64 0))]), (.sc (.int .i64 0)), (.sc (.bool .false)), (.sc (.int .i64 0))]), (.agg 38 [(.arr 16 1 [(.sc (.int .u32 0)), (.sc (.int .u32 0)), (.sc (.int .u32 0)), (.sc (.int .u32 0)), (.sc (.int .u32 0)), (.sc (.int .u32 0)), (.sc (.int .u32 0)), (.sc (.int .u32 0)), (.sc (.int .u32 0)), (.sc (.int .u32 0)), (.sc (.int .u32 0)), (.sc (.int .u32 0)), (.sc (.int .u32 0)), (.sc (.int .u32 0)), (.sc (.int .u32 0)), (.sc (.int .u32 0))]), (.arr 16 1 [(.sc (.int .i64 0)), (.sc (.int .i64 0)), (.sc (.int .i64 0)), (.sc (.int .i64 0)), (.sc (.int .i64 0)), (.sc (.int .i64 0)), (.sc (.int .i64 0)), (.sc (.int .i64 0)), (.sc (.int .i64 0)), (.sc (.int .i64 0)), (.sc (.int .i64 0)), (.sc (.int .i64 0)), (.sc (.int .i64 0)), (.sc (.int .i64 0)), (.sc (.int .i64 0)), (.sc (.int .i64 0))]), (.agg 3 [(.sc (.int .i64 0)), (.sc (.int .i64 0)), (.sc (.int .i64 0))]), (.sc (.int .i64 0)), (.sc (.bool .false)), (.sc (.int .i64 0))]), (.fro .true 0 []), (.fro .true 0 []), (.fro .true 0 []), (.fro .true 0 []), (.fro .true 0 []), (.fro .true 0 []), (.fro .true 0 []), (.fro .true 0 []), (.fro .true 0 []), (.agg 3 [(.sc (.int .i64 0)), (.sc (.int .i64 0)), (.sc (.int .i64 0))]), (.sc (.int .i64 0)), (.sc (.int .i64 0)), (.sc (.int .i64 0))] []), .none⟩, ⟨.none, (.store 92 (.t 2) (.t 6)), .none⟩]) .ret) .skip)) (.seq (.ops [⟨(.some 7), (.load .true 3 (.t 1)), .none⟩, ⟨(.some 8), (.call 28 [(.t 7)]), .none⟩, ⟨(.some 9), (.build 92 [(.sc (.int .i64 0)), (.agg 38 [(.arr 16 1 [(.sc (.int .u32 0)), (.sc (.int .u32 0)), (.sc (.int .u32 0)), (.sc (.int .u32 0)), (.sc (.int .u32 0)), (.sc (.int .u32 0)), (.sc (.int .u32 0)), (.sc (.int .u32 0)), (.sc (.int .u32 0)), (.sc (.int .u32 0)), (.sc (.int .u32 0)), (.sc (.int .u32 0)), (.sc (.int .u32 0)), (.sc (.int .u32 0)), (.sc (.int .u32 0)), (.sc (.int .u32 0))]), (.arr 16 1 [(.sc (.int .i64 0)), (.sc (.int .i64 0)), (.sc (.int .i64 0)), (.sc (.int .i64 0)), (.sc (.int .i64 0)), (.sc (.int .i64 0)), (.sc (.int .i64 0)), (.sc (.int .i64 0)), (.sc (.int .i64 0)), (.sc (.int .i64 0)), (.sc (.int .i64 0)), (.sc (.int .i64 0)), (.sc (.int .i64 0)), (.sc (.int .i64 0)), (.sc (.int .i64 0)), (.sc (.int .i64 0))]), (.agg 3 [(.sc (.int .i64 0)), (.sc (.int .i64 0)), (.sc (.int .i64 0))]), (.sc (.int .i64 0)), (.sc (.bool .false)), (.sc (.int .i64 0))]), (.agg 38 [(.arr 16 1 [(.sc (.int .u32 0)), (.sc (.int .u32 0)), (.sc (.int .u32 0)), (.sc (.int .u32 0)), (.sc (.int .u32 0)), (.sc (.int .u32 0)), (.sc (.int .u32 0)), (.sc (.int .u32 0)), (.sc (.int .u32 0)), (.sc (.int .u32 0)), (.sc (.int .u32 0)), (.sc (.int .u32 0)), (.sc (.int .u32 0)), (.sc (.int .u32 0)), (.sc (.int .u32 0)), (.sc (.int .u32 0))]), (.arr 16 1 [(.sc (.int .i64 0)), (.sc (.int .i64 0)), (.sc (.int .i64 0)), (.sc (.int .i64 0)), (.sc (.int .i64 0)), (.sc (.int .i64 0)), (.sc (.int .i64 0)), (.sc (.int .i64 0)), (.sc (.int .i64 0)), (.sc (.int .i64 0)), (.sc (.int .i64 0)), (.sc (.int .i64 0)), (.sc (.int .i64 0)), (.sc (.int .i64 0)), (.sc (.int .i64 0)), (.sc (.int .i64 0))]), (.agg 3 [(.sc (.int .i64 0)), (.sc (.int .i64 0)), (.sc (.int .i64 0))]), (.sc (.int .i64 0)), (.sc (.bool .false)), (.sc (.int .i64 0))]), (.fro .true 0 []), (.fro .true 0 []), (.fro .true 0 []), (.fro .true 0 []), (.fro .true 0 []), (.fro .true 0 []), (.fro .true 0 []), (.fro .true 0 []), (.fro .true 0 []), (.agg 3 [(.sc (.int .i64 0)), (.sc (.int .i64 0)), (.sc (.int .i64 0))]), (.sc (.int .i64 0)), (.sc (.int .i64 0)), (.sc (.int .i64 0))] [(10, (.t 8))]), .none⟩, ⟨.none, (.store 92 (.t 2) (.t 9)), .none⟩]) .ret)))
theorem t_state_First : trF Try.prog qq 14 = some (10, [(.cell 2 .true 92)], c_state_First) := by kernel_rfl
def c_state_Right : AC := (.seq (.ops [⟨(.some 3), (.box (.t 0)), .none⟩, ⟨(.some 4), (.box (.t 1)), .none⟩, ⟨(.some 5), (.box (.t 2)), .none⟩, ⟨(.some 6), (.mv (.c (.sc (.bool .false)))), .none⟩]) (.seq (.ops [⟨(.some 7), (.load .true 12 (.t 3)), .none⟩, ⟨(.some 8), (.call 11 [(.t 7)]), .none⟩, ⟨(.some 9), (.mv (.t 8)), .none⟩, ⟨(.some 10), (.load .true 17 (.t 4)), (.some (9, .true))⟩, ⟨(.some 11), (.fadr 1 1 38 (.t 5)), (.some (9, .true))⟩, ⟨(.some 12), (.load .true 38 (.t 11)), (.some (9, .true))⟩, ⟨(.some 13), (.call 30 [(.t 10), (.t 12), (.c (.clo 31 []))]), (.some (9, .true))⟩, ⟨(.some 14), (.pick (.t 9) (.t 13) (.c (.sc (.bool .false)))), .none⟩, ⟨(.some 15), (.mv (.t 14)), .none⟩, ⟨(.some 16), (.load .true 17 (.t 4)), (.some (15, .true))⟩, ⟨(.some 17), (.fadr 2 39 38 (.t 5)), (.some (15, .true))⟩, ⟨(.some 18), (.load .true 38 (.t 17)), (.some (15, .true))⟩, ⟨(.some 19), (.call 30 [(.t 16), (.t 18), (.c (.clo 32 []))]), (.some (15, .true))⟩, ⟨(.some 20), (.pick (.t 15) (.t 19) (.c (.sc (.bool .false)))), .none⟩, ⟨(.some 21), (.mv (.t 20)), .none⟩, ⟨(.some 22), (.fadr 0 0 1 (.t 5)), (.some (21, .true))⟩, ⟨(.some 23), (.load .false 1 (.t 22)), (.some (21, .true))⟩, ⟨(.some 24), (.fadr 13 89 1 (.t 5)), (.some (21, .true))⟩, ⟨(.some 25), (.load .false 1 (.t 24)), (.some (21, .true))⟩, ⟨(.some 26), (.fadr 14 90 1 (.t 5)), (.some (21, .true))⟩, ⟨(.some 27), (.load .false 1 (.t 26)), (.some (21, .true))⟩, ⟨(.some 28), (.fadr 15 91 1 (.t 5)), (.some (21, .true))⟩, ⟨(.some 29), (.load .false 1 (.t 28)), (.some (21, .true))⟩, ⟨(.some 30), (.bsl 1 [(.t 23), (.t 25), (.t 27), (.t 29)]), (.some (21, .true))⟩, ⟨(.some 31), (.call 23 [(.c (.sc (.int .i64 0))), (.c (.sc (.int .i64 1099511627776))), (.t 30)]), (.some (21, .true))⟩, ⟨(.some 32), (.pick (.t 21) (.t 31) (.c (.sc (.bool .false)))), .none⟩, ⟨(.some 33), (.mv (.t 32)), .none⟩, ⟨(.some 34), (.load .true 12 (.t 3)), (.some (33, .true))⟩, ⟨(.some 35), (.load .true 92 (.t 5)), (.some (33, .true))⟩, ⟨(.some 36), (.call 33 [(.t 34), (.t 35)]), (.some (33, .true))⟩, ⟨(.some 37), (.pick (.t 33) (.t 36) (.c (.sc (.bool .false)))), .none⟩, ⟨(.some 38), (.mv (.t 37)), .none⟩, ⟨(.some 39), (.load .true 92 (.t 5)), (.some (38, .true))⟩, ⟨(.some 40), (.call 34 [(.t 39)]), (.some (38, .true))⟩, ⟨(.some 41), (.pick (.t 38) (.t 40) (.c (.sc (.bool .false)))), .none⟩, ⟨(.some 42), (.mv (.t 41)), .none⟩, ⟨(.some 43), (.fadr 12 86 3 (.t 5)), (.some (42, .true))⟩, ⟨(.some 44), (.load .true 3 (.t 43)), (.some (42, .true))⟩, ⟨(.some 45), (.call 35 [(.t 44)]), (.some (42, .true))⟩, ⟨(.some 46), (.pick (.t 42) (.t 45) (.c (.sc (.bool .false)))), .none⟩, ⟨(.some 6), (.mv (.t 46)), .none⟩]) .ret))
theorem t_state_Right : trF Try.prog qq 16 = some (47, [(.tmp 6)], c_state_Right) := by kernel_rfl
def c_state_Same : AC := (.seq (.ops [⟨(.some 2), (.box (.t 0)), .none⟩, ⟨(.some 3), (.box (.t 1)), .none⟩, ⟨(.some 4), (.mv (.c (.sc (.bool .false)))), .none⟩]) (.seq (.ops [⟨(.some 5), (.fadr 0 0 1 (.t 2)), .none⟩, ⟨(.some 6), (.load .false 1 (.t 5)), .none⟩, ⟨(.some 7), (.fadr 0 0 1 (.t 3)), .none⟩, ⟨(.some 8), (.load .false 1 (.t 7)), .none⟩, ⟨(.some 9), (.bin .eql (.t 6) (.t 8)), .none⟩, ⟨(.some 10), (.mv (.t 9)), .none⟩, ⟨(.some 11), (.fadr 1 1 38 (.t 2)), (.some (10, .true))⟩, ⟨(.some 12), (.load .true 38 (.t 11)), (.some (10, .true))⟩, ⟨(.some 13), (.fadr 1 1 38 (.t 3)), (.some (10, .true))⟩, ⟨(.some 14), (.load .true 38 (.t 13)), (.some (10, .true))⟩, ⟨(.some 15), (.eqs .false (.agg [(16, (.arr 16 1 .int)), (16, (.arr 16 1 .int)), (3, (.agg [(1, .int), (1, .int), (1, .int)])), (1, .int), (1, .bool), (1, .int)]) (.t 12) (.t 14)), (.some (10, .true))⟩, ⟨(.some 16), (.pick (.t 10) (.t 15) (.c (.sc (.bool .false)))), .none⟩, ⟨(.some 17), (.mv (.t 16)), .none⟩, ⟨(.some 18), (.fadr 2 39 38 (.t 2)), (.some (17, .true))⟩, ⟨(.some 19), (.load .true 38 (.t 18)), (.some (17, .true))⟩, ⟨(.some 20), (.fadr 2 39 38 (.t 3)), (.some (17, .true))⟩, ⟨(.some 21), (.load .true 38 (.t 20)), (.some (17, .true))⟩, ⟨(.some 22), (.eqs .false (.agg [(16, (.arr 16 1 .int)), (16, (.arr 16 1 .int)), (3, (.agg [(1, .int), (1, .int), (1, .int)])), (1, .int), (1, .bool), (1, .int)]) (.t 19) (.t 21)), (.some (17, .true))⟩, ⟨(.some 23), (.pick (.t 17) (.t 22) (.c (.sc (.bool .false)))), .none⟩, ⟨(.some 24), (.mv (.t 23)), .none⟩, ⟨(.some 25), (.fadr 12 86 3 (.t 2)), (.some (24, .true))⟩, ⟨(.some 26), (.load .true 3 (.t 25)), (.some (24, .true))⟩, ⟨(.some 27), (.fadr 12 86 3 (.t 3)), (.some (24, .true))⟩, ⟨(.some 28), (.load .true 3 (.t 27)), (.some (24, .true))⟩, ⟨(.some 29), (.eqs .false (.agg [(1, .int), (1, .int), (1, .int)]) (.t 26) (.t 28)), (.some (24, .true))⟩, ⟨(.some 30), (.pick (.t 24) (.t 29) (.c (.sc (.bool .false)))), .none⟩, ⟨(.some 31), (.mv (.t 30)), .none⟩, ⟨(.some 32), (.fadr 13 89 1 (.t 2)), (.some (31, .true))⟩, ⟨(.some 33), (.load .false 1 (.t 32)), (.some (31, .true))⟩, ⟨(.some 34), (.fadr 13 89 1 (.t 3)), (.some (31, .true))⟩, ⟨(.some 35), (.load .false 1 (.t 34)), (.some (31, .true))⟩, ⟨(.some 36), (.bin .eql (.t 33) (.t 35)), (.some (31, .true))⟩, ⟨(.some 37), (.pick (.t 31) (.t 36) (.c (.sc (.bool .false)))), .none⟩, ⟨(.some 38), (.mv (.t 37)), .none⟩, ⟨(.some 39), (.fadr 14 90 1 (.t 2)), (.some (38, .true))⟩, ⟨(.some 40), (.load .false 1 (.t 39)), (.some (38, .true))⟩, ⟨(.some 41), (.fadr 14 90 1 (.t 3)), (.some (38, .true))⟩, ⟨(.some 42), (.load .false 1 (.t 41)), (.some (38, .true))⟩, ⟨(.some 43), (.bin .eql (.t 40) (.t 42)), (.some (38, .true))⟩, ⟨(.some 44), (.pick (.t 38) (.t 43) (.c (.sc (.bool .false)))), .none⟩, ⟨(.some 45), (.mv (.t 44)), .none⟩, ⟨(.some 46), (.fadr 15 91 1 (.t 2)), (.some (45, .true))⟩, ⟨(.some 47), (.load .false 1 (.t 46)), (.some (45, .true))⟩, ⟨(.some 48), (.fadr 15 91 1 (.t 3)), (.some (45, .true))⟩, ⟨(.some 49), (.load .false 1 (.t 48)), (.some (45, .true))⟩, ⟨(.some 50), (.bin .eql (.t 47) (.t 49)), (.some (45, .true))⟩, ⟨(.some 51), (.pick (.t 45) (.t 50) (.c (.sc (.bool .false)))), .none⟩, ⟨(.some 52), (.mv (.t 51)), .none⟩, ⟨(.some 53), (.fadr 3 77 1 (.t 2)), (.some (52, .true))⟩, ⟨(.some 54), (.load .false 1 (.t 53)), (.some (52, .true))⟩, ⟨(.some 55), (.fadr 3 77 1 (.t 3)), (.some (52, .true))⟩, ⟨(.some 56), (.load .false 1 (.t 55)), (.some (52, .true))⟩, ⟨(.some 57), (.call 40 [(.t 54), (.t 56)]), (.some (52, .true))⟩, ⟨(.some 58), (.pick (.t 52) (.t 57) (.c (.sc (.bool .false)))), .none⟩, ⟨(.some 59), (.mv (.t 58)), .none⟩, ⟨(.some 60), (.fadr 4 78 1 (.t 2)), (.some (59, .true))⟩, ⟨(.some 61), (.load .false 1 (.t 60)), (.some (59, .true))⟩, ⟨(.some 62), (.fadr 4 78 1 (.t 3)), (.some (59, .true))⟩, ⟨(.some 63), (.load .false 1 (.t 62)), (.some (59, .true))⟩, ⟨(.some 64), (.call 41 [(.t 61), (.t 63)]), (.some (59, .true))⟩, ⟨(.some 65), (.pick (.t 59) (.t 64) (.c (.sc (.bool .false)))), .none⟩, ⟨(.some 66), (.mv (.t 65)), .none⟩, ⟨(.some 67), (.fadr 5 79 1 (.t 2)), (.some (66, .true))⟩, ⟨(.some 68), (.load .false 1 (.t 67)), (.some (66, .true))⟩, ⟨(.some 69), (.fadr 5 79 1 (.t 3)), (.some (66, .true))⟩, ⟨(.some 70), (.load .false 1 (.t 69)), (.some (66, .true))⟩, ⟨(.some 71), (.call 41 [(.t 68), (.t 70)]), (.some (66, .true))⟩, ⟨(.some 72), (.pick (.t 66) (.t 71) (.c (.sc (.bool .false)))), .none⟩, ⟨(.some 73), (.mv (.t 72)), .none⟩, ⟨(.some 74), (.fadr 6 80 1 (.t 2)), (.some (73, .true))⟩, ⟨(.some 75), (.load .false 1 (.t 74)), (.some (73, .true))⟩, ⟨(.some 76), (.fadr 6 80 1 (.t 3)), (.some (73, .true))⟩, ⟨(.some 77), (.load .false 1 (.t 76)), (.some (73, .true))⟩, ⟨(.some 78), (.call 42 [(.t 75), (.t 77)]), (.some (73, .true))⟩, ⟨(.some 79), (.pick (.t 73) (.t 78) (.c (.sc (.bool .false)))), .none⟩, ⟨(.some 80), (.mv (.t 79)), .none⟩, ⟨(.some 81), (.fadr 7 81 1 (.t 2)), (.some (80, .true))⟩, ⟨(.some 82), (.load .false 1 (.t 81)), (.some (80, .true))⟩, ⟨(.some 83), (.fadr 7 81 1 (.t 3)), (.some (80, .true))⟩, ⟨(.some 84), (.load .false 1 (.t 83)), (.some (80, .true))⟩, ⟨(.some 85), (.call 42 [(.t 82), (.t 84)]), (.some (80, .true))⟩, ⟨(.some 86), (.pick (.t 80) (.t 85) (.c (.sc (.bool .false)))), .none⟩, ⟨(.some 87), (.mv (.t 86)), .none⟩, ⟨(.some 88), (.fadr 8 82 1 (.t 2)), (.some (87, .true))⟩, ⟨(.some 89), (.load .false 1 (.t 88)), (.some (87, .true))⟩, ⟨(.some 90), (.fadr 8 82 1 (.t 3)), (.some (87, .true))⟩, ⟨(.some 91), (.load .false 1 (.t 90)), (.some (87, .true))⟩, ⟨(.some 92), (.call 43 [(.t 89), (.t 91)]), (.some (87, .true))⟩, ⟨(.some 93), (.pick (.t 87) (.t 92) (.c (.sc (.bool .false)))), .none⟩, ⟨(.some 94), (.mv (.t 93)), .none⟩, ⟨(.some 95), (.fadr 9 83 1 (.t 2)), (.some (94, .true))⟩, ⟨(.some 96), (.load .false 1 (.t 95)), (.some (94, .true))⟩, ⟨(.some 97), (.fadr 9 83 1 (.t 3)), (.some (94, .true))⟩, ⟨(.some 98), (.load .false 1 (.t 97)), (.some (94, .true))⟩, ⟨(.some 99), (.call 44 [(.t 96), (.t 98)]), (.some (94, .true))⟩, ⟨(.some 100), (.pick (.t 94) (.t 99) (.c (.sc (.bool .false)))), .none⟩, ⟨(.some 101), (.mv (.t 100)), .none⟩, ⟨(.some 102), (.fadr 10 84 1 (.t 2)), (.some (101, .true))⟩, ⟨(.some 103), (.load .false 1 (.t 102)), (.some (101, .true))⟩, ⟨(.some 104), (.fadr 10 84 1 (.t 3)), (.some (101, .true))⟩, ⟨(.some 105), (.load .false 1 (.t 104)), (.some (101, .true))⟩, ⟨(.some 106), (.call 45 [(.t 103), (.t 105)]), (.some (101, .true))⟩, ⟨(.some 107), (.pick (.t 101) (.t 106) (.c (.sc (.bool .false)))), .none⟩, ⟨(.some 108), (.mv (.t 107)), .none⟩, ⟨(.some 109), (.fadr 11 85 1 (.t 2)), (.some (108, .true))⟩, ⟨(.some 110), (.load .false 1 (.t 109)), (.some (108, .true))⟩, ⟨(.some 111), (.fadr 11 85 1 (.t 3)), (.some (108, .true))⟩, ⟨(.some 112), (.load .false 1 (.t 111)), (.some (108, .true))⟩, ⟨(.some 113), (.call 46 [(.t 110), (.t 112)]), (.some (108, .true))⟩, ⟨(.some 114), (.pick (.t 108) (.t 113) (.c (.sc (.bool .false)))), .none⟩, ⟨(.some 4), (.mv (.t 114)), .none⟩]) .ret))
theorem t_state_Same : trF Try.prog qq 18 = some (115, [(.tmp 4)], c_state_Same) := by kernel_rfl
def c_state_within : AC := (.seq (.ops [⟨(.some 3), (.box (.t 0)), .none⟩, ⟨(.some 4), (.box (.t 1)), .none⟩, ⟨(.some 6), (.mv (.c (.sc (.bool .false)))), .none⟩]) (.seq (.ops [⟨(.some 7), (.mv (.t 2)), .none⟩, ⟨(.some 8), (.mkf 51 [(.t 3), (.t 4)]), .none⟩, ⟨(.some 9), (.call 50 [(.t 7), (.t 8)]), .none⟩, ⟨(.some 10), (.un .not (.t 9)), .none⟩, ⟨(.some 6), (.mv (.t 10)), .none⟩]) .ret))
theorem t_state_within : trF Try.prog qq 23 = some (11, [(.tmp 6)], c_state_within) := by kernel_rfl
def c_state_side : AC := (.seq (.ops [⟨(.some 3), (.box (.t 0)), .none⟩, ⟨(.some 4), (.box (.t 1)), .none⟩, ⟨(.some 6), (.mv (.c (.sc (.bool .false)))), .none⟩]) (.seq (.seq (.ops [⟨(.some 7), (.fadr 2 32 3 (.t 4)), .none⟩, ⟨(.some 8), (.fadr 0 0 1 (.t 7)), .none⟩, ⟨(.some 9), (.load .false 1 (.t 8)), .none⟩, ⟨(.some 10), (.bin .lss (.t 9) (.c (.sc (.int .i64 0)))), .none⟩, ⟨(.some 11), (.mv (.t 10)), .none⟩, ⟨(.some 12), (.fadr 2 32 3 (.t 4)), (.some (11, .false))⟩, ⟨(.some 13), (.fadr 0 0 1 (.t 12)), (.some (11, .false))⟩, ⟨(.some 14), (.load .false 1 (.t 13)), (.some (11, .false))⟩, ⟨(.some 15), (.fadr 0 0 1 (.t 3)), (.some (11, .false))⟩, ⟨(.some 16), (.load .false 1 (.t 15)), (.some (11, .false))⟩, ⟨(.some 17), (.len .none (.t 16)), (.some (11, .false))⟩, ⟨(.some 18), (.bin .geq (.t 14) (.t 17)), (.some (11, .false))⟩, ⟨(.some 19), (.pick (.t 11) (.c (.sc (.bool .true))) (.t 18)), .none⟩]) (.cond (.t 19) (.seq (.ops [⟨(.some 6), (.mv (.c (.sc (.bool .false)))), .none⟩]) .ret) .skip)) (.seq (.ops [⟨(.some 20), (.mv (.t 2)), .none⟩, ⟨(.some 21), (.fadr 0 0 1 (.t 3)), .none⟩, ⟨(.some 22), (.load .false 1 (.t 21)), .none⟩, ⟨(.some 23), (.fadr 2 32 3 (.t 4)), .none⟩, ⟨(.some 24), (.fadr 0 0 1 (.t 23)), .none⟩, ⟨(.some 25), (.load .false 1 (.t 24)), .none⟩, ⟨(.some 26), (.iadr .none 6 (.t 22) (.t 25)), .none⟩, ⟨(.some 27), (.load .true 6 (.t 26)), .none⟩, ⟨(.some 28), (.callv (.t 20) [(.t 27)]), .none⟩, ⟨(.some 29), (.len .none (.t 28)), .none⟩, ⟨(.some 30), (.fadr 2 32 3 (.t 4)), .none⟩, ⟨(.some 31), (.fadr 1 1 1 (.t 30)), .none⟩, ⟨(.some 32), (.load .false 1 (.t 31)), .none⟩, ⟨(.some 33), (.bsl 1 [(.t 32)]), .none⟩, ⟨(.some 34), (.call 23 [(.c (.sc (.int .i64 0))), (.t 29), (.t 33)]), .none⟩, ⟨(.some 35), (.mv (.t 34)), .none⟩, ⟨(.some 36), (.fadr 2 32 3 (.t 4)), (.some (35, .true))⟩, ⟨(.some 37), (.fadr 2 2 1 (.t 36)), (.some (35, .true))⟩, ⟨(.some 38), (.load .false 1 (.t 37)), (.some (35, .true))⟩, ⟨(.some 39), (.fadr 3 35 1 (.t 4)), (.some (35, .true))⟩, ⟨(.some 40), (.load .false 1 (.t 39)), (.some (35, .true))⟩, ⟨(.some 41), (.fadr 5 37 1 (.t 4)), (.some (35, .true))⟩, ⟨(.some 42), (.load .false 1 (.t 41)), (.some (35, .true))⟩, ⟨(.some 43), (.bsl 1 [(.t 38), (.t 40), (.t 42)]), (.some (35, .true))⟩, ⟨(.some 44), (.call 23 [(.c (.sc (.int .i64 0))), (.c (.sc (.int .i64 1099511627776))), (.t 43)]), (.some (35, .true))⟩, ⟨(.some 45), (.pick (.t 35) (.t 44) (.c (.sc (.bool .false)))), .none⟩, ⟨(.some 46), (.mv (.t 45)), .none⟩, ⟨(.some 47), (.fadr 1 16 16 (.t 4)), (.some (46, .true))⟩, ⟨(.some 48), (.aslice 16 1 (.t 47) .none .none), (.some (46, .true))⟩, ⟨(.some 49), (.call 23 [(.c (.sc (.int .i64 (-1)))), (.c (.sc (.int .i64 1099511627776))), (.t 48)]), (.some (46, .true))⟩, ⟨(.some 50), (.pick (.t 46) (.t 49) (.c (.sc (.bool .false)))), .none⟩, ⟨(.some 6), (.mv (.t 50)), .none⟩]) .ret)))
theorem t_state_side : trF Try.prog qq 30 = some (51, [(.tmp 6)], c_state_side) := by kernel_rfl
def c_state_Right_1 : AC := (.seq (.ops [⟨(.some 1), (.box (.t 0)), .none⟩, ⟨(.some 2), (.mv (.c (.fro .true 0 []))), .none⟩]) (.seq (.ops [⟨(.some 3), (.fadr 4 4 1 (.t 1)), .none⟩, ⟨(.some 4), (.load .false 1 (.t 3)), .none⟩, ⟨(.some 2), (.mv (.t 4)), .none⟩]) .ret))
theorem t_state_Right_1 : trF Try.prog qq 31 = some (5, [(.tmp 2)], c_state_Right_1) := by kernel_rfl
def c_state_Right_2 : AC := (.seq (.ops [⟨(.some 1), (.box (.t 0)), .none⟩, ⟨(.some 2), (.mv (.c (.fro .true 0 []))), .none⟩]) (.seq (.ops [⟨(.some 3), (.fadr 5 5 1 (.t 1)), .none⟩, ⟨(.some 4), (.load .false 1 (.t 3)), .none⟩, ⟨(.some 2), (.mv (.t 4)), .none⟩]) .ret))
theorem t_state_Right_2 : trF Try.prog qq 32 = some (5, [(.tmp 2)], c_state_Right_2) := by kernel_rfl
def c_state_queues : AC := (.seq (.ops [⟨(.some 2), (.box (.t 0)), .none⟩, ⟨(.some 3), (.box (.t 1)), .none⟩, ⟨(.some 4), (.mv (.c (.sc (.bool .false)))), .none⟩]) (.seq (.ops [⟨(.some 5), (.fadr 3 77 1 (.t 3)), .none⟩, ⟨(.some 6), (.load .false 1 (.t 5)), .none⟩, ⟨(.some 7), (.len .none (.t 6)), .none⟩, ⟨(.some 8), (.fadr 0 0 1 (.t 2)), .none⟩, ⟨(.some 9), (.load .false 1 (.t 8)), .none⟩, ⟨(.some 10), (.bin .leq (.t 7) (.t 9)), .none⟩, ⟨(.some 11), (.mv (.t 10)), .none⟩, ⟨(.some 12), (.fadr 4 78 1 (.t 3)), (.some (11, .true))⟩, ⟨(.some 13), (.load .false 1 (.t 12)), (.some (11, .true))⟩, ⟨(.some 14), (.len .none (.t 13)), (.some (11, .true))⟩, ⟨(.some 15), (.fadr 1 1 1 (.t 2)), (.some (11, .true))⟩, ⟨(.some 16), (.load .false 1 (.t 15)), (.some (11, .true))⟩, ⟨(.some 17), (.bin .leq (.t 14) (.t 16)), (.some (11, .true))⟩, ⟨(.some 18), (.pick (.t 11) (.t 17) (.c (.sc (.bool .false)))), .none⟩, ⟨(.some 19), (.mv (.t 18)), .none⟩, ⟨(.some 20), (.fadr 5 79 1 (.t 3)), (.some (19, .true))⟩, ⟨(.some 21), (.load .false 1 (.t 20)), (.some (19, .true))⟩, ⟨(.some 22), (.len .none (.t 21)), (.some (19, .true))⟩, ⟨(.some 23), (.fadr 2 2 1 (.t 2)), (.some (19, .true))⟩, ⟨(.some 24), (.load .false 1 (.t 23)), (.some (19, .true))⟩, ⟨(.some 25), (.bin .leq (.t 22) (.t 24)), (.some (19, .true))⟩, ⟨(.some 26), (.pick (.t 19) (.t 25) (.c (.sc (.bool .false)))), .none⟩, ⟨(.some 27), (.mv (.t 26)), .none⟩, ⟨(.some 28), (.fadr 6 80 1 (.t 3)), (.some (27, .true))⟩, ⟨(.some 29), (.load .false 1 (.t 28)), (.some (27, .true))⟩, ⟨(.some 30), (.len .none (.t 29)), (.some (27, .true))⟩, ⟨(.some 31), (.fadr 3 3 1 (.t 2)), (.some (27, .true))⟩, ⟨(.some 32), (.load .false 1 (.t 31)), (.some (27, .true))⟩, ⟨(.some 33), (.bin .leq (.t 30) (.t 32)), (.some (27, .true))⟩, ⟨(.some 34), (.pick (.t 27) (.t 33) (.c (.sc (.bool .false)))), .none⟩, ⟨(.some 35), (.mv (.t 34)), .none⟩, ⟨(.some 36), (.fadr 7 81 1 (.t 3)), (.some (35, .true))⟩, ⟨(.some 37), (.load .false 1 (.t 36)), (.some (35, .true))⟩, ⟨(.some 38), (.len .none (.t 37)), (.some (35, .true))⟩, ⟨(.some 39), (.fadr 4 4 1 (.t 2)), (.some (35, .true))⟩, ⟨(.some 40), (.load .false 1 (.t 39)), (.some (35, .true))⟩, ⟨(.some 41), (.bin .leq (.t 38) (.t 40)), (.some (35, .true))⟩, ⟨(.some 42), (.pick (.t 35) (.t 41) (.c (.sc (.bool .false)))), .none⟩, ⟨(.some 43), (.mv (.t 42)), .none⟩, ⟨(.some 44), (.fadr 8 82 1 (.t 3)), (.some (43, .true))⟩, ⟨(.some 45), (.load .false 1 (.t 44)), (.some (43, .true))⟩, ⟨(.some 46), (.len .none (.t 45)), (.some (43, .true))⟩, ⟨(.some 47), (.fadr 5 5 1 (.t 2)), (.some (43, .true))⟩, ⟨(.some 48), (.load .false 1 (.t 47)), (.some (43, .true))⟩, ⟨(.some 49), (.bin .leq (.t 46) (.t 48)), (.some (43, .true))⟩, ⟨(.some 50), (.pick (.t 43) (.t 49) (.c (.sc (.bool .false)))), .none⟩, ⟨(.some 51), (.mv (.t 50)), .none⟩, ⟨(.some 52), (.fadr 9 83 1 (.t 3)), (.some (51, .true))⟩, ⟨(.some 53), (.load .false 1 (.t 52)), (.some (51, .true))⟩, ⟨(.some 54), (.len .none (.t 53)), (.some (51, .true))⟩, ⟨(.some 55), (.fadr 7 7 1 (.t 2)), (.some (51, .true))⟩, ⟨(.some 56), (.load .false 1 (.t 55)), (.some (51, .true))⟩, ⟨(.some 57), (.bin .leq (.t 54) (.t 56)), (.some (51, .true))⟩, ⟨(.some 58), (.pick (.t 51) (.t 57) (.c (.sc (.bool .false)))), .none⟩, ⟨(.some 59), (.mv (.t 58)), .none⟩, ⟨(.some 60), (.fadr 10 84 1 (.t 3)), (.some (59, .true))⟩, ⟨(.some 61), (.load .false 1 (.t 60)), (.some (59, .true))⟩, ⟨(.some 62), (.len .none (.t 61)), (.some (59, .true))⟩, ⟨(.some 63), (.bin .leq (.t 62) (.c (.sc (.int .i64 65536)))), (.some (59, .true))⟩, ⟨(.some 64), (.pick (.t 59) (.t 63) (.c (.sc (.bool .false)))), .none⟩, ⟨(.some 4), (.mv (.t 64)), .none⟩]) .ret))
theorem t_state_queues : trF Try.prog qq 33 = some (65, [(.tmp 4)], c_state_queues) := by kernel_rfl
def c_state_stores_l1 : AC := (.seq (.ops [⟨(.some 9), (.bin .lss (.t 8) (.t 7)), .none⟩]) (.seq (.cond (.t 9) .skip (.exit 0)) (.seq (.block 1 (.seq (.ops [⟨(.some 10), (.mv (.t 8)), .none⟩, ⟨(.some 11), (.iadr .none 5 (.t 6) (.t 8)), .none⟩, ⟨(.some 12), (.load .true 5 (.t 11)), .none⟩, ⟨(.some 4), (.box (.c (.agg 5 [(.sc (.int .i64 0)), (.sc (.int .i64 0)), (.sc (.int .i64 0)), (.sc (.bool .false)), (.sc (.int .u32 0))]))), .none⟩, ⟨(.some 3), (.mv (.t 10)), .none⟩, ⟨.none, (.store 5 (.t 4) (.t 12)), .none⟩]) (.seq (.ops [⟨(.some 13), (.fadr 10 84 1 (.t 1)), .none⟩, ⟨(.some 14), (.load .false 1 (.t 13)), .none⟩, ⟨(.some 15), (.fadr 0 0 1 (.t 4)), .none⟩, ⟨(.some 16), (.load .false 1 (.t 15)), .none⟩, ⟨(.some 17), (.fadr 1 1 1 (.t 4)), .none⟩, ⟨(.some 18), (.load .false 1 (.t 17)), .none⟩, ⟨(.some 19), (.call 59 [(.t 14), (.t 16), (.t 18)]), .none⟩, ⟨(.some 20), (.un .not (.t 19)), .none⟩, ⟨(.some 21), (.mv (.t 20)), .none⟩, ⟨(.some 22), (.fadr 2 2 1 (.t 4)), (.some (21, .false))⟩, ⟨(.some 23), (.load .false 1 (.t 22)), (.some (21, .false))⟩, ⟨(.some 24), (.bsl 1 [(.t 23)]), (.some (21, .false))⟩, ⟨(.some 25), (.call 23 [(.c (.sc (.int .i64 0))), (.c (.sc (.int .i64 1099511627776))), (.t 24)]), (.some (21, .false))⟩, ⟨(.some 26), (.un .not (.t 25)), (.some (21, .false))⟩, ⟨(.some 27), (.pick (.t 21) (.c (.sc (.bool .true))) (.t 26)), .none⟩, ⟨(.some 28), (.mv (.t 27)), .none⟩, ⟨(.some 29), (.fadr 3 3 1 (.t 4)), (.some (28, .false))⟩, ⟨(.some 30), (.load .false 1 (.t 29)), (.some (28, .false))⟩, ⟨(.some 31), (.mv (.t 30)), (.some (28, .false))⟩, ⟨(.some 32), (.mv (.t 3)), (.some (31, .true))⟩, ⟨(.some 33), (.bin .gtr (.t 32) (.c (.sc (.int .i64 0)))), (.some (31, .true))⟩, ⟨(.some 34), (.pick (.t 31) (.t 33) (.c (.sc (.bool .false)))), (.some (28, .false))⟩, ⟨(.some 35), (.pick (.t 28) (.c (.sc (.bool .true))) (.t 34)), .none⟩]) (.cond (.t 35) (.seq (.ops [⟨(.some 2), (.mv (.c (.sc (.bool .false)))), .none⟩]) .ret) .skip)))) (.ops [⟨(.some 36), (.bin .add (.t 8) (.c (.sc (.int .i64 1)))), .none⟩, ⟨(.some 8), (.mv (.t 36)), .none⟩]))))
def c_state_stores_p1 : AC := (.seq (.ops [⟨(.some 37), (.fadr 9 83 1 (.t 1)), .none⟩, ⟨(.some 38), (.load .false 1 (.t 37)), .none⟩, ⟨(.some 39), (.mkf 61 [(.t 1)]), .none⟩, ⟨(.some 40), (.call 60 [(.t 38), (.t 39)]), .none⟩, ⟨(.some 41), (.un .not (.t 40)), .none⟩, ⟨(.some 42), (.mv (.t 41)), .none⟩, ⟨(.some 43), (.load .true 92 (.t 1)), (.some (42, .true))⟩, ⟨(.some 44), (.call 63 [(.t 43)]), (.some (42, .true))⟩, ⟨(.some 45), (.pick (.t 42) (.t 44) (.c (.sc (.bool .false)))), .none⟩, ⟨(.some 2), (.mv (.t 45)), .none⟩]) .ret)
def c_state_stores : AC := (.seq (.ops [⟨(.some 1), (.box (.t 0)), .none⟩, ⟨(.some 2), (.mv (.c (.sc (.bool .false)))), .none⟩]) (.seq (.seq (.ops [⟨(.some 5), (.fadr 8 82 1 (.t 1)), .none⟩, ⟨(.some 6), (.load .false 1 (.t 5)), .none⟩, ⟨(.some 7), (.len .none (.t 6)), .none⟩, ⟨(.some 8), (.mv (.c (.sc (.int .i64 0)))), .none⟩]) (.block 0 (.loop c_state_stores_l1))) c_state_stores_p1))
theorem t_state_stores : trF Try.prog qq 34 = some (46, [(.tmp 2)], c_state_stores) := by kernel_rfl
def c_state_trap : AC := (.seq (.ops [⟨(.some 1), (.box (.t 0)), .none⟩, ⟨(.some 2), (.mv (.c (.sc (.bool .false)))), .none⟩]) (.seq (.seq (.ops [⟨(.some 3), (.fadr 0 0 1 (.t 1)), .none⟩, ⟨(.some 4), (.load .false 1 (.t 3)), .none⟩, ⟨(.some 5), (.bin .eql (.t 4) (.c (.sc (.int .i64 0)))), .none⟩]) (.cond (.t 5) (.seq (.ops [⟨(.some 6), (.fadr 1 1 1 (.t 1)), .none⟩, ⟨(.some 7), (.load .false 1 (.t 6)), .none⟩, ⟨(.some 8), (.bin .eql (.t 7) (.c (.sc (.int .i64 0)))), .none⟩, ⟨(.some 9), (.mv (.t 8)), .none⟩, ⟨(.some 10), (.fadr 2 2 1 (.t 1)), (.some (9, .true))⟩, ⟨(.some 11), (.load .false 1 (.t 10)), (.some (9, .true))⟩, ⟨(.some 12), (.bin .eql (.t 11) (.c (.sc (.int .i64 0)))), (.some (9, .true))⟩, ⟨(.some 13), (.pick (.t 9) (.t 12) (.c (.sc (.bool .false)))), .none⟩, ⟨(.some 2), (.mv (.t 13)), .none⟩]) .ret) .skip)) (.seq (.ops [⟨(.some 14), (.fadr 0 0 1 (.t 1)), .none⟩, ⟨(.some 15), (.load .false 1 (.t 14)), .none⟩, ⟨(.some 16), (.bsl 1 [(.t 15)]), .none⟩, ⟨(.some 17), (.call 23 [(.c (.sc (.int .i64 1))), (.c (.sc (.int .i64 4))), (.t 16)]), .none⟩, ⟨(.some 18), (.mv (.t 17)), .none⟩, ⟨(.some 19), (.fadr 1 1 1 (.t 1)), (.some (18, .true))⟩, ⟨(.some 20), (.load .false 1 (.t 19)), (.some (18, .true))⟩, ⟨(.some 21), (.fadr 2 2 1 (.t 1)), (.some (18, .true))⟩, ⟨(.some 22), (.load .false 1 (.t 21)), (.some (18, .true))⟩, ⟨(.some 23), (.bsl 1 [(.t 20), (.t 22)]), (.some (18, .true))⟩, ⟨(.some 24), (.call 23 [(.c (.sc (.int .i64 0))), (.c (.sc (.int .i64 1099511627776))), (.t 23)]), (.some (18, .true))⟩, ⟨(.some 25), (.pick (.t 18) (.t 24) (.c (.sc (.bool .false)))), .none⟩, ⟨(.some 2), (.mv (.t 25)), .none⟩]) .ret)))
theorem t_state_trap : trF Try.prog qq 35 = some (26, [(.tmp 2)], c_state_trap) := by kernel_rfl
def c_state_within_1 : AC := (.seq (.ops [⟨(.some 4), (.mv (.c (.sc (.bool .false)))), .none⟩]) (.seq (.ops [⟨(.some 5), (.mv (.t 0)), .none⟩, ⟨(.some 6), (.load .false 1 (.t 1)), .none⟩, ⟨(.some 7), (.bin .lss (.t 5) (.t 6)), .none⟩, ⟨(.some 8), (.mv (.t 7)), .none⟩, ⟨(.some 9), (.mv (.t 0)), (.some (8, .false))⟩, ⟨(.some 10), (.load .false 1 (.t 2)), (.some (8, .false))⟩, ⟨(.some 11), (.bin .gtr (.t 9) (.t 10)), (.some (8, .false))⟩, ⟨(.some 12), (.pick (.t 8) (.c (.sc (.bool .true))) (.t 11)), .none⟩, ⟨(.some 4), (.mv (.t 12)), .none⟩]) .ret))
theorem t_state_within_1 : trF Try.prog qq 51 = some (13, [(.tmp 4)], c_state_within_1) := by kernel_rfl
def c_state_place : AC := (.seq (.ops [⟨(.some 6), (.mv (.c (.sc (.bool .false)))), .none⟩]) (.seq (.ops [⟨(.some 7), (.mv (.t 2)), .none⟩, ⟨(.some 8), (.bin .eql (.t 7) (.c (.sc (.int .i64 1)))), .none⟩, ⟨(.some 9), (.mv (.t 8)), .none⟩, ⟨(.some 10), (.mv (.t 2)), (.some (9, .false))⟩, ⟨(.some 11), (.bin .eql (.t 10) (.c (.sc (.int .i64 2)))), (.some (9, .false))⟩, ⟨(.some 12), (.pick (.t 9) (.c (.sc (.bool .true))) (.t 11)), .none⟩, ⟨(.some 13), (.mv (.t 12)), .none⟩, ⟨(.some 14), (.mv (.t 2)), (.some (13, .false))⟩, ⟨(.some 15), (.bin .eql (.t 14) (.c (.sc (.int .i64 4)))), (.some (13, .false))⟩, ⟨(.some 16), (.pick (.t 13) (.c (.sc (.bool .true))) (.t 15)), .none⟩, ⟨(.some 17), (.mv (.t 16)), .none⟩, ⟨(.some 18), (.mv (.t 1)), (.some (17, .true))⟩, ⟨(.some 19), (.bin .geq (.t 18) (.c (.sc (.int .i64 0)))), (.some (17, .true))⟩, ⟨(.some 20), (.pick (.t 17) (.t 19) (.c (.sc (.bool .false)))), .none⟩, ⟨(.some 21), (.mv (.t 20)), .none⟩, ⟨(.some 22), (.mv (.t 1)), (.some (21, .true))⟩, ⟨(.some 23), (.mv (.t 0)), (.some (21, .true))⟩, ⟨(.some 24), (.len .none (.t 23)), (.some (21, .true))⟩, ⟨(.some 25), (.bin .leq (.t 22) (.t 24)), (.some (21, .true))⟩, ⟨(.some 26), (.pick (.t 21) (.t 25) (.c (.sc (.bool .false)))), .none⟩, ⟨(.some 27), (.mv (.t 26)), .none⟩, ⟨(.some 28), (.mv (.t 2)), (.some (27, .true))⟩, ⟨(.some 29), (.mv (.t 1)), (.some (27, .true))⟩, ⟨(.some 30), (.conv .u32 (.t 29)), (.some (27, .true))⟩, ⟨(.some 31), (.mv (.t 0)), (.some (27, .true))⟩, ⟨(.some 32), (.len .none (.t 31)), (.some (27, .true))⟩, ⟨(.some 33), (.call 83 [(.t 28), (.t 30), (.t 32)]), (.some (27, .true))⟩, ⟨(.some 34), (.bin .eql (.t 33) (.c (.sc (.int .i64 0)))), (.some (27, .true))⟩, ⟨(.some 35), (.pick (.t 27) (.t 34) (.c (.sc (.bool .false)))), .none⟩, ⟨(.some 6), (.mv (.t 35)), .none⟩]) .ret))
theorem t_state_place : trF Try.prog qq 59 = some (36, [(.tmp 6)], c_state_place) := by kernel_rfl
def c_state_stores_1 : AC := (.seq (.ops [⟨(.some 2), (.box (.t 0)), .none⟩, ⟨(.some 3), (.mv (.c (.sc (.bool .false)))), .none⟩]) (.seq (.ops [⟨(.some 4), (.fadr 10 84 1 (.t 1)), .none⟩, ⟨(.some 5), (.load .false 1 (.t 4)), .none⟩, ⟨(.some 6), (.load .true 8 (.t 2)), .none⟩, ⟨(.some 7), (.call 62 [(.t 5), (.t 6)]), .none⟩, ⟨(.some 8), (.un .not (.t 7)), .none⟩, ⟨(.some 3), (.mv (.t 8)), .none⟩]) .ret))
theorem t_state_stores_1 : trF Try.prog qq 61 = some (9, [(.tmp 3)], c_state_stores_1) := by kernel_rfl
def c_state_request : AC := (.seq (.ops [⟨(.some 3), (.box (.t 1)), .none⟩, ⟨(.some 4), (.mv (.c (.sc (.bool .false)))), .none⟩]) (.seq (.ops [⟨(.some 5), (.mv (.c (.sc (.int .i64 26)))), .none⟩, ⟨(.some 6), (.mv (.c (.sc (.int .i64 30)))), .none⟩]) (.seq (.seq (.ops [⟨(.some 7), (.fadr 0 0 1 (.t 3)), .none⟩, ⟨(.some 8), (.load .false 1 (.t 7)), .none⟩]) (.cond (.t 8) (.ops [⟨(.some 5), (.mv (.c (.sc (.int .i64 31)))), .none⟩, ⟨(.some 6), (.mv (.c (.sc (.int .i64 33)))), .none⟩]) .skip)) (.seq (.ops [⟨(.some 9), (.fadr 3 3 1 (.t 3)), .none⟩, ⟨(.some 10), (.load .false 1 (.t 9)), .none⟩, ⟨(.some 11), (.fadr 1 1 1 (.t 3)), .none⟩, ⟨(.some 12), (.load .false 1 (.t 11)), .none⟩, ⟨(.some 13), (.call 85 [(.t 12)]), .none⟩, ⟨(.some 14), (.bin .eql (.t 10) (.t 13)), .none⟩, ⟨(.some 15), (.mv (.t 14)), .none⟩, ⟨(.some 16), (.mv (.t 5)), (.some (15, .true))⟩, ⟨(.some 17), (.mv (.t 6)), (.some (15, .true))⟩, ⟨(.some 18), (.fadr 1 1 1 (.t 3)), (.some (15, .true))⟩, ⟨(.some 19), (.load .false 1 (.t 18)), (.some (15, .true))⟩, ⟨(.some 20), (.bsl 1 [(.t 19)]), (.some (15, .true))⟩, ⟨(.some 21), (.call 23 [(.t 16), (.t 17), (.t 20)]), (.some (15, .true))⟩, ⟨(.some 22), (.pick (.t 15) (.t 21) (.c (.sc (.bool .false)))), .none⟩, ⟨(.some 23), (.mv (.t 22)), .none⟩, ⟨(.some 24), (.mv (.t 0)), (.some (23, .true))⟩, ⟨(.some 25), (.fadr 2 2 1 (.t 3)), (.some (23, .true))⟩, ⟨(.some 26), (.load .false 1 (.t 25)), (.some (23, .true))⟩, ⟨(.some 27), (.fadr 3 3 1 (.t 3)), (.some (23, .true))⟩, ⟨(.some 28), (.load .false 1 (.t 27)), (.some (23, .true))⟩, ⟨(.some 29), (.call 59 [(.t 24), (.t 26), (.t 28)]), (.some (23, .true))⟩, ⟨(.some 30), (.pick (.t 23) (.t 29) (.c (.sc (.bool .false)))), .none⟩, ⟨(.some 31), (.mv (.t 30)), .none⟩, ⟨(.some 32), (.fadr 5 5 1 (.t 3)), (.some (31, .true))⟩, ⟨(.some 33), (.load .false 1 (.t 32)), (.some (31, .true))⟩, ⟨(.some 34), (.bsl 1 [(.t 33)]), (.some (31, .true))⟩, ⟨(.some 35), (.call 23 [(.c (.sc (.int .i64 0))), (.c (.sc (.int .i64 1000))), (.t 34)]), (.some (31, .true))⟩, ⟨(.some 36), (.pick (.t 31) (.t 35) (.c (.sc (.bool .false)))), .none⟩, ⟨(.some 37), (.mv (.t 36)), .none⟩, ⟨(.some 38), (.fadr 6 6 1 (.t 3)), (.some (37, .true))⟩, ⟨(.some 39), (.load .false 1 (.t 38)), (.some (37, .true))⟩, ⟨(.some 40), (.bsl 1 [(.t 39)]), (.some (37, .true))⟩, ⟨(.some 41), (.call 23 [(.c (.sc (.int .i64 (-1)))), (.c (.sc (.int .i64 15))), (.t 40)]), (.some (37, .true))⟩, ⟨(.some 42), (.pick (.t 37) (.t 41) (.c (.sc (.bool .false)))), .none⟩, ⟨(.some 4), (.mv (.t 42)), .none⟩]) .ret))))
theorem t_state_request : trF Try.prog qq 62 = some (43, [(.tmp 4)], c_state_request) := by kernel_rfl
def c_state_sent_l1 : AC := (.seq (.ops [⟨(.some 10), (.bin .lss (.t 9) (.t 8)), .none⟩]) (.seq (.cond (.t 10) .skip (.exit 0)) (.seq (.block 1 (.seq (.ops [⟨(.some 11), (.iadr .none 8 (.t 7) (.t 9)), .none⟩, ⟨(.some 12), (.load .true 8 (.t 11)), .none⟩, ⟨(.some 5), (.box (.c (.agg 8 [(.sc (.bool .false)), (.sc (.int .i64 0)), (.sc (.int .i64 0)), (.sc (.int .i64 0)), (.sc (.int .u32 0)), (.sc (.int .i64 0)), (.sc (.int .i64 0)), (.sc (.int .i64 0))]))), .none⟩, ⟨.none, (.store 8 (.t 5) (.t 12)), .none⟩]) (.seq (.seq (.ops [⟨(.some 13), (.fadr 0 0 1 (.t 5)), .none⟩, ⟨(.some 14), (.load .false 1 (.t 13)), .none⟩, ⟨(.some 15), (.un .not (.t 14)), .none⟩]) (.cond (.t 15) (.exit 1) .skip)) (.seq (.ops [⟨(.some 16), (.mv (.t 3)), .none⟩, ⟨(.some 17), (.bin .add (.t 16) (.c (.sc (.int .i64 1)))), .none⟩, ⟨(.some 3), (.mv (.t 17)), .none⟩]) (.seq (.ops [⟨(.some 18), (.fadr 8 82 1 (.t 1)), .none⟩, ⟨(.some 19), (.load .false 1 (.t 18)), .none⟩, ⟨(.some 20), (.len .none (.t 19)), .none⟩, ⟨(.some 21), (.bin .eql (.t 20) (.c (.sc (.int .i64 0)))), .none⟩, ⟨(.some 22), (.mv (.t 21)), .none⟩, ⟨(.some 23), (.fadr 2 2 1 (.t 5)), (.some (22, .false))⟩, ⟨(.some 24), (.load .false 1 (.t 23)), (.some (22, .false))⟩, ⟨(.some 25), (.fadr 8 82 1 (.t 1)), (.some (22, .false))⟩, ⟨(.some 26), (.load .false 1 (.t 25)), (.some (22, .false))⟩, ⟨(.some 27), (.iadr .none 5 (.t 26) (.c (.sc (.int .i64 0)))), (.some (22, .false))⟩, ⟨(.some 28), (.fadr 0 0 1 (.t 27)), (.some (22, .false))⟩, ⟨(.some 29), (.load .false 1 (.t 28)), (.some (22, .false))⟩, ⟨(.some 30), (.bin .neq (.t 24) (.t 29)), (.some (22, .false))⟩, ⟨(.some 31), (.pick (.t 22) (.c (.sc (.bool .true))) (.t 30)), .none⟩, ⟨(.some 32), (.mv (.t 31)), .none⟩, ⟨(.some 33), (.fadr 3 3 1 (.t 5)), (.some (32, .false))⟩, ⟨(.some 34), (.load .false 1 (.t 33)), (.some (32, .false))⟩, ⟨(.some 35), (.fadr 8 82 1 (.t 1)), (.some (32, .false))⟩, ⟨(.some 36), (.load .false 1 (.t 35)), (.some (32, .false))⟩, ⟨(.some 37), (.iadr .none 5 (.t 36) (.c (.sc (.int .i64 0)))), (.some (32, .false))⟩, ⟨(.some 38), (.fadr 1 1 1 (.t 37)), (.some (32, .false))⟩, ⟨(.some 39), (.load .false 1 (.t 38)), (.some (32, .false))⟩, ⟨(.some 40), (.bin .neq (.t 34) (.t 39)), (.some (32, .false))⟩, ⟨(.some 41), (.pick (.t 32) (.c (.sc (.bool .true))) (.t 40)), .none⟩]) (.cond (.t 41) (.seq (.ops [⟨(.some 2), (.mv (.c (.sc (.bool .false)))), .none⟩]) .ret) .skip)))))) (.ops [⟨(.some 42), (.bin .add (.t 9) (.c (.sc (.int .i64 1)))), .none⟩, ⟨(.some 9), (.mv (.t 42)), .none⟩]))))
def c_state_sent_p1 : AC := (.seq (.seq (.ops [⟨(.some 43), (.fadr 8 82 1 (.t 1)), .none⟩, ⟨(.some 44), (.load .false 1 (.t 43)), .none⟩, ⟨(.some 45), (.len .none (.t 44)), .none⟩, ⟨(.some 46), (.bin .gtr (.t 45) (.c (.sc (.int .i64 0)))), .none⟩, ⟨(.some 47), (.mv (.t 46)), .none⟩, ⟨(.some 48), (.fadr 8 82 1 (.t 1)), (.some (47, .true))⟩, ⟨(.some 49), (.load .false 1 (.t 48)), (.some (47, .true))⟩, ⟨(.some 50), (.iadr .none 5 (.t 49) (.c (.sc (.int .i64 0)))), (.some (47, .true))⟩, ⟨(.some 51), (.fadr 3 3 1 (.t 50)), (.some (47, .true))⟩, ⟨(.some 52), (.load .false 1 (.t 51)), (.some (47, .true))⟩, ⟨(.some 53), (.pick (.t 47) (.t 52) (.c (.sc (.bool .false)))), .none⟩]) (.cond (.t 53) (.seq (.ops [⟨(.some 54), (.mv (.t 3)), .none⟩, ⟨(.some 55), (.bin .eql (.t 54) (.c (.sc (.int .i64 1)))), .none⟩, ⟨(.some 2), (.mv (.t 55)), .none⟩]) .ret) .skip)) (.seq (.ops [⟨(.some 56), (.mv (.t 3)), .none⟩, ⟨(.some 57), (.bin .eql (.t 56) (.c (.sc (.int .i64 0)))), .none⟩, ⟨(.some 2), (.mv (.t 57)), .none⟩]) .ret))
def c_state_sent : AC := (.seq (.ops [⟨(.some 1), (.box (.t 0)), .none⟩, ⟨(.some 2), (.mv (.c (.sc (.bool .false)))), .none⟩]) (.seq (.ops [⟨(.some 3), (.mv (.c (.sc (.int .i64 0)))), .none⟩]) (.seq (.seq (.ops [⟨(.some 6), (.fadr 9 83 1 (.t 1)), .none⟩, ⟨(.some 7), (.load .false 1 (.t 6)), .none⟩, ⟨(.some 8), (.len .none (.t 7)), .none⟩, ⟨(.some 9), (.mv (.c (.sc (.int .i64 0)))), .none⟩]) (.block 0 (.loop c_state_sent_l1))) c_state_sent_p1)))
theorem t_state_sent : trF Try.prog qq 63 = some (58, [(.tmp 2)], c_state_sent) := by kernel_rfl
/-- The functions of state. -/
def cl_state : CodeL := [(11, 41, [(.tmp 2)], c_state_Config), (14, 10, [(.cell 2 .true 92)], c_state_First), (16, 47, [(.tmp 6)], c_state_Right), (18, 115, [(.tmp 4)], c_state_Same), (23, 11, [(.tmp 6)], c_state_within), (30, 51, [(.tmp 6)], c_state_side), (31, 5, [(.tmp 2)], c_state_Right_1), (32, 5, [(.tmp 2)], c_state_Right_2), (33, 65, [(.tmp 4)], c_state_queues), (34, 46, [(.tmp 2)], c_state_stores), (35, 26, [(.tmp 2)], c_state_trap), (51, 13, [(.tmp 4)], c_state_within_1), (59, 36, [(.tmp 6)], c_state_place), (61, 9, [(.tmp 3)], c_state_stores_1), (62, 43, [(.tmp 4)], c_state_request), (63, 58, [(.tmp 2)], c_state_sent)]
theorem clok_state : AllL (fun p => trF Try.prog qq p.1 = some p.2) cl_state := ⟨t_state_Config, t_state_First, t_state_Right, t_state_Same, t_state_within, t_state_side, t_state_Right_1, t_state_Right_2, t_state_queues, t_state_stores, t_state_trap, t_state_within_1, t_state_place, t_state_stores_1, t_state_request, t_state_sent, trivial⟩
end Go.Proofs.Ythmlnmkbeohojaa

/- Abstract code of the functions of slices: printed by a program from what the given translation yields. -/
namespace Go.Proofs.Ythmlnmkbeohojaa
open Go.Ra
def c_slices_Equal_Slot_Slot_l1 : AC := (.seq (.ops [⟨(.some 14), (.bin .lss (.t 13) (.t 12)), .none⟩]) (.seq (.cond (.t 14) .skip (.exit 0)) (.seq (.block 1 (.seq (.ops [⟨(.some 15), (.mv (.t 13)), .none⟩, ⟨(.some 5), (.mv (.t 15)), .none⟩]) (.seq (.ops [⟨(.some 16), (.mv (.t 0)), .none⟩, ⟨(.some 17), (.mv (.t 5)), .none⟩, ⟨(.some 18), (.iadr .none 3 (.t 16) (.t 17)), .none⟩, ⟨(.some 19), (.load .true 3 (.t 18)), .none⟩, ⟨(.some 20), (.mv (.t 1)), .none⟩, ⟨(.some 21), (.mv (.t 5)), .none⟩, ⟨(.some 22), (.iadr .none 3 (.t 20) (.t 21)), .none⟩, ⟨(.some 23), (.load .true 3 (.t 22)), .none⟩, ⟨(.some 24), (.eqs .true (.agg [(1, .int), (1, .bool), (1, .int)]) (.t 19) (.t 23)), .none⟩]) (.cond (.t 24) (.seq (.ops [⟨(.some 4), (.mv (.c (.sc (.bool .false)))), .none⟩]) .ret) .skip)))) (.ops [⟨(.some 25), (.bin .add (.t 13) (.c (.sc (.int .i64 1)))), .none⟩, ⟨(.some 13), (.mv (.t 25)), .none⟩]))))
def c_slices_Equal_Slot_Slot_p1 : AC := (.seq (.ops [⟨(.some 4), (.mv (.c (.sc (.bool .true)))), .none⟩]) .ret)
def c_slices_Equal_Slot_Slot : AC := (.seq (.ops [⟨(.some 4), (.mv (.c (.sc (.bool .false)))), .none⟩]) (.seq (.seq (.ops [⟨(.some 6), (.mv (.t 0)), .none⟩, ⟨(.some 7), (.len .none (.t 6)), .none⟩, ⟨(.some 8), (.mv (.t 1)), .none⟩, ⟨(.some 9), (.len .none (.t 8)), .none⟩, ⟨(.some 10), (.bin .neq (.t 7) (.t 9)), .none⟩]) (.cond (.t 10) (.seq (.ops [⟨(.some 4), (.mv (.c (.sc (.bool .false)))), .none⟩]) .ret) .skip)) (.seq (.seq (.ops [⟨(.some 11), (.mv (.t 0)), .none⟩, ⟨(.some 12), (.len .none (.t 11)), .none⟩, ⟨(.some 13), (.mv (.c (.sc (.int .i64 0)))), .none⟩]) (.block 0 (.loop c_slices_Equal_Slot_Slot_l1))) c_slices_Equal_Slot_Slot_p1)))
theorem t_slices_Equal_Slot_Slot : trF Try.prog qq 40 = some (26, [(.tmp 4)], c_slices_Equal_Slot_Slot) := by kernel_rfl
def c_slices_Equal_uint32_uint32_l1 : AC := (.seq (.ops [⟨(.some 14), (.bin .lss (.t 13) (.t 12)), .none⟩]) (.seq (.cond (.t 14) .skip (.exit 0)) (.seq (.block 1 (.seq (.ops [⟨(.some 15), (.mv (.t 13)), .none⟩, ⟨(.some 5), (.mv (.t 15)), .none⟩]) (.seq (.ops [⟨(.some 16), (.mv (.t 0)), .none⟩, ⟨(.some 17), (.mv (.t 5)), .none⟩, ⟨(.some 18), (.iadr .none 1 (.t 16) (.t 17)), .none⟩, ⟨(.some 19), (.load .false 1 (.t 18)), .none⟩, ⟨(.some 20), (.mv (.t 1)), .none⟩, ⟨(.some 21), (.mv (.t 5)), .none⟩, ⟨(.some 22), (.iadr .none 1 (.t 20) (.t 21)), .none⟩, ⟨(.some 23), (.load .false 1 (.t 22)), .none⟩, ⟨(.some 24), (.bin .neq (.t 19) (.t 23)), .none⟩]) (.cond (.t 24) (.seq (.ops [⟨(.some 4), (.mv (.c (.sc (.bool .false)))), .none⟩]) .ret) .skip)))) (.ops [⟨(.some 25), (.bin .add (.t 13) (.c (.sc (.int .i64 1)))), .none⟩, ⟨(.some 13), (.mv (.t 25)), .none⟩]))))
def c_slices_Equal_uint32_uint32_p1 : AC := (.seq (.ops [⟨(.some 4), (.mv (.c (.sc (.bool .true)))), .none⟩]) .ret)
def c_slices_Equal_uint32_uint32 : AC := (.seq (.ops [⟨(.some 4), (.mv (.c (.sc (.bool .false)))), .none⟩]) (.seq (.seq (.ops [⟨(.some 6), (.mv (.t 0)), .none⟩, ⟨(.some 7), (.len .none (.t 6)), .none⟩, ⟨(.some 8), (.mv (.t 1)), .none⟩, ⟨(.some 9), (.len .none (.t 8)), .none⟩, ⟨(.some 10), (.bin .neq (.t 7) (.t 9)), .none⟩]) (.cond (.t 10) (.seq (.ops [⟨(.some 4), (.mv (.c (.sc (.bool .false)))), .none⟩]) .ret) .skip)) (.seq (.seq (.ops [⟨(.some 11), (.mv (.t 0)), .none⟩, ⟨(.some 12), (.len .none (.t 11)), .none⟩, ⟨(.some 13), (.mv (.c (.sc (.int .i64 0)))), .none⟩]) (.block 0 (.loop c_slices_Equal_uint32_uint32_l1))) c_slices_Equal_uint32_uint32_p1)))
theorem t_slices_Equal_uint32_uint32 : trF Try.prog qq 41 = some (26, [(.tmp 4)], c_slices_Equal_uint32_uint32) := by kernel_rfl
def c_slices_Equal_bool_bool_l1 : AC := (.seq (.ops [⟨(.some 14), (.bin .lss (.t 13) (.t 12)), .none⟩]) (.seq (.cond (.t 14) .skip (.exit 0)) (.seq (.block 1 (.seq (.ops [⟨(.some 15), (.mv (.t 13)), .none⟩, ⟨(.some 5), (.mv (.t 15)), .none⟩]) (.seq (.ops [⟨(.some 16), (.mv (.t 0)), .none⟩, ⟨(.some 17), (.mv (.t 5)), .none⟩, ⟨(.some 18), (.iadr .none 1 (.t 16) (.t 17)), .none⟩, ⟨(.some 19), (.load .false 1 (.t 18)), .none⟩, ⟨(.some 20), (.mv (.t 1)), .none⟩, ⟨(.some 21), (.mv (.t 5)), .none⟩, ⟨(.some 22), (.iadr .none 1 (.t 20) (.t 21)), .none⟩, ⟨(.some 23), (.load .false 1 (.t 22)), .none⟩, ⟨(.some 24), (.eqs .true .bool (.t 19) (.t 23)), .none⟩]) (.cond (.t 24) (.seq (.ops [⟨(.some 4), (.mv (.c (.sc (.bool .false)))), .none⟩]) .ret) .skip)))) (.ops [⟨(.some 25), (.bin .add (.t 13) (.c (.sc (.int .i64 1)))), .none⟩, ⟨(.some 13), (.mv (.t 25)), .none⟩]))))
def c_slices_Equal_bool_bool_p1 : AC := (.seq (.ops [⟨(.some 4), (.mv (.c (.sc (.bool .true)))), .none⟩]) .ret)
def c_slices_Equal_bool_bool : AC := (.seq (.ops [⟨(.some 4), (.mv (.c (.sc (.bool .false)))), .none⟩]) (.seq (.seq (.ops [⟨(.some 6), (.mv (.t 0)), .none⟩, ⟨(.some 7), (.len .none (.t 6)), .none⟩, ⟨(.some 8), (.mv (.t 1)), .none⟩, ⟨(.some 9), (.len .none (.t 8)), .none⟩, ⟨(.some 10), (.bin .neq (.t 7) (.t 9)), .none⟩]) (.cond (.t 10) (.seq (.ops [⟨(.some 4), (.mv (.c (.sc (.bool .false)))), .none⟩]) .ret) .skip)) (.seq (.seq (.ops [⟨(.some 11), (.mv (.t 0)), .none⟩, ⟨(.some 12), (.len .none (.t 11)), .none⟩, ⟨(.some 13), (.mv (.c (.sc (.int .i64 0)))), .none⟩]) (.block 0 (.loop c_slices_Equal_bool_bool_l1))) c_slices_Equal_bool_bool_p1)))
theorem t_slices_Equal_bool_bool : trF Try.prog qq 42 = some (26, [(.tmp 4)], c_slices_Equal_bool_bool) := by kernel_rfl
def c_slices_Equal_Entry_Entry_l1 : AC := (.seq (.ops [⟨(.some 14), (.bin .lss (.t 13) (.t 12)), .none⟩]) (.seq (.cond (.t 14) .skip (.exit 0)) (.seq (.block 1 (.seq (.ops [⟨(.some 15), (.mv (.t 13)), .none⟩, ⟨(.some 5), (.mv (.t 15)), .none⟩]) (.seq (.ops [⟨(.some 16), (.mv (.t 0)), .none⟩, ⟨(.some 17), (.mv (.t 5)), .none⟩, ⟨(.some 18), (.iadr .none 5 (.t 16) (.t 17)), .none⟩, ⟨(.some 19), (.load .true 5 (.t 18)), .none⟩, ⟨(.some 20), (.mv (.t 1)), .none⟩, ⟨(.some 21), (.mv (.t 5)), .none⟩, ⟨(.some 22), (.iadr .none 5 (.t 20) (.t 21)), .none⟩, ⟨(.some 23), (.load .true 5 (.t 22)), .none⟩, ⟨(.some 24), (.eqs .true (.agg [(1, .int), (1, .int), (1, .int), (1, .bool), (1, .int)]) (.t 19) (.t 23)), .none⟩]) (.cond (.t 24) (.seq (.ops [⟨(.some 4), (.mv (.c (.sc (.bool .false)))), .none⟩]) .ret) .skip)))) (.ops [⟨(.some 25), (.bin .add (.t 13) (.c (.sc (.int .i64 1)))), .none⟩, ⟨(.some 13), (.mv (.t 25)), .none⟩]))))
def c_slices_Equal_Entry_Entry_p1 : AC := (.seq (.ops [⟨(.some 4), (.mv (.c (.sc (.bool .true)))), .none⟩]) .ret)
def c_slices_Equal_Entry_Entry : AC := (.seq (.ops [⟨(.some 4), (.mv (.c (.sc (.bool .false)))), .none⟩]) (.seq (.seq (.ops [⟨(.some 6), (.mv (.t 0)), .none⟩, ⟨(.some 7), (.len .none (.t 6)), .none⟩, ⟨(.some 8), (.mv (.t 1)), .none⟩, ⟨(.some 9), (.len .none (.t 8)), .none⟩, ⟨(.some 10), (.bin .neq (.t 7) (.t 9)), .none⟩]) (.cond (.t 10) (.seq (.ops [⟨(.some 4), (.mv (.c (.sc (.bool .false)))), .none⟩]) .ret) .skip)) (.seq (.seq (.ops [⟨(.some 11), (.mv (.t 0)), .none⟩, ⟨(.some 12), (.len .none (.t 11)), .none⟩, ⟨(.some 13), (.mv (.c (.sc (.int .i64 0)))), .none⟩]) (.block 0 (.loop c_slices_Equal_Entry_Entry_l1))) c_slices_Equal_Entry_Entry_p1)))
theorem t_slices_Equal_Entry_Entry : trF Try.prog qq 43 = some (26, [(.tmp 4)], c_slices_Equal_Entry_Entry) := by kernel_rfl
def c_slices_Equal_Request_Request_l1 : AC := (.seq (.ops [⟨(.some 14), (.bin .lss (.t 13) (.t 12)), .none⟩]) (.seq (.cond (.t 14) .skip (.exit 0)) (.seq (.block 1 (.seq (.ops [⟨(.some 15), (.mv (.t 13)), .none⟩, ⟨(.some 5), (.mv (.t 15)), .none⟩]) (.seq (.ops [⟨(.some 16), (.mv (.t 0)), .none⟩, ⟨(.some 17), (.mv (.t 5)), .none⟩, ⟨(.some 18), (.iadr .none 8 (.t 16) (.t 17)), .none⟩, ⟨(.some 19), (.load .true 8 (.t 18)), .none⟩, ⟨(.some 20), (.mv (.t 1)), .none⟩, ⟨(.some 21), (.mv (.t 5)), .none⟩, ⟨(.some 22), (.iadr .none 8 (.t 20) (.t 21)), .none⟩, ⟨(.some 23), (.load .true 8 (.t 22)), .none⟩, ⟨(.some 24), (.eqs .true (.agg [(1, .bool), (1, .int), (1, .int), (1, .int), (1, .int), (1, .int), (1, .int), (1, .int)]) (.t 19) (.t 23)), .none⟩]) (.cond (.t 24) (.seq (.ops [⟨(.some 4), (.mv (.c (.sc (.bool .false)))), .none⟩]) .ret) .skip)))) (.ops [⟨(.some 25), (.bin .add (.t 13) (.c (.sc (.int .i64 1)))), .none⟩, ⟨(.some 13), (.mv (.t 25)), .none⟩]))))
def c_slices_Equal_Request_Request_p1 : AC := (.seq (.ops [⟨(.some 4), (.mv (.c (.sc (.bool .true)))), .none⟩]) .ret)
def c_slices_Equal_Request_Request : AC := (.seq (.ops [⟨(.some 4), (.mv (.c (.sc (.bool .false)))), .none⟩]) (.seq (.seq (.ops [⟨(.some 6), (.mv (.t 0)), .none⟩, ⟨(.some 7), (.len .none (.t 6)), .none⟩, ⟨(.some 8), (.mv (.t 1)), .none⟩, ⟨(.some 9), (.len .none (.t 8)), .none⟩, ⟨(.some 10), (.bin .neq (.t 7) (.t 9)), .none⟩]) (.cond (.t 10) (.seq (.ops [⟨(.some 4), (.mv (.c (.sc (.bool .false)))), .none⟩]) .ret) .skip)) (.seq (.seq (.ops [⟨(.some 11), (.mv (.t 0)), .none⟩, ⟨(.some 12), (.len .none (.t 11)), .none⟩, ⟨(.some 13), (.mv (.c (.sc (.int .i64 0)))), .none⟩]) (.block 0 (.loop c_slices_Equal_Request_Request_l1))) c_slices_Equal_Request_Request_p1)))
theorem t_slices_Equal_Request_Request : trF Try.prog qq 44 = some (26, [(.tmp 4)], c_slices_Equal_Request_Request) := by kernel_rfl
def c_slices_Equal_byte_byte_l1 : AC := (.seq (.ops [⟨(.some 14), (.bin .lss (.t 13) (.t 12)), .none⟩]) (.seq (.cond (.t 14) .skip (.exit 0)) (.seq (.block 1 (.seq (.ops [⟨(.some 15), (.mv (.t 13)), .none⟩, ⟨(.some 5), (.mv (.t 15)), .none⟩]) (.seq (.ops [⟨(.some 16), (.mv (.t 0)), .none⟩, ⟨(.some 17), (.mv (.t 5)), .none⟩, ⟨(.some 18), (.iadr .none 1 (.t 16) (.t 17)), .none⟩, ⟨(.some 19), (.load .false 1 (.t 18)), .none⟩, ⟨(.some 20), (.mv (.t 1)), .none⟩, ⟨(.some 21), (.mv (.t 5)), .none⟩, ⟨(.some 22), (.iadr .none 1 (.t 20) (.t 21)), .none⟩, ⟨(.some 23), (.load .false 1 (.t 22)), .none⟩, ⟨(.some 24), (.bin .neq (.t 19) (.t 23)), .none⟩]) (.cond (.t 24) (.seq (.ops [⟨(.some 4), (.mv (.c (.sc (.bool .false)))), .none⟩]) .ret) .skip)))) (.ops [⟨(.some 25), (.bin .add (.t 13) (.c (.sc (.int .i64 1)))), .none⟩, ⟨(.some 13), (.mv (.t 25)), .none⟩]))))
def c_slices_Equal_byte_byte_p1 : AC := (.seq (.ops [⟨(.some 4), (.mv (.c (.sc (.bool .true)))), .none⟩]) .ret)
def c_slices_Equal_byte_byte : AC := (.seq (.ops [⟨(.some 4), (.mv (.c (.sc (.bool .false)))), .none⟩]) (.seq (.seq (.ops [⟨(.some 6), (.mv (.t 0)), .none⟩, ⟨(.some 7), (.len .none (.t 6)), .none⟩, ⟨(.some 8), (.mv (.t 1)), .none⟩, ⟨(.some 9), (.len .none (.t 8)), .none⟩, ⟨(.some 10), (.bin .neq (.t 7) (.t 9)), .none⟩]) (.cond (.t 10) (.seq (.ops [⟨(.some 4), (.mv (.c (.sc (.bool .false)))), .none⟩]) .ret) .skip)) (.seq (.seq (.ops [⟨(.some 11), (.mv (.t 0)), .none⟩, ⟨(.some 12), (.len .none (.t 11)), .none⟩, ⟨(.some 13), (.mv (.c (.sc (.int .i64 0)))), .none⟩]) (.block 0 (.loop c_slices_Equal_byte_byte_l1))) c_slices_Equal_byte_byte_p1)))
theorem t_slices_Equal_byte_byte : trF Try.prog qq 45 = some (26, [(.tmp 4)], c_slices_Equal_byte_byte) := by kernel_rfl
def c_slices_Equal_Write_Write_l1 : AC := (.seq (.ops [⟨(.some 14), (.bin .lss (.t 13) (.t 12)), .none⟩]) (.seq (.cond (.t 14) .skip (.exit 0)) (.seq (.block 1 (.seq (.ops [⟨(.some 15), (.mv (.t 13)), .none⟩, ⟨(.some 5), (.mv (.t 15)), .none⟩]) (.seq (.ops [⟨(.some 16), (.mv (.t 0)), .none⟩, ⟨(.some 17), (.mv (.t 5)), .none⟩, ⟨(.some 18), (.iadr .none 3 (.t 16) (.t 17)), .none⟩, ⟨(.some 19), (.load .true 3 (.t 18)), .none⟩, ⟨(.some 20), (.mv (.t 1)), .none⟩, ⟨(.some 21), (.mv (.t 5)), .none⟩, ⟨(.some 22), (.iadr .none 3 (.t 20) (.t 21)), .none⟩, ⟨(.some 23), (.load .true 3 (.t 22)), .none⟩, ⟨(.some 24), (.eqs .true (.agg [(1, .int), (1, .int), (1, .int)]) (.t 19) (.t 23)), .none⟩]) (.cond (.t 24) (.seq (.ops [⟨(.some 4), (.mv (.c (.sc (.bool .false)))), .none⟩]) .ret) .skip)))) (.ops [⟨(.some 25), (.bin .add (.t 13) (.c (.sc (.int .i64 1)))), .none⟩, ⟨(.some 13), (.mv (.t 25)), .none⟩]))))
def c_slices_Equal_Write_Write_p1 : AC := (.seq (.ops [⟨(.some 4), (.mv (.c (.sc (.bool .true)))), .none⟩]) .ret)
def c_slices_Equal_Write_Write : AC := (.seq (.ops [⟨(.some 4), (.mv (.c (.sc (.bool .false)))), .none⟩]) (.seq (.seq (.ops [⟨(.some 6), (.mv (.t 0)), .none⟩, ⟨(.some 7), (.len .none (.t 6)), .none⟩, ⟨(.some 8), (.mv (.t 1)), .none⟩, ⟨(.some 9), (.len .none (.t 8)), .none⟩, ⟨(.some 10), (.bin .neq (.t 7) (.t 9)), .none⟩]) (.cond (.t 10) (.seq (.ops [⟨(.some 4), (.mv (.c (.sc (.bool .false)))), .none⟩]) .ret) .skip)) (.seq (.seq (.ops [⟨(.some 11), (.mv (.t 0)), .none⟩, ⟨(.some 12), (.len .none (.t 11)), .none⟩, ⟨(.some 13), (.mv (.c (.sc (.int .i64 0)))), .none⟩]) (.block 0 (.loop c_slices_Equal_Write_Write_l1))) c_slices_Equal_Write_Write_p1)))
theorem t_slices_Equal_Write_Write : trF Try.prog qq 46 = some (26, [(.tmp 4)], c_slices_Equal_Write_Write) := by kernel_rfl
def c_slices_ContainsFunc_int_int : AC := (.seq (.ops [⟨(.some 4), (.mv (.c (.sc (.bool .false)))), .none⟩]) (.seq (.ops [⟨(.some 5), (.mv (.t 0)), .none⟩, ⟨(.some 6), (.mv (.t 1)), .none⟩, ⟨(.some 7), (.call 71 [(.t 5), (.t 6)]), .none⟩, ⟨(.some 8), (.bin .geq (.t 7) (.c (.sc (.int .i64 0)))), .none⟩, ⟨(.some 4), (.mv (.t 8)), .none⟩]) .ret))
theorem t_slices_ContainsFunc_int_int : trF Try.prog qq 50 = some (9, [(.tmp 4)], c_slices_ContainsFunc_int_int) := by kernel_rfl
def c_slices_ContainsFunc_Ins_Ins : AC := (.seq (.ops [⟨(.some 4), (.mv (.c (.sc (.bool .false)))), .none⟩]) (.seq (.ops [⟨(.some 5), (.mv (.t 0)), .none⟩, ⟨(.some 6), (.mv (.t 1)), .none⟩, ⟨(.some 7), (.call 78 [(.t 5), (.t 6)]), .none⟩, ⟨(.some 8), (.bin .geq (.t 7) (.c (.sc (.int .i64 0)))), .none⟩, ⟨(.some 4), (.mv (.t 8)), .none⟩]) .ret))
theorem t_slices_ContainsFunc_Ins_Ins : trF Try.prog qq 55 = some (9, [(.tmp 4)], c_slices_ContainsFunc_Ins_Ins) := by kernel_rfl
def c_slices_ContainsFunc_Request_Request : AC := (.seq (.ops [⟨(.some 4), (.mv (.c (.sc (.bool .false)))), .none⟩]) (.seq (.ops [⟨(.some 5), (.mv (.t 0)), .none⟩, ⟨(.some 6), (.mv (.t 1)), .none⟩, ⟨(.some 7), (.call 84 [(.t 5), (.t 6)]), .none⟩, ⟨(.some 8), (.bin .geq (.t 7) (.c (.sc (.int .i64 0)))), .none⟩, ⟨(.some 4), (.mv (.t 8)), .none⟩]) .ret))
theorem t_slices_ContainsFunc_Request_Request : trF Try.prog qq 60 = some (9, [(.tmp 4)], c_slices_ContainsFunc_Request_Request) := by kernel_rfl
def c_slices_IndexFunc_int_int_l1 : AC := (.seq (.ops [⟨(.some 9), (.bin .lss (.t 8) (.t 7)), .none⟩]) (.seq (.cond (.t 9) .skip (.exit 0)) (.seq (.block 1 (.seq (.ops [⟨(.some 10), (.mv (.t 8)), .none⟩, ⟨(.some 5), (.mv (.t 10)), .none⟩]) (.seq (.ops [⟨(.some 11), (.mv (.t 1)), .none⟩, ⟨(.some 12), (.mv (.t 0)), .none⟩, ⟨(.some 13), (.mv (.t 5)), .none⟩, ⟨(.some 14), (.iadr .none 1 (.t 12) (.t 13)), .none⟩, ⟨(.some 15), (.load .false 1 (.t 14)), .none⟩, ⟨(.some 16), (.callv (.t 11) [(.t 15)]), .none⟩]) (.cond (.t 16) (.seq (.ops [⟨(.some 17), (.mv (.t 5)), .none⟩, ⟨(.some 4), (.mv (.t 17)), .none⟩]) .ret) .skip)))) (.ops [⟨(.some 18), (.bin .add (.t 8) (.c (.sc (.int .i64 1)))), .none⟩, ⟨(.some 8), (.mv (.t 18)), .none⟩]))))
def c_slices_IndexFunc_int_int_p1 : AC := (.seq (.ops [⟨(.some 4), (.mv (.c (.sc (.int .i64 (-1))))), .none⟩]) .ret)
def c_slices_IndexFunc_int_int : AC := (.seq (.ops [⟨(.some 4), (.mv (.c (.sc (.int .i64 0)))), .none⟩]) (.seq (.seq (.ops [⟨(.some 6), (.mv (.t 0)), .none⟩, ⟨(.some 7), (.len .none (.t 6)), .none⟩, ⟨(.some 8), (.mv (.c (.sc (.int .i64 0)))), .none⟩]) (.block 0 (.loop c_slices_IndexFunc_int_int_l1))) c_slices_IndexFunc_int_int_p1))
theorem t_slices_IndexFunc_int_int : trF Try.prog qq 71 = some (19, [(.tmp 4)], c_slices_IndexFunc_int_int) := by kernel_rfl
def c_slices_IndexFunc_Ins_Ins_l1 : AC := (.seq (.ops [⟨(.some 9), (.bin .lss (.t 8) (.t 7)), .none⟩]) (.seq (.cond (.t 9) .skip (.exit 0)) (.seq (.block 1 (.seq (.ops [⟨(.some 10), (.mv (.t 8)), .none⟩, ⟨(.some 5), (.mv (.t 10)), .none⟩]) (.seq (.ops [⟨(.some 11), (.mv (.t 1)), .none⟩, ⟨(.some 12), (.mv (.t 0)), .none⟩, ⟨(.some 13), (.mv (.t 5)), .none⟩, ⟨(.some 14), (.iadr .none 5 (.t 12) (.t 13)), .none⟩, ⟨(.some 15), (.load .true 5 (.t 14)), .none⟩, ⟨(.some 16), (.callv (.t 11) [(.t 15)]), .none⟩]) (.cond (.t 16) (.seq (.ops [⟨(.some 17), (.mv (.t 5)), .none⟩, ⟨(.some 4), (.mv (.t 17)), .none⟩]) .ret) .skip)))) (.ops [⟨(.some 18), (.bin .add (.t 8) (.c (.sc (.int .i64 1)))), .none⟩, ⟨(.some 8), (.mv (.t 18)), .none⟩]))))
def c_slices_IndexFunc_Ins_Ins_p1 : AC := (.seq (.ops [⟨(.some 4), (.mv (.c (.sc (.int .i64 (-1))))), .none⟩]) .ret)
def c_slices_IndexFunc_Ins_Ins : AC := (.seq (.ops [⟨(.some 4), (.mv (.c (.sc (.int .i64 0)))), .none⟩]) (.seq (.seq (.ops [⟨(.some 6), (.mv (.t 0)), .none⟩, ⟨(.some 7), (.len .none (.t 6)), .none⟩, ⟨(.some 8), (.mv (.c (.sc (.int .i64 0)))), .none⟩]) (.block 0 (.loop c_slices_IndexFunc_Ins_Ins_l1))) c_slices_IndexFunc_Ins_Ins_p1))
theorem t_slices_IndexFunc_Ins_Ins : trF Try.prog qq 78 = some (19, [(.tmp 4)], c_slices_IndexFunc_Ins_Ins) := by kernel_rfl
def c_slices_IndexFunc_Request_Request_l1 : AC := (.seq (.ops [⟨(.some 9), (.bin .lss (.t 8) (.t 7)), .none⟩]) (.seq (.cond (.t 9) .skip (.exit 0)) (.seq (.block 1 (.seq (.ops [⟨(.some 10), (.mv (.t 8)), .none⟩, ⟨(.some 5), (.mv (.t 10)), .none⟩]) (.seq (.ops [⟨(.some 11), (.mv (.t 1)), .none⟩, ⟨(.some 12), (.mv (.t 0)), .none⟩, ⟨(.some 13), (.mv (.t 5)), .none⟩, ⟨(.some 14), (.iadr .none 8 (.t 12) (.t 13)), .none⟩, ⟨(.some 15), (.load .true 8 (.t 14)), .none⟩, ⟨(.some 16), (.callv (.t 11) [(.t 15)]), .none⟩]) (.cond (.t 16) (.seq (.ops [⟨(.some 17), (.mv (.t 5)), .none⟩, ⟨(.some 4), (.mv (.t 17)), .none⟩]) .ret) .skip)))) (.ops [⟨(.some 18), (.bin .add (.t 8) (.c (.sc (.int .i64 1)))), .none⟩, ⟨(.some 8), (.mv (.t 18)), .none⟩]))))
def c_slices_IndexFunc_Request_Request_p1 : AC := (.seq (.ops [⟨(.some 4), (.mv (.c (.sc (.int .i64 (-1))))), .none⟩]) .ret)
def c_slices_IndexFunc_Request_Request : AC := (.seq (.ops [⟨(.some 4), (.mv (.c (.sc (.int .i64 0)))), .none⟩]) (.seq (.seq (.ops [⟨(.some 6), (.mv (.t 0)), .none⟩, ⟨(.some 7), (.len .none (.t 6)), .none⟩, ⟨(.some 8), (.mv (.c (.sc (.int .i64 0)))), .none⟩]) (.block 0 (.loop c_slices_IndexFunc_Request_Request_l1))) c_slices_IndexFunc_Request_Request_p1))
theorem t_slices_IndexFunc_Request_Request : trF Try.prog qq 84 = some (19, [(.tmp 4)], c_slices_IndexFunc_Request_Request) := by kernel_rfl
/-- The functions of slices. -/
def cl_slices : CodeL := [(40, 26, [(.tmp 4)], c_slices_Equal_Slot_Slot), (41, 26, [(.tmp 4)], c_slices_Equal_uint32_uint32), (42, 26, [(.tmp 4)], c_slices_Equal_bool_bool), (43, 26, [(.tmp 4)], c_slices_Equal_Entry_Entry), (44, 26, [(.tmp 4)], c_slices_Equal_Request_Request), (45, 26, [(.tmp 4)], c_slices_Equal_byte_byte), (46, 26, [(.tmp 4)], c_slices_Equal_Write_Write), (50, 9, [(.tmp 4)], c_slices_ContainsFunc_int_int), (55, 9, [(.tmp 4)], c_slices_ContainsFunc_Ins_Ins), (60, 9, [(.tmp 4)], c_slices_ContainsFunc_Request_Request), (71, 19, [(.tmp 4)], c_slices_IndexFunc_int_int), (78, 19, [(.tmp 4)], c_slices_IndexFunc_Ins_Ins), (84, 19, [(.tmp 4)], c_slices_IndexFunc_Request_Request)]
theorem clok_slices : AllL (fun p => trF Try.prog qq p.1 = some p.2) cl_slices := ⟨t_slices_Equal_Slot_Slot, t_slices_Equal_uint32_uint32, t_slices_Equal_bool_bool, t_slices_Equal_Entry_Entry, t_slices_Equal_Request_Request, t_slices_Equal_byte_byte, t_slices_Equal_Write_Write, t_slices_ContainsFunc_int_int, t_slices_ContainsFunc_Ins_Ins, t_slices_ContainsFunc_Request_Request, t_slices_IndexFunc_int_int, t_slices_IndexFunc_Ins_Ins, t_slices_IndexFunc_Request_Request, trivial⟩
end Go.Proofs.Ythmlnmkbeohojaa

/- Abstract code of the functions of ref15: printed by a program from what the given translation yields. -/
namespace Go.Proofs.Ythmlnmkbeohojaa
open Go.Ra
def c_ref15_RightConfig_l1 : AC := (.seq (.seq (.ops [⟨(.some 22), (.mv (.t 4)), .none⟩, ⟨(.some 23), (.mv (.t 3)), .none⟩, ⟨(.some 24), (.len .none (.t 23)), .none⟩, ⟨(.some 25), (.bin .lss (.t 22) (.t 24)), .none⟩]) (.cond (.t 25) .skip (.exit 0))) (.seq (.block 1 (.seq (.ops [⟨(.some 28), (.mv (.t 3)), .none⟩, ⟨(.some 29), (.mv (.t 4)), .none⟩, ⟨(.some 30), (.iadr .none 1 (.t 28) (.t 29)), .none⟩, ⟨(.some 31), (.load .false 1 (.t 30)), .none⟩, ⟨(.some 32), (.call 24 [(.t 31), (.c (.sc (.int .i64 64)))]), .none⟩, ⟨(.some 33), (.un .not (.t 32)), .none⟩]) (.cond (.t 33) (.seq (.ops [⟨(.some 2), (.mv (.c (.sc (.bool .false)))), .none⟩]) .ret) .skip))) (.ops [⟨(.some 26), (.mv (.t 4)), .none⟩, ⟨(.some 27), (.bin .add (.t 26) (.c (.sc (.int .i64 1)))), .none⟩, ⟨(.some 4), (.mv (.t 27)), .none⟩])))
def c_ref15_RightConfig_p1 : AC := (.seq (.ops [⟨(.some 34), (.fadr 6 6 1 (.t 1)), .none⟩, ⟨(.some 35), (.load .false 1 (.t 34)), .none⟩, ⟨(.some 36), (.call 24 [(.t 35), (.c (.sc (.int .i64 16)))]), .none⟩, ⟨(.some 37), (.mv (.t 36)), .none⟩, ⟨(.some 38), (.fadr 9 9 1 (.t 1)), (.some (37, .true))⟩, ⟨(.some 39), (.load .false 1 (.t 38)), (.some (37, .true))⟩, ⟨(.some 40), (.call 24 [(.t 39), (.c (.sc (.int .i64 1000)))]), (.some (37, .true))⟩, ⟨(.some 41), (.pick (.t 37) (.t 40) (.c (.sc (.bool .false)))), .none⟩, ⟨(.some 42), (.mv (.t 41)), .none⟩, ⟨(.some 43), (.fadr 10 10 1 (.t 1)), (.some (42, .true))⟩, ⟨(.some 44), (.load .false 1 (.t 43)), (.some (42, .true))⟩, ⟨(.some 45), (.call 24 [(.t 44), (.c (.sc (.int .i64 50)))]), (.some (42, .true))⟩, ⟨(.some 46), (.pick (.t 42) (.t 45) (.c (.sc (.bool .false)))), .none⟩, ⟨(.some 47), (.mv (.t 46)), .none⟩, ⟨(.some 48), (.fadr 11 11 1 (.t 1)), (.some (47, .true))⟩, ⟨(.some 49), (.load .false 1 (.t 48)), (.some (47, .true))⟩, ⟨(.some 50), (.call 24 [(.t 49), (.c (.sc (.int .i64 50)))]), (.some (47, .true))⟩, ⟨(.some 51), (.pick (.t 47) (.t 50) (.c (.sc (.bool .false)))), .none⟩, ⟨(.some 2), (.mv (.t 51)), .none⟩]) .ret)
def c_ref15_RightConfig : AC := (.seq (.ops [⟨(.some 1), (.box (.t 0)), .none⟩, ⟨(.some 2), (.mv (.c (.sc (.bool .false)))), .none⟩]) (.seq (.ops [⟨(.some 5), (.fadr 0 0 1 (.t 1)), .none⟩, ⟨(.some 6), (.load .false 1 (.t 5)), .none⟩, ⟨(.some 7), (.fadr 1 1 1 (.t 1)), .none⟩, ⟨(.some 8), (.load .false 1 (.t 7)), .none⟩, ⟨(.some 9), (.fadr 2 2 1 (.t 1)), .none⟩, ⟨(.some 10), (.load .false 1 (.t 9)), .none⟩, ⟨(.some 11), (.fadr 3 3 1 (.t 1)), .none⟩, ⟨(.some 12), (.load .false 1 (.t 11)), .none⟩, ⟨(.some 13), (.fadr 4 4 1 (.t 1)), .none⟩, ⟨(.some 14), (.load .false 1 (.t 13)), .none⟩, ⟨(.some 15), (.fadr 5 5 1 (.t 1)), .none⟩, ⟨(.some 16), (.load .false 1 (.t 15)), .none⟩, ⟨(.some 17), (.fadr 7 7 1 (.t 1)), .none⟩, ⟨(.some 18), (.load .false 1 (.t 17)), .none⟩, ⟨(.some 19), (.fadr 8 8 1 (.t 1)), .none⟩, ⟨(.some 20), (.load .false 1 (.t 19)), .none⟩, ⟨(.some 21), (.bsl 1 [(.t 6), (.t 8), (.t 10), (.t 12), (.t 14), (.t 16), (.t 18), (.t 20)]), .none⟩, ⟨(.some 3), (.mv (.t 21)), .none⟩]) (.seq (.seq (.ops [⟨(.some 4), (.mv (.c (.sc (.int .i64 0)))), .none⟩]) (.block 0 (.loop c_ref15_RightConfig_l1))) c_ref15_RightConfig_p1)))
theorem t_ref15_RightConfig : trF Try.prog qq 12 = some (52, [(.tmp 2)], c_ref15_RightConfig) := by kernel_rfl
def c_ref15_SameState_l1 : AC := (.seq (.seq (.ops [⟨(.some 101), (.mv (.t 5)), .none⟩, ⟨(.some 102), (.fadr 3 77 1 (.t 2)), .none⟩, ⟨(.some 103), (.load .false 1 (.t 102)), .none⟩, ⟨(.some 104), (.len .none (.t 103)), .none⟩, ⟨(.some 105), (.bin .lss (.t 101) (.t 104)), .none⟩]) (.cond (.t 105) .skip (.exit 0))) (.seq (.block 1 (.seq (.ops [⟨(.some 108), (.fadr 3 77 1 (.t 2)), .none⟩, ⟨(.some 109), (.load .false 1 (.t 108)), .none⟩, ⟨(.some 110), (.mv (.t 5)), .none⟩, ⟨(.some 111), (.iadr .none 3 (.t 109) (.t 110)), .none⟩, ⟨(.some 112), (.load .true 3 (.t 111)), .none⟩, ⟨(.some 113), (.fadr 3 77 1 (.t 3)), .none⟩, ⟨(.some 114), (.load .false 1 (.t 113)), .none⟩, ⟨(.some 115), (.mv (.t 5)), .none⟩, ⟨(.some 116), (.iadr .none 3 (.t 114) (.t 115)), .none⟩, ⟨(.some 117), (.load .true 3 (.t 116)), .none⟩, ⟨(.some 118), (.eqs .true (.agg [(1, .int), (1, .bool), (1, .int)]) (.t 112) (.t 117)), .none⟩]) (.cond (.t 118) (.seq (.ops [⟨(.some 4), (.mv (.c (.sc (.bool .false)))), .none⟩]) .ret) .skip))) (.ops [⟨(.some 106), (.mv (.t 5)), .none⟩, ⟨(.some 107), (.bin .add (.t 106) (.c (.sc (.int .i64 1)))), .none⟩, ⟨(.some 5), (.mv (.t 107)), .none⟩])))
def c_ref15_SameState_l2 : AC := (.seq (.seq (.ops [⟨(.some 119), (.mv (.t 6)), .none⟩, ⟨(.some 120), (.fadr 8 82 1 (.t 2)), .none⟩, ⟨(.some 121), (.load .false 1 (.t 120)), .none⟩, ⟨(.some 122), (.len .none (.t 121)), .none⟩, ⟨(.some 123), (.bin .lss (.t 119) (.t 122)), .none⟩]) (.cond (.t 123) .skip (.exit 2))) (.seq (.block 3 (.seq (.ops [⟨(.some 126), (.fadr 8 82 1 (.t 2)), .none⟩, ⟨(.some 127), (.load .false 1 (.t 126)), .none⟩, ⟨(.some 128), (.mv (.t 6)), .none⟩, ⟨(.some 129), (.iadr .none 5 (.t 127) (.t 128)), .none⟩, ⟨(.some 130), (.load .true 5 (.t 129)), .none⟩, ⟨(.some 131), (.fadr 8 82 1 (.t 3)), .none⟩, ⟨(.some 132), (.load .false 1 (.t 131)), .none⟩, ⟨(.some 133), (.mv (.t 6)), .none⟩, ⟨(.some 134), (.iadr .none 5 (.t 132) (.t 133)), .none⟩, ⟨(.some 135), (.load .true 5 (.t 134)), .none⟩, ⟨(.some 136), (.eqs .true (.agg [(1, .int), (1, .int), (1, .int), (1, .bool), (1, .int)]) (.t 130) (.t 135)), .none⟩]) (.cond (.t 136) (.seq (.ops [⟨(.some 4), (.mv (.c (.sc (.bool .false)))), .none⟩]) .ret) .skip))) (.ops [⟨(.some 124), (.mv (.t 6)), .none⟩, ⟨(.some 125), (.bin .add (.t 124) (.c (.sc (.int .i64 1)))), .none⟩, ⟨(.some 6), (.mv (.t 125)), .none⟩])))
def c_ref15_SameState_l3 : AC := (.seq (.seq (.ops [⟨(.some 137), (.mv (.t 7)), .none⟩, ⟨(.some 138), (.fadr 9 83 1 (.t 2)), .none⟩, ⟨(.some 139), (.load .false 1 (.t 138)), .none⟩, ⟨(.some 140), (.len .none (.t 139)), .none⟩, ⟨(.some 141), (.bin .lss (.t 137) (.t 140)), .none⟩]) (.cond (.t 141) .skip (.exit 4))) (.seq (.block 5 (.seq (.ops [⟨(.some 144), (.fadr 9 83 1 (.t 2)), .none⟩, ⟨(.some 145), (.load .false 1 (.t 144)), .none⟩, ⟨(.some 146), (.mv (.t 7)), .none⟩, ⟨(.some 147), (.iadr .none 8 (.t 145) (.t 146)), .none⟩, ⟨(.some 148), (.load .true 8 (.t 147)), .none⟩, ⟨(.some 149), (.fadr 9 83 1 (.t 3)), .none⟩, ⟨(.some 150), (.load .false 1 (.t 149)), .none⟩, ⟨(.some 151), (.mv (.t 7)), .none⟩, ⟨(.some 152), (.iadr .none 8 (.t 150) (.t 151)), .none⟩, ⟨(.some 153), (.load .true 8 (.t 152)), .none⟩, ⟨(.some 154), (.eqs .true (.agg [(1, .bool), (1, .int), (1, .int), (1, .int), (1, .int), (1, .int), (1, .int), (1, .int)]) (.t 148) (.t 153)), .none⟩]) (.cond (.t 154) (.seq (.ops [⟨(.some 4), (.mv (.c (.sc (.bool .false)))), .none⟩]) .ret) .skip))) (.ops [⟨(.some 142), (.mv (.t 7)), .none⟩, ⟨(.some 143), (.bin .add (.t 142) (.c (.sc (.int .i64 1)))), .none⟩, ⟨(.some 7), (.mv (.t 143)), .none⟩])))
def c_ref15_SameState_l4 : AC := (.seq (.seq (.ops [⟨(.some 155), (.mv (.t 8)), .none⟩, ⟨(.some 156), (.fadr 11 85 1 (.t 2)), .none⟩, ⟨(.some 157), (.load .false 1 (.t 156)), .none⟩, ⟨(.some 158), (.len .none (.t 157)), .none⟩, ⟨(.some 159), (.bin .lss (.t 155) (.t 158)), .none⟩]) (.cond (.t 159) .skip (.exit 6))) (.seq (.block 7 (.seq (.ops [⟨(.some 162), (.fadr 11 85 1 (.t 2)), .none⟩, ⟨(.some 163), (.load .false 1 (.t 162)), .none⟩, ⟨(.some 164), (.mv (.t 8)), .none⟩, ⟨(.some 165), (.iadr .none 3 (.t 163) (.t 164)), .none⟩, ⟨(.some 166), (.load .true 3 (.t 165)), .none⟩, ⟨(.some 167), (.fadr 11 85 1 (.t 3)), .none⟩, ⟨(.some 168), (.load .false 1 (.t 167)), .none⟩, ⟨(.some 169), (.mv (.t 8)), .none⟩, ⟨(.some 170), (.iadr .none 3 (.t 168) (.t 169)), .none⟩, ⟨(.some 171), (.load .true 3 (.t 170)), .none⟩, ⟨(.some 172), (.eqs .true (.agg [(1, .int), (1, .int), (1, .int)]) (.t 166) (.t 171)), .none⟩]) (.cond (.t 172) (.seq (.ops [⟨(.some 4), (.mv (.c (.sc (.bool .false)))), .none⟩]) .ret) .skip))) (.ops [⟨(.some 160), (.mv (.t 8)), .none⟩, ⟨(.some 161), (.bin .add (.t 160) (.c (.sc (.int .i64 1)))), .none⟩, ⟨(.some 8), (.mv (.t 161)), .none⟩])))
def c_ref15_SameState_p1 : AC := (.seq (.ops [⟨(.some 173), (.fadr 4 78 1 (.t 2)), .none⟩, ⟨(.some 174), (.load .false 1 (.t 173)), .none⟩, ⟨(.some 175), (.fadr 4 78 1 (.t 3)), .none⟩, ⟨(.some 176), (.load .false 1 (.t 175)), .none⟩, ⟨(.some 177), (.call 25 [(.t 174), (.t 176)]), .none⟩, ⟨(.some 178), (.mv (.t 177)), .none⟩, ⟨(.some 179), (.fadr 5 79 1 (.t 2)), (.some (178, .true))⟩, ⟨(.some 180), (.load .false 1 (.t 179)), (.some (178, .true))⟩, ⟨(.some 181), (.fadr 5 79 1 (.t 3)), (.some (178, .true))⟩, ⟨(.some 182), (.load .false 1 (.t 181)), (.some (178, .true))⟩, ⟨(.some 183), (.call 25 [(.t 180), (.t 182)]), (.some (178, .true))⟩, ⟨(.some 184), (.pick (.t 178) (.t 183) (.c (.sc (.bool .false)))), .none⟩, ⟨(.some 185), (.mv (.t 184)), .none⟩, ⟨(.some 186), (.fadr 6 80 1 (.t 2)), (.some (185, .true))⟩, ⟨(.some 187), (.load .false 1 (.t 186)), (.some (185, .true))⟩, ⟨(.some 188), (.fadr 6 80 1 (.t 3)), (.some (185, .true))⟩, ⟨(.some 189), (.load .false 1 (.t 188)), (.some (185, .true))⟩, ⟨(.some 190), (.call 26 [(.t 187), (.t 189)]), (.some (185, .true))⟩, ⟨(.some 191), (.pick (.t 185) (.t 190) (.c (.sc (.bool .false)))), .none⟩, ⟨(.some 192), (.mv (.t 191)), .none⟩, ⟨(.some 193), (.fadr 7 81 1 (.t 2)), (.some (192, .true))⟩, ⟨(.some 194), (.load .false 1 (.t 193)), (.some (192, .true))⟩, ⟨(.some 195), (.fadr 7 81 1 (.t 3)), (.some (192, .true))⟩, ⟨(.some 196), (.load .false 1 (.t 195)), (.some (192, .true))⟩, ⟨(.some 197), (.call 26 [(.t 194), (.t 196)]), (.some (192, .true))⟩, ⟨(.some 198), (.pick (.t 192) (.t 197) (.c (.sc (.bool .false)))), .none⟩, ⟨(.some 4), (.mv (.t 198)), .none⟩]) .ret)
def c_ref15_SameState_p2 : AC := (.seq (.seq (.ops [⟨(.some 8), (.mv (.c (.sc (.int .i64 0)))), .none⟩]) (.block 6 (.loop c_ref15_SameState_l4))) c_ref15_SameState_p1)
def c_ref15_SameState_p3 : AC := (.seq (.seq (.ops [⟨(.some 7), (.mv (.c (.sc (.int .i64 0)))), .none⟩]) (.block 4 (.loop c_ref15_SameState_l3))) c_ref15_SameState_p2)
def c_ref15_SameState_p4 : AC := (.seq (.seq (.ops [⟨(.some 6), (.mv (.c (.sc (.int .i64 0)))), .none⟩]) (.block 2 (.loop c_ref15_SameState_l2))) c_ref15_SameState_p3)
def c_ref15_SameState : AC := (.seq (.ops [⟨(.some 2), (.box (.t 0)), .none⟩, ⟨(.some 3), (.box (.t 1)), .none⟩, ⟨(.some 4), (.mv (.c (.sc (.bool .false)))), .none⟩]) (.seq (.seq (.ops [⟨(.some 9), (.fadr 0 0 1 (.t 2)), .none⟩, ⟨(.some 10), (.load .false 1 (.t 9)), .none⟩, ⟨(.some 11), (.fadr 0 0 1 (.t 3)), .none⟩, ⟨(.some 12), (.load .false 1 (.t 11)), .none⟩, ⟨(.some 13), (.bin .neq (.t 10) (.t 12)), .none⟩, ⟨(.some 14), (.mv (.t 13)), .none⟩, ⟨(.some 15), (.fadr 1 1 38 (.t 2)), (.some (14, .false))⟩, ⟨(.some 16), (.load .true 38 (.t 15)), (.some (14, .false))⟩, ⟨(.some 17), (.fadr 1 1 38 (.t 3)), (.some (14, .false))⟩, ⟨(.some 18), (.load .true 38 (.t 17)), (.some (14, .false))⟩, ⟨(.some 19), (.eqs .true (.agg [(16, (.arr 16 1 .int)), (16, (.arr 16 1 .int)), (3, (.agg [(1, .int), (1, .int), (1, .int)])), (1, .int), (1, .bool), (1, .int)]) (.t 16) (.t 18)), (.some (14, .false))⟩, ⟨(.some 20), (.pick (.t 14) (.c (.sc (.bool .true))) (.t 19)), .none⟩, ⟨(.some 21), (.mv (.t 20)), .none⟩, ⟨(.some 22), (.fadr 2 39 38 (.t 2)), (.some (21, .false))⟩, ⟨(.some 23), (.load .true 38 (.t 22)), (.some (21, .false))⟩, ⟨(.some 24), (.fadr 2 39 38 (.t 3)), (.some (21, .false))⟩, ⟨(.some 25), (.load .true 38 (.t 24)), (.some (21, .false))⟩, ⟨(.some 26), (.eqs .true (.agg [(16, (.arr 16 1 .int)), (16, (.arr 16 1 .int)), (3, (.agg [(1, .int), (1, .int), (1, .int)])), (1, .int), (1, .bool), (1, .int)]) (.t 23) (.t 25)), (.some (21, .false))⟩, ⟨(.some 27), (.pick (.t 21) (.c (.sc (.bool .true))) (.t 26)), .none⟩, ⟨(.some 28), (.mv (.t 27)), .none⟩, ⟨(.some 29), (.fadr 12 86 3 (.t 2)), (.some (28, .false))⟩, ⟨(.some 30), (.load .true 3 (.t 29)), (.some (28, .false))⟩, ⟨(.some 31), (.fadr 12 86 3 (.t 3)), (.some (28, .false))⟩, ⟨(.some 32), (.load .true 3 (.t 31)), (.some (28, .false))⟩, ⟨(.some 33), (.eqs .true (.agg [(1, .int), (1, .int), (1, .int)]) (.t 30) (.t 32)), (.some (28, .false))⟩, ⟨(.some 34), (.pick (.t 28) (.c (.sc (.bool .true))) (.t 33)), .none⟩, ⟨(.some 35), (.mv (.t 34)), .none⟩, ⟨(.some 36), (.fadr 13 89 1 (.t 2)), (.some (35, .false))⟩, ⟨(.some 37), (.load .false 1 (.t 36)), (.some (35, .false))⟩, ⟨(.some 38), (.fadr 13 89 1 (.t 3)), (.some (35, .false))⟩, ⟨(.some 39), (.load .false 1 (.t 38)), (.some (35, .false))⟩, ⟨(.some 40), (.bin .neq (.t 37) (.t 39)), (.some (35, .false))⟩, ⟨(.some 41), (.pick (.t 35) (.c (.sc (.bool .true))) (.t 40)), .none⟩, ⟨(.some 42), (.mv (.t 41)), .none⟩, ⟨(.some 43), (.fadr 14 90 1 (.t 2)), (.some (42, .false))⟩, ⟨(.some 44), (.load .false 1 (.t 43)), (.some (42, .false))⟩, ⟨(.some 45), (.fadr 14 90 1 (.t 3)), (.some (42, .false))⟩, ⟨(.some 46), (.load .false 1 (.t 45)), (.some (42, .false))⟩, ⟨(.some 47), (.bin .neq (.t 44) (.t 46)), (.some (42, .false))⟩, ⟨(.some 48), (.pick (.t 42) (.c (.sc (.bool .true))) (.t 47)), .none⟩, ⟨(.some 49), (.mv (.t 48)), .none⟩, ⟨(.some 50), (.fadr 15 91 1 (.t 2)), (.some (49, .false))⟩, ⟨(.some 51), (.load .false 1 (.t 50)), (.some (49, .false))⟩, ⟨(.some 52), (.fadr 15 91 1 (.t 3)), (.some (49, .false))⟩, ⟨(.some 53), (.load .false 1 (.t 52)), (.some (49, .false))⟩, ⟨(.some 54), (.bin .neq (.t 51) (.t 53)), (.some (49, .false))⟩, ⟨(.some 55), (.pick (.t 49) (.c (.sc (.bool .true))) (.t 54)), .none⟩, ⟨(.some 56), (.mv (.t 55)), .none⟩, ⟨(.some 57), (.fadr 10 84 1 (.t 2)), (.some (56, .false))⟩, ⟨(.some 58), (.load .false 1 (.t 57)), (.some (56, .false))⟩, ⟨(.some 59), (.b2s (.t 58)), (.some (56, .false))⟩, ⟨(.some 60), (.fadr 10 84 1 (.t 3)), (.some (56, .false))⟩, ⟨(.some 61), (.load .false 1 (.t 60)), (.some (56, .false))⟩, ⟨(.some 62), (.b2s (.t 61)), (.some (56, .false))⟩, ⟨(.some 63), (.bin .neq (.t 59) (.t 62)), (.some (56, .false))⟩, ⟨(.some 64), (.pick (.t 56) (.c (.sc (.bool .true))) (.t 63)), .none⟩, ⟨(.some 65), (.mv (.t 64)), .none⟩, ⟨(.some 66), (.fadr 3 77 1 (.t 2)), (.some (65, .false))⟩, ⟨(.some 67), (.load .false 1 (.t 66)), (.some (65, .false))⟩, ⟨(.some 68), (.len .none (.t 67)), (.some (65, .false))⟩, ⟨(.some 69), (.fadr 3 77 1 (.t 3)), (.some (65, .false))⟩, ⟨(.some 70), (.load .false 1 (.t 69)), (.some (65, .false))⟩, ⟨(.some 71), (.len .none (.t 70)), (.some (65, .false))⟩, ⟨(.some 72), (.bin .neq (.t 68) (.t 71)), (.some (65, .false))⟩, ⟨(.some 73), (.pick (.t 65) (.c (.sc (.bool .true))) (.t 72)), .none⟩, ⟨(.some 74), (.mv (.t 73)), .none⟩, ⟨(.some 75), (.fadr 8 82 1 (.t 2)), (.some (74, .false))⟩, ⟨(.some 76), (.load .false 1 (.t 75)), (.some (74, .false))⟩, ⟨(.some 77), (.len .none (.t 76)), (.some (74, .false))⟩, ⟨(.some 78), (.fadr 8 82 1 (.t 3)), (.some (74, .false))⟩, ⟨(.some 79), (.load .false 1 (.t 78)), (.some (74, .false))⟩, ⟨(.some 80), (.len .none (.t 79)), (.some (74, .false))⟩, ⟨(.some 81), (.bin .neq (.t 77) (.t 80)), (.some (74, .false))⟩, ⟨(.some 82), (.pick (.t 74) (.c (.sc (.bool .true))) (.t 81)), .none⟩, ⟨(.some 83), (.mv (.t 82)), .none⟩, ⟨(.some 84), (.fadr 9 83 1 (.t 2)), (.some (83, .false))⟩, ⟨(.some 85), (.load .false 1 (.t 84)), (.some (83, .false))⟩, ⟨(.some 86), (.len .none (.t 85)), (.some (83, .false))⟩, ⟨(.some 87), (.fadr 9 83 1 (.t 3)), (.some (83, .false))⟩, ⟨(.some 88), (.load .false 1 (.t 87)), (.some (83, .false))⟩, ⟨(.some 89), (.len .none (.t 88)), (.some (83, .false))⟩, ⟨(.some 90), (.bin .neq (.t 86) (.t 89)), (.some (83, .false))⟩, ⟨(.some 91), (.pick (.t 83) (.c (.sc (.bool .true))) (.t 90)), .none⟩, ⟨(.some 92), (.mv (.t 91)), .none⟩, ⟨(.some 93), (.fadr 11 85 1 (.t 2)), (.some (92, .false))⟩, ⟨(.some 94), (.load .false 1 (.t 93)), (.some (92, .false))⟩, ⟨(.some 95), (.len .none (.t 94)), (.some (92, .false))⟩, ⟨(.some 96), (.fadr 11 85 1 (.t 3)), (.some (92, .false))⟩, ⟨(.some 97), (.load .false 1 (.t 96)), (.some (92, .false))⟩, ⟨(.some 98), (.len .none (.t 97)), (.some (92, .false))⟩, ⟨(.some 99), (.bin .neq (.t 95) (.t 98)), (.some (92, .false))⟩, ⟨(.some 100), (.pick (.t 92) (.c (.sc (.bool .true))) (.t 99)), .none⟩]) (.cond (.t 100) (.seq (.ops [⟨(.some 4), (.mv (.c (.sc (.bool .false)))), .none⟩]) .ret) .skip)) (.seq (.seq (.ops [⟨(.some 5), (.mv (.c (.sc (.int .i64 0)))), .none⟩]) (.block 0 (.loop c_ref15_SameState_l1))) c_ref15_SameState_p4)))
theorem t_ref15_SameState : trF Try.prog qq 13 = some (199, [(.tmp 4)], c_ref15_SameState) := by kernel_rfl
def c_ref15_First : AC := (.seq (.ops [⟨(.some 1), (.box (.t 0)), .none⟩, ⟨(.some 2), (.box (.c (.agg 92 [(.sc (.int .i64 0)), (.agg 38 [(.arr 16 1 [(.sc (.int .u32 0)), (.sc (.int .u32 0)), (.sc (.int .u32 0)), (.sc (.int .u32 0)), (.sc (.int .u32 0)), (.sc (.int .u32 0)), (.sc (.int .u32 0)), (.sc (.int .u32 0)), (.sc (.int .u32 0)), (.sc (.int .u32 0)), (.sc (.int .u32 0)), (.sc (.int .u32 0)), (.sc (.int .u32 0)), (.sc (.int .u32 0)), (.sc (.int .u32 0)), (.sc (.int .u32 0))]), (.arr 16 1 [(.sc (.int .i64 0)), (.sc (.int .i64 0)), (.sc (.int .i64 0)), (.sc (.int .i64 0)), (.sc (.int .i64 0)), (.sc (.int .i64 0)), (.sc (.int .i64 0)), (.sc (.int .i64 0)), (.sc (.int .i64 0)), (.sc (.int .i64 0)), (.sc (.int .i64 0)), (.sc (.int .i64 0)), (.sc (.int .i64 0)), (.sc (.int .i64 0)), (.sc (.int .i64 0)), (.sc (.int .i64 0))]), (.agg 3 [(.sc (.int .i64 0)), (.sc (.int .i64 0)), (.sc (.int .i64 0))]), (.sc (.int .i64 0)), (.sc (.bool .false)), (.sc (.int .i64 0))]), (.agg 38 [(.arr 16 1 [(.sc (.int .u32 0)), (.sc (.int .u32 0)), (.sc (.int .u32 0)), (.sc (.int .u32 0)), (.sc (.int .u32 0)), (.sc (.int .u32 0)), (.sc (.int .u32 0)), (.sc (.int .u32 0)), (.sc (.int .u32 0)), (.sc (.int .u32 0)), (.sc (.int .u32 0)), (.sc (.int .u32 0)), (.sc (.int .u32 0)), (.sc (.int .u32 0)), (.sc (.int .u32 0)), (.sc (.int .u32 0))]), (.arr 16 1 [(.sc (.int .i64 0)), (.sc (.int .i64 0)), (.sc (.int .i64 0)), (.sc (.int .i64 0)), (.sc (.int .i64 0)), (.sc (.int .i64 0)), (.sc (.int .i64 0)), (.sc (.int .i64 0)), (.sc (.int .i64 0)), (.sc (.int .i64 0)), (.sc (.int .i64 0)), (.sc (.int .i64 0)), (.sc (.int .i64 0)), (.sc (.int .i64 0)), (.sc (.int .i64 0)), (.sc (.int .i64 0))]), (.agg 3 [(.sc (.int .i64 0)), (.sc (.int .i64 0)), (.sc (.int .i64 0))]), (.sc (.int .i64 0)), (.sc (.bool .false)), (.sc (.int .i64 0))]), (.fro .true 0 []), (.fro .true 0 []), (.fro .true 0 []), (.fro .true 0 []), (.fro .true 0 []), (.fro .true 0 []), (.fro .true 0 []), (.fro .true 0 []), (.fro .true 0 []), (.agg 3 [(.sc (.int .i64 0)), (.sc (.int .i64 0)), (.sc (.int .i64 0))]), (.sc (.int .i64 0)), (.sc (.int .i64 0)), (.sc (.int .i64 0))]))), .none⟩]) (.seq (.seq (.ops [⟨(.some 3), (.load .true 3 (.t 1)), .none⟩, ⟨(.some 4), (.call 29 [(.t 3)]), .none⟩, ⟨(.some 5), (.un .not (.t 4)), .none⟩]) (.cond (.t 5) (.seq (.ops [⟨(.some 6), (.build 92 [(.sc (.int .i64 0)), (.agg 38 [(.arr 16 1 [(.sc (.int .u32 0)), (.sc (.int .u32 0)), (.sc (.int .u32 0)), (.sc (.int .u32 0)), (.sc (.int .u32 0)), (.sc (.int .u32 0)), (.sc (.int .u32 0)), (.sc (.int .u32 0)), (.sc (.int .u32 0)), (.sc (.int .u32 0)), (.sc (.int .u32 0)), (.sc (.int .u32 0)), (.sc (.int .u32 0)), (.sc (.int .u32 0)), (.sc (.int .u32 0)), (.sc (.int .u32 0))]), (.arr 16 1 [(.sc (.int .i64 0)), (.sc (.int .i64 0)), (.sc (.int .i64 0)), (.sc (.int .i64 0)), (.sc (.int .i64 0)), (.sc (.int .i64 0)), (.sc (.int .i64 0)), (.sc (.int .i64 0)), (.sc (.int .i64 0)), (.sc (.int .i64 0)), (.sc (.int .i64 0)), (.sc (.int .i64 0)), (.sc (.int .i64 0)), (.sc (.int .i64 0)), (.sc (.int .i64 0)), (.sc (.int .i64 0))]), (.agg 3 [(.sc (.int .i64 0)), (.sc (.int .i64 0)), (.sc (.int .i64 0))]), (.sc (.int .i64 0)), (.sc (.bool .false)), (.sc (.int .i64 0))]), (.agg 38 [(.arr 16 1 [(.sc (.int .u32 0)), (.sc (.int .u32 0)), (.sc (.int .u32 0)), (.sc (.int .u32 0)), (.sc (.int .u32 0)), (.sc (.int .u32 0)), (.sc (.int .u32 0)), (.sc (.int .u32 0)), (.sc (.int .u32 0)), (.sc (.int .u32 0)), (.sc (.int .u32 0)), (.sc (.int .u32 0)), (.sc (.int .u32 0)), (.sc (.int .u32 0)), (.sc (.int .u32 0)), (.sc (.int .u32 0))]), (.arr 16 1 [(.sc (.int .i64 0)), (.sc (.int .i64 0)), (.sc (.int .i64 0)), (.sc (.int .i64 0)), (.sc (.int .i64 0)), (.sc (.int .i64 0)), (.sc (.int .i64 0)), (.sc (.int .i64 0)), (.sc (.int .i64 0)), (.sc (.int .i64 0)), (.sc (.int .i64 0)), (.sc (.int .i64 0)), (.sc (.int .i64 0)), (.sc (.int .i64 0)), (.sc (.int .i64 0)), (.sc (.int .i64 0))]), (.agg 3 [(.sc (.int .i64 0)), (.sc (.int .i64 0)), (.sc (.int .i64 0))]), (.sc (.int .i64 0)), (.sc (.bool .false)), (.sc (.int .i64 0))]), (.fro .true 0 []), (.fro .true 0 []), (.fro .true 0 []), (.fro .true 0 []), (.fro .true 0 []), (.fro .true 0 []), (.fro .true 0 []), (.fro .true 0 []), (.fro .true 0 []), (.agg 3 [(.sc (.int .i64 0)), (.sc (.int .i64 0)), (.sc (.int .i64 0))]), (.sc (.int .i64 0)), (.sc (.int .i64 0)), (.sc (.int .i64 0))] []), .none⟩, ⟨.none, (.store 92 (.t 2) (.t 6)), .none⟩]) .ret) .skip)) (.seq (.ops [⟨(.some 7), (.load .true 3 (.t 1)), .none⟩, ⟨(.some 8), (.call 20 [(.t 7)]), .none⟩, ⟨(.some 9), (.build 92 [(.sc (.int .i64 0)), (.agg 38 [(.arr 16 1 [(.sc (.int .u32 0)), (.sc (.int .u32 0)), (.sc (.int .u32 0)), (.sc (.int .u32 0)), (.sc (.int .u32 0)), (.sc (.int .u32 0)), (.sc (.int .u32 0)), (.sc (.int .u32 0)), (.sc (.int .u32 0)), (.sc (.int .u32 0)), (.sc (.int .u32 0)), (.sc (.int .u32 0)), (.sc (.int .u32 0)), (.sc (.int .u32 0)), (.sc (.int .u32 0)), (.sc (.int .u32 0))]), (.arr 16 1 [(.sc (.int .i64 0)), (.sc (.int .i64 0)), (.sc (.int .i64 0)), (.sc (.int .i64 0)), (.sc (.int .i64 0)), (.sc (.int .i64 0)), (.sc (.int .i64 0)), (.sc (.int .i64 0)), (.sc (.int .i64 0)), (.sc (.int .i64 0)), (.sc (.int .i64 0)), (.sc (.int .i64 0)), (.sc (.int .i64 0)), (.sc (.int .i64 0)), (.sc (.int .i64 0)), (.sc (.int .i64 0))]), (.agg 3 [(.sc (.int .i64 0)), (.sc (.int .i64 0)), (.sc (.int .i64 0))]), (.sc (.int .i64 0)), (.sc (.bool .false)), (.sc (.int .i64 0))]), (.agg 38 [(.arr 16 1 [(.sc (.int .u32 0)), (.sc (.int .u32 0)), (.sc (.int .u32 0)), (.sc (.int .u32 0)), (.sc (.int .u32 0)), (.sc (.int .u32 0)), (.sc (.int .u32 0)), (.sc (.int .u32 0)), (.sc (.int .u32 0)), (.sc (.int .u32 0)), (.sc (.int .u32 0)), (.sc (.int .u32 0)), (.sc (.int .u32 0)), (.sc (.int .u32 0)), (.sc (.int .u32 0)), (.sc (.int .u32 0))]), (.arr 16 1 [(.sc (.int .i64 0)), (.sc (.int .i64 0)), (.sc (.int .i64 0)), (.sc (.int .i64 0)), (.sc (.int .i64 0)), (.sc (.int .i64 0)), (.sc (.int .i64 0)), (.sc (.int .i64 0)), (.sc (.int .i64 0)), (.sc (.int .i64 0)), (.sc (.int .i64 0)), (.sc (.int .i64 0)), (.sc (.int .i64 0)), (.sc (.int .i64 0)), (.sc (.int .i64 0)), (.sc (.int .i64 0))]), (.agg 3 [(.sc (.int .i64 0)), (.sc (.int .i64 0)), (.sc (.int .i64 0))]), (.sc (.int .i64 0)), (.sc (.bool .false)), (.sc (.int .i64 0))]), (.fro .true 0 []), (.fro .true 0 []), (.fro .true 0 []), (.fro .true 0 []), (.fro .true 0 []), (.fro .true 0 []), (.fro .true 0 []), (.fro .true 0 []), (.fro .true 0 []), (.agg 3 [(.sc (.int .i64 0)), (.sc (.int .i64 0)), (.sc (.int .i64 0))]), (.sc (.int .i64 0)), (.sc (.int .i64 0)), (.sc (.int .i64 0))] [(10, (.t 8))]), .none⟩, ⟨.none, (.store 92 (.t 2) (.t 9)), .none⟩]) .ret)))
theorem t_ref15_First : trF Try.prog qq 15 = some (10, [(.cell 2 .true 92)], c_ref15_First) := by kernel_rfl
def c_ref15_RightState_l1 : AC := (.seq (.seq (.ops [⟨(.some 115), (.mv (.t 7)), .none⟩, ⟨(.some 116), (.fadr 8 82 1 (.t 5)), .none⟩, ⟨(.some 117), (.load .false 1 (.t 116)), .none⟩, ⟨(.some 118), (.len .none (.t 117)), .none⟩, ⟨(.some 119), (.bin .lss (.t 115) (.t 118)), .none⟩]) (.cond (.t 119) .skip (.exit 0))) (.seq (.block 1 (.seq (.ops [⟨(.some 122), (.fadr 8 82 1 (.t 5)), .none⟩, ⟨(.some 123), (.load .false 1 (.t 122)), .none⟩, ⟨(.some 124), (.mv (.t 7)), .none⟩, ⟨(.some 125), (.iadr .none 5 (.t 123) (.t 124)), .none⟩, ⟨(.some 126), (.load .true 5 (.t 125)), .none⟩, ⟨(.some 8), (.box (.c (.agg 5 [(.sc (.int .i64 0)), (.sc (.int .i64 0)), (.sc (.int .i64 0)), (.sc (.bool .false)), (.sc (.int .u32 0))]))), .none⟩, ⟨.none, (.store 5 (.t 8) (.t 126)), .none⟩]) (.seq (.ops [⟨(.some 127), (.fadr 0 0 1 (.t 8)), .none⟩, ⟨(.some 128), (.load .false 1 (.t 127)), .none⟩, ⟨(.some 129), (.fadr 1 1 1 (.t 8)), .none⟩, ⟨(.some 130), (.load .false 1 (.t 129)), .none⟩, ⟨(.some 131), (.fadr 10 84 1 (.t 5)), .none⟩, ⟨(.some 132), (.load .false 1 (.t 131)), .none⟩, ⟨(.some 133), (.len .none (.t 132)), .none⟩, ⟨(.some 134), (.call 38 [(.t 128), (.t 130), (.t 133)]), .none⟩, ⟨(.some 135), (.un .not (.t 134)), .none⟩, ⟨(.some 136), (.mv (.t 135)), .none⟩, ⟨(.some 137), (.fadr 2 2 1 (.t 8)), (.some (136, .false))⟩, ⟨(.some 138), (.load .false 1 (.t 137)), (.some (136, .false))⟩, ⟨(.some 139), (.call 37 [(.t 138)]), (.some (136, .false))⟩, ⟨(.some 140), (.un .not (.t 139)), (.some (136, .false))⟩, ⟨(.some 141), (.pick (.t 136) (.c (.sc (.bool .true))) (.t 140)), .none⟩, ⟨(.some 142), (.mv (.t 141)), .none⟩, ⟨(.some 143), (.fadr 3 3 1 (.t 8)), (.some (142, .false))⟩, ⟨(.some 144), (.load .false 1 (.t 143)), (.some (142, .false))⟩, ⟨(.some 145), (.mv (.t 144)), (.some (142, .false))⟩, ⟨(.some 146), (.mv (.t 7)), (.some (145, .true))⟩, ⟨(.some 147), (.bin .gtr (.t 146) (.c (.sc (.int .i64 0)))), (.some (145, .true))⟩, ⟨(.some 148), (.pick (.t 145) (.t 147) (.c (.sc (.bool .false)))), (.some (142, .false))⟩, ⟨(.some 149), (.pick (.t 142) (.c (.sc (.bool .true))) (.t 148)), .none⟩]) (.cond (.t 149) (.seq (.ops [⟨(.some 6), (.mv (.c (.sc (.bool .false)))), .none⟩]) .ret) .skip)))) (.ops [⟨(.some 120), (.mv (.t 7)), .none⟩, ⟨(.some 121), (.bin .add (.t 120) (.c (.sc (.int .i64 1)))), .none⟩, ⟨(.some 7), (.mv (.t 121)), .none⟩])))
def c_ref15_RightState_l2 : AC := (.seq (.seq (.ops [⟨(.some 150), (.mv (.t 10)), .none⟩, ⟨(.some 151), (.fadr 9 83 1 (.t 5)), .none⟩, ⟨(.some 152), (.load .false 1 (.t 151)), .none⟩, ⟨(.some 153), (.len .none (.t 152)), .none⟩, ⟨(.some 154), (.bin .lss (.t 150) (.t 153)), .none⟩]) (.cond (.t 154) .skip (.exit 2))) (.seq (.block 3 (.seq (.ops [⟨(.some 157), (.fadr 9 83 1 (.t 5)), .none⟩, ⟨(.some 158), (.load .false 1 (.t 157)), .none⟩, ⟨(.some 159), (.mv (.t 10)), .none⟩, ⟨(.some 160), (.iadr .none 8 (.t 158) (.t 159)), .none⟩, ⟨(.some 161), (.load .true 8 (.t 160)), .none⟩, ⟨(.some 11), (.box (.c (.agg 8 [(.sc (.bool .false)), (.sc (.int .i64 0)), (.sc (.int .i64 0)), (.sc (.int .i64 0)), (.sc (.int .u32 0)), (.sc (.int .i64 0)), (.sc (.int .i64 0)), (.sc (.int .i64 0))]))), .none⟩, ⟨.none, (.store 8 (.t 11) (.t 161)), .none⟩]) (.seq (.seq (.ops [⟨(.some 162), (.load .true 8 (.t 11)), .none⟩, ⟨(.some 163), (.fadr 10 84 1 (.t 5)), .none⟩, ⟨(.some 164), (.load .false 1 (.t 163)), .none⟩, ⟨(.some 165), (.len .none (.t 164)), .none⟩, ⟨(.some 166), (.call 39 [(.t 162), (.t 165)]), .none⟩, ⟨(.some 167), (.un .not (.t 166)), .none⟩]) (.cond (.t 167) (.seq (.ops [⟨(.some 6), (.mv (.c (.sc (.bool .false)))), .none⟩]) .ret) .skip)) (.seq (.ops [⟨(.some 168), (.fadr 0 0 1 (.t 11)), .none⟩, ⟨(.some 169), (.load .false 1 (.t 168)), .none⟩]) (.cond (.t 169) (.seq (.ops [⟨(.some 170), (.mv (.t 9)), .none⟩, ⟨(.some 171), (.bin .add (.t 170) (.c (.sc (.int .i64 1)))), .none⟩, ⟨(.some 9), (.mv (.t 171)), .none⟩]) (.seq (.ops [⟨(.some 172), (.fadr 8 82 1 (.t 5)), .none⟩, ⟨(.some 173), (.load .false 1 (.t 172)), .none⟩, ⟨(.some 174), (.len .none (.t 173)), .none⟩, ⟨(.some 175), (.bin .eql (.t 174) (.c (.sc (.int .i64 0)))), .none⟩, ⟨(.some 176), (.mv (.t 175)), .none⟩, ⟨(.some 177), (.fadr 8 82 1 (.t 5)), (.some (176, .false))⟩, ⟨(.some 178), (.load .false 1 (.t 177)), (.some (176, .false))⟩, ⟨(.some 179), (.iadr .none 5 (.t 178) (.c (.sc (.int .i64 0)))), (.some (176, .false))⟩, ⟨(.some 180), (.fadr 0 0 1 (.t 179)), (.some (176, .false))⟩, ⟨(.some 181), (.load .false 1 (.t 180)), (.some (176, .false))⟩, ⟨(.some 182), (.fadr 2 2 1 (.t 11)), (.some (176, .false))⟩, ⟨(.some 183), (.load .false 1 (.t 182)), (.some (176, .false))⟩, ⟨(.some 184), (.bin .neq (.t 181) (.t 183)), (.some (176, .false))⟩, ⟨(.some 185), (.pick (.t 176) (.c (.sc (.bool .true))) (.t 184)), .none⟩, ⟨(.some 186), (.mv (.t 185)), .none⟩, ⟨(.some 187), (.fadr 8 82 1 (.t 5)), (.some (186, .false))⟩, ⟨(.some 188), (.load .false 1 (.t 187)), (.some (186, .false))⟩, ⟨(.some 189), (.iadr .none 5 (.t 188) (.c (.sc (.int .i64 0)))), (.some (186, .false))⟩, ⟨(.some 190), (.fadr 1 1 1 (.t 189)), (.some (186, .false))⟩, ⟨(.some 191), (.load .false 1 (.t 190)), (.some (186, .false))⟩, ⟨(.some 192), (.fadr 3 3 1 (.t 11)), (.some (186, .false))⟩, ⟨(.some 193), (.load .false 1 (.t 192)), (.some (186, .false))⟩, ⟨(.some 194), (.bin .neq (.t 191) (.t 193)), (.some (186, .false))⟩, ⟨(.some 195), (.pick (.t 186) (.c (.sc (.bool .true))) (.t 194)), .none⟩]) (.cond (.t 195) (.seq (.ops [⟨(.some 6), (.mv (.c (.sc (.bool .false)))), .none⟩]) .ret) .skip))) .skip))))) (.ops [⟨(.some 155), (.mv (.t 10)), .none⟩, ⟨(.some 156), (.bin .add (.t 155) (.c (.sc (.int .i64 1)))), .none⟩, ⟨(.some 10), (.mv (.t 156)), .none⟩])))
def c_ref15_RightState_p1 : AC := (.seq (.ops [⟨(.some 196), (.fadr 8 82 1 (.t 5)), .none⟩, ⟨(.some 197), (.load .false 1 (.t 196)), .none⟩, ⟨(.some 198), (.len .none (.t 197)), .none⟩, ⟨(.some 199), (.bin .gtr (.t 198) (.c (.sc (.int .i64 0)))), .none⟩, ⟨(.some 200), (.mv (.t 199)), .none⟩, ⟨(.some 201), (.fadr 8 82 1 (.t 5)), (.some (200, .true))⟩, ⟨(.some 202), (.load .false 1 (.t 201)), (.some (200, .true))⟩, ⟨(.some 203), (.iadr .none 5 (.t 202) (.c (.sc (.int .i64 0)))), (.some (200, .true))⟩, ⟨(.some 204), (.fadr 3 3 1 (.t 203)), (.some (200, .true))⟩, ⟨(.some 205), (.load .false 1 (.t 204)), (.some (200, .true))⟩, ⟨(.some 206), (.pick (.t 200) (.t 205) (.c (.sc (.bool .false)))), .none⟩, ⟨(.some 12), (.mv (.t 206)), .none⟩]) (.seq (.seq (.ops [⟨(.some 207), (.mv (.t 9)), .none⟩, ⟨(.some 208), (.bin .gtr (.t 207) (.c (.sc (.int .i64 1)))), .none⟩, ⟨(.some 209), (.mv (.t 208)), .none⟩, ⟨(.some 210), (.mv (.t 12)), (.some (209, .false))⟩, ⟨(.some 211), (.mv (.t 9)), (.some (209, .false))⟩, ⟨(.some 212), (.bin .eql (.t 211) (.c (.sc (.int .i64 1)))), (.some (209, .false))⟩, ⟨(.some 213), (.eqs .true .bool (.t 210) (.t 212)), (.some (209, .false))⟩, ⟨(.some 214), (.pick (.t 209) (.c (.sc (.bool .true))) (.t 213)), .none⟩]) (.cond (.t 214) (.seq (.ops [⟨(.some 6), (.mv (.c (.sc (.bool .false)))), .none⟩]) .ret) .skip)) (.seq (.ops [⟨(.some 215), (.fadr 12 86 3 (.t 5)), .none⟩, ⟨(.some 216), (.load .true 3 (.t 215)), .none⟩, ⟨(.some 13), (.box (.c (.agg 3 [(.sc (.int .i64 0)), (.sc (.int .i64 0)), (.sc (.int .i64 0))]))), .none⟩, ⟨.none, (.store 3 (.t 13) (.t 216)), .none⟩]) (.seq (.ops [⟨(.some 217), (.fadr 0 0 1 (.t 13)), .none⟩, ⟨(.some 218), (.load .false 1 (.t 217)), .none⟩, ⟨(.some 219), (.bin .geq (.t 218) (.c (.sc (.int .i64 0)))), .none⟩, ⟨(.some 220), (.mv (.t 219)), .none⟩, ⟨(.some 221), (.fadr 0 0 1 (.t 13)), (.some (220, .true))⟩, ⟨(.some 222), (.load .false 1 (.t 221)), (.some (220, .true))⟩, ⟨(.some 223), (.bin .leq (.t 222) (.c (.sc (.int .i64 4)))), (.some (220, .true))⟩, ⟨(.some 224), (.pick (.t 220) (.t 223) (.c (.sc (.bool .false)))), .none⟩, ⟨(.some 225), (.mv (.t 224)), .none⟩, ⟨(.some 226), (.fadr 1 1 1 (.t 13)), (.some (225, .true))⟩, ⟨(.some 227), (.load .false 1 (.t 226)), (.some (225, .true))⟩, ⟨(.some 228), (.call 37 [(.t 227)]), (.some (225, .true))⟩, ⟨(.some 229), (.pick (.t 225) (.t 228) (.c (.sc (.bool .false)))), .none⟩, ⟨(.some 230), (.mv (.t 229)), .none⟩, ⟨(.some 231), (.fadr 2 2 1 (.t 13)), (.some (230, .true))⟩, ⟨(.some 232), (.load .false 1 (.t 231)), (.some (230, .true))⟩, ⟨(.some 233), (.call 37 [(.t 232)]), (.some (230, .true))⟩, ⟨(.some 234), (.pick (.t 230) (.t 233) (.c (.sc (.bool .false)))), .none⟩, ⟨(.some 235), (.mv (.t 234)), .none⟩, ⟨(.some 236), (.fadr 0 0 1 (.t 13)), (.some (235, .true))⟩, ⟨(.some 237), (.load .false 1 (.t 236)), (.some (235, .true))⟩, ⟨(.some 238), (.bin .gtr (.t 237) (.c (.sc (.int .i64 0)))), (.some (235, .true))⟩, ⟨(.some 239), (.mv (.t 238)), (.some (235, .true))⟩, ⟨(.some 240), (.fadr 1 1 1 (.t 13)), (.some (239, .false))⟩, ⟨(.some 241), (.load .false 1 (.t 240)), (.some (239, .false))⟩, ⟨(.some 242), (.bin .eql (.t 241) (.c (.sc (.int .i64 0)))), (.some (239, .false))⟩, ⟨(.some 243), (.mv (.t 242)), (.some (239, .false))⟩, ⟨(.some 244), (.fadr 2 2 1 (.t 13)), (.some (243, .true))⟩, ⟨(.some 245), (.load .false 1 (.t 244)), (.some (243, .true))⟩, ⟨(.some 246), (.bin .eql (.t 245) (.c (.sc (.int .i64 0)))), (.some (243, .true))⟩, ⟨(.some 247), (.pick (.t 243) (.t 246) (.c (.sc (.bool .false)))), (.some (239, .false))⟩, ⟨(.some 248), (.pick (.t 239) (.c (.sc (.bool .true))) (.t 247)), (.some (235, .true))⟩, ⟨(.some 249), (.pick (.t 235) (.t 248) (.c (.sc (.bool .false)))), .none⟩, ⟨(.some 6), (.mv (.t 249)), .none⟩]) .ret))))
def c_ref15_RightState_p2 : AC := (.seq (.ops [⟨(.some 9), (.mv (.c (.sc (.int .i64 0)))), .none⟩]) (.seq (.seq (.ops [⟨(.some 10), (.mv (.c (.sc (.int .i64 0)))), .none⟩]) (.block 2 (.loop c_ref15_RightState_l2))) c_ref15_RightState_p1))
def c_ref15_RightState : AC := (.seq (.ops [⟨(.some 3), (.box (.t 0)), .none⟩, ⟨(.some 4), (.box (.t 1)), .none⟩, ⟨(.some 5), (.box (.t 2)), .none⟩, ⟨(.some 6), (.mv (.c (.sc (.bool .false)))), .none⟩]) (.seq (.seq (.ops [⟨(.some 14), (.load .true 12 (.t 3)), .none⟩, ⟨(.some 15), (.call 12 [(.t 14)]), .none⟩, ⟨(.some 16), (.un .not (.t 15)), .none⟩, ⟨(.some 17), (.mv (.t 16)), .none⟩, ⟨(.some 18), (.load .true 17 (.t 4)), (.some (17, .false))⟩, ⟨(.some 19), (.fadr 1 1 38 (.t 5)), (.some (17, .false))⟩, ⟨(.some 20), (.load .true 38 (.t 19)), (.some (17, .false))⟩, ⟨(.some 21), (.call 36 [(.t 18), (.c (.sc (.bool .false))), (.t 20)]), (.some (17, .false))⟩, ⟨(.some 22), (.un .not (.t 21)), (.some (17, .false))⟩, ⟨(.some 23), (.pick (.t 17) (.c (.sc (.bool .true))) (.t 22)), .none⟩, ⟨(.some 24), (.mv (.t 23)), .none⟩, ⟨(.some 25), (.load .true 17 (.t 4)), (.some (24, .false))⟩, ⟨(.some 26), (.fadr 2 39 38 (.t 5)), (.some (24, .false))⟩, ⟨(.some 27), (.load .true 38 (.t 26)), (.some (24, .false))⟩, ⟨(.some 28), (.call 36 [(.t 25), (.c (.sc (.bool .true))), (.t 27)]), (.some (24, .false))⟩, ⟨(.some 29), (.un .not (.t 28)), (.some (24, .false))⟩, ⟨(.some 30), (.pick (.t 24) (.c (.sc (.bool .true))) (.t 29)), .none⟩, ⟨(.some 31), (.mv (.t 30)), .none⟩, ⟨(.some 32), (.fadr 0 0 1 (.t 5)), (.some (31, .false))⟩, ⟨(.some 33), (.load .false 1 (.t 32)), (.some (31, .false))⟩, ⟨(.some 34), (.call 37 [(.t 33)]), (.some (31, .false))⟩, ⟨(.some 35), (.un .not (.t 34)), (.some (31, .false))⟩, ⟨(.some 36), (.pick (.t 31) (.c (.sc (.bool .true))) (.t 35)), .none⟩, ⟨(.some 37), (.mv (.t 36)), .none⟩, ⟨(.some 38), (.fadr 13 89 1 (.t 5)), (.some (37, .false))⟩, ⟨(.some 39), (.load .false 1 (.t 38)), (.some (37, .false))⟩, ⟨(.some 40), (.call 37 [(.t 39)]), (.some (37, .false))⟩, ⟨(.some 41), (.un .not (.t 40)), (.some (37, .false))⟩, ⟨(.some 42), (.pick (.t 37) (.c (.sc (.bool .true))) (.t 41)), .none⟩, ⟨(.some 43), (.mv (.t 42)), .none⟩, ⟨(.some 44), (.fadr 14 90 1 (.t 5)), (.some (43, .false))⟩, ⟨(.some 45), (.load .false 1 (.t 44)), (.some (43, .false))⟩, ⟨(.some 46), (.call 37 [(.t 45)]), (.some (43, .false))⟩, ⟨(.some 47), (.un .not (.t 46)), (.some (43, .false))⟩, ⟨(.some 48), (.pick (.t 43) (.c (.sc (.bool .true))) (.t 47)), .none⟩, ⟨(.some 49), (.mv (.t 48)), .none⟩, ⟨(.some 50), (.fadr 15 91 1 (.t 5)), (.some (49, .false))⟩, ⟨(.some 51), (.load .false 1 (.t 50)), (.some (49, .false))⟩, ⟨(.some 52), (.call 37 [(.t 51)]), (.some (49, .false))⟩, ⟨(.some 53), (.un .not (.t 52)), (.some (49, .false))⟩, ⟨(.some 54), (.pick (.t 49) (.c (.sc (.bool .true))) (.t 53)), .none⟩]) (.cond (.t 54) (.seq (.ops [⟨(.some 6), (.mv (.c (.sc (.bool .false)))), .none⟩]) .ret) .skip)) (.seq (.seq (.ops [⟨(.some 55), (.fadr 3 77 1 (.t 5)), .none⟩, ⟨(.some 56), (.load .false 1 (.t 55)), .none⟩, ⟨(.some 57), (.len .none (.t 56)), .none⟩, ⟨(.some 58), (.fadr 0 0 1 (.t 3)), .none⟩, ⟨(.some 59), (.load .false 1 (.t 58)), .none⟩, ⟨(.some 60), (.bin .gtr (.t 57) (.t 59)), .none⟩, ⟨(.some 61), (.mv (.t 60)), .none⟩, ⟨(.some 62), (.fadr 4 78 1 (.t 5)), (.some (61, .false))⟩, ⟨(.some 63), (.load .false 1 (.t 62)), (.some (61, .false))⟩, ⟨(.some 64), (.len .none (.t 63)), (.some (61, .false))⟩, ⟨(.some 65), (.fadr 1 1 1 (.t 3)), (.some (61, .false))⟩, ⟨(.some 66), (.load .false 1 (.t 65)), (.some (61, .false))⟩, ⟨(.some 67), (.bin .gtr (.t 64) (.t 66)), (.some (61, .false))⟩, ⟨(.some 68), (.pick (.t 61) (.c (.sc (.bool .true))) (.t 67)), .none⟩, ⟨(.some 69), (.mv (.t 68)), .none⟩, ⟨(.some 70), (.fadr 5 79 1 (.t 5)), (.some (69, .false))⟩, ⟨(.some 71), (.load .false 1 (.t 70)), (.some (69, .false))⟩, ⟨(.some 72), (.len .none (.t 71)), (.some (69, .false))⟩, ⟨(.some 73), (.fadr 2 2 1 (.t 3)), (.some (69, .false))⟩, ⟨(.some 74), (.load .false 1 (.t 73)), (.some (69, .false))⟩, ⟨(.some 75), (.bin .gtr (.t 72) (.t 74)), (.some (69, .false))⟩, ⟨(.some 76), (.pick (.t 69) (.c (.sc (.bool .true))) (.t 75)), .none⟩, ⟨(.some 77), (.mv (.t 76)), .none⟩, ⟨(.some 78), (.fadr 6 80 1 (.t 5)), (.some (77, .false))⟩, ⟨(.some 79), (.load .false 1 (.t 78)), (.some (77, .false))⟩, ⟨(.some 80), (.len .none (.t 79)), (.some (77, .false))⟩, ⟨(.some 81), (.fadr 3 3 1 (.t 3)), (.some (77, .false))⟩, ⟨(.some 82), (.load .false 1 (.t 81)), (.some (77, .false))⟩, ⟨(.some 83), (.bin .gtr (.t 80) (.t 82)), (.some (77, .false))⟩, ⟨(.some 84), (.pick (.t 77) (.c (.sc (.bool .true))) (.t 83)), .none⟩, ⟨(.some 85), (.mv (.t 84)), .none⟩, ⟨(.some 86), (.fadr 7 81 1 (.t 5)), (.some (85, .false))⟩, ⟨(.some 87), (.load .false 1 (.t 86)), (.some (85, .false))⟩, ⟨(.some 88), (.len .none (.t 87)), (.some (85, .false))⟩, ⟨(.some 89), (.fadr 4 4 1 (.t 3)), (.some (85, .false))⟩, ⟨(.some 90), (.load .false 1 (.t 89)), (.some (85, .false))⟩, ⟨(.some 91), (.bin .gtr (.t 88) (.t 90)), (.some (85, .false))⟩, ⟨(.some 92), (.pick (.t 85) (.c (.sc (.bool .true))) (.t 91)), .none⟩, ⟨(.some 93), (.mv (.t 92)), .none⟩, ⟨(.some 94), (.fadr 8 82 1 (.t 5)), (.some (93, .false))⟩, ⟨(.some 95), (.load .false 1 (.t 94)), (.some (93, .false))⟩, ⟨(.some 96), (.len .none (.t 95)), (.some (93, .false))⟩, ⟨(.some 97), (.fadr 5 5 1 (.t 3)), (.some (93, .false))⟩, ⟨(.some 98), (.load .false 1 (.t 97)), (.some (93, .false))⟩, ⟨(.some 99), (.bin .gtr (.t 96) (.t 98)), (.some (93, .false))⟩, ⟨(.some 100), (.pick (.t 93) (.c (.sc (.bool .true))) (.t 99)), .none⟩, ⟨(.some 101), (.mv (.t 100)), .none⟩, ⟨(.some 102), (.fadr 9 83 1 (.t 5)), (.some (101, .false))⟩, ⟨(.some 103), (.load .false 1 (.t 102)), (.some (101, .false))⟩, ⟨(.some 104), (.len .none (.t 103)), (.some (101, .false))⟩, ⟨(.some 105), (.fadr 7 7 1 (.t 3)), (.some (101, .false))⟩, ⟨(.some 106), (.load .false 1 (.t 105)), (.some (101, .false))⟩, ⟨(.some 107), (.bin .gtr (.t 104) (.t 106)), (.some (101, .false))⟩, ⟨(.some 108), (.pick (.t 101) (.c (.sc (.bool .true))) (.t 107)), .none⟩, ⟨(.some 109), (.mv (.t 108)), .none⟩, ⟨(.some 110), (.fadr 10 84 1 (.t 5)), (.some (109, .false))⟩, ⟨(.some 111), (.load .false 1 (.t 110)), (.some (109, .false))⟩, ⟨(.some 112), (.len .none (.t 111)), (.some (109, .false))⟩, ⟨(.some 113), (.bin .gtr (.t 112) (.c (.sc (.int .i64 65536)))), (.some (109, .false))⟩, ⟨(.some 114), (.pick (.t 109) (.c (.sc (.bool .true))) (.t 113)), .none⟩]) (.cond (.t 114) (.seq (.ops [⟨(.some 6), (.mv (.c (.sc (.bool .false)))), .none⟩]) .ret) .skip)) (.seq (.seq (.ops [⟨(.some 7), (.mv (.c (.sc (.int .i64 0)))), .none⟩]) (.block 0 (.loop c_ref15_RightState_l1))) c_ref15_RightState_p2))))
theorem t_ref15_RightState : trF Try.prog qq 17 = some (250, [(.tmp 6)], c_ref15_RightState) := by kernel_rfl
def c_ref15_Copy : AC := (.seq (.ops [⟨(.some 1), (.box (.t 0)), .none⟩, ⟨(.some 2), (.box (.c (.agg 92 [(.sc (.int .i64 0)), (.agg 38 [(.arr 16 1 [(.sc (.int .u32 0)), (.sc (.int .u32 0)), (.sc (.int .u32 0)), (.sc (.int .u32 0)), (.sc (.int .u32 0)), (.sc (.int .u32 0)), (.sc (.int .u32 0)), (.sc (.int .u32 0)), (.sc (.int .u32 0)), (.sc (.int .u32 0)), (.sc (.int .u32 0)), (.sc (.int .u32 0)), (.sc (.int .u32 0)), (.sc (.int .u32 0)), (.sc (.int .u32 0)), (.sc (.int .u32 0))]), (.arr 16 1 [(.sc (.int .i64 0)), (.sc (.int .i64 0)), (.sc (.int .i64 0)), (.sc (.int .i64 0)), (.sc (.int .i64 0)), (.sc (.int .i64 0)), (.sc (.int .i64 0)), (.sc (.int .i64 0)), (.sc (.int .i64 0)), (.sc (.int .i64 0)), (.sc (.int .i64 0)), (.sc (.int .i64 0)), (.sc (.int .i64 0)), (.sc (.int .i64 0)), (.sc (.int .i64 0)), (.sc (.int .i64 0))]), (.agg 3 [(.sc (.int .i64 0)), (.sc (.int .i64 0)), (.sc (.int .i64 0))]), (.sc (.int .i64 0)), (.sc (.bool .false)), (.sc (.int .i64 0))]), (.agg 38 [(.arr 16 1 [(.sc (.int .u32 0)), (.sc (.int .u32 0)), (.sc (.int .u32 0)), (.sc (.int .u32 0)), (.sc (.int .u32 0)), (.sc (.int .u32 0)), (.sc (.int .u32 0)), (.sc (.int .u32 0)), (.sc (.int .u32 0)), (.sc (.int .u32 0)), (.sc (.int .u32 0)), (.sc (.int .u32 0)), (.sc (.int .u32 0)), (.sc (.int .u32 0)), (.sc (.int .u32 0)), (.sc (.int .u32 0))]), (.arr 16 1 [(.sc (.int .i64 0)), (.sc (.int .i64 0)), (.sc (.int .i64 0)), (.sc (.int .i64 0)), (.sc (.int .i64 0)), (.sc (.int .i64 0)), (.sc (.int .i64 0)), (.sc (.int .i64 0)), (.sc (.int .i64 0)), (.sc (.int .i64 0)), (.sc (.int .i64 0)), (.sc (.int .i64 0)), (.sc (.int .i64 0)), (.sc (.int .i64 0)), (.sc (.int .i64 0)), (.sc (.int .i64 0))]), (.agg 3 [(.sc (.int .i64 0)), (.sc (.int .i64 0)), (.sc (.int .i64 0))]), (.sc (.int .i64 0)), (.sc (.bool .false)), (.sc (.int .i64 0))]), (.fro .true 0 []), (.fro .true 0 []), (.fro .true 0 []), (.fro .true 0 []), (.fro .true 0 []), (.fro .true 0 []), (.fro .true 0 []), (.fro .true 0 []), (.fro .true 0 []), (.agg 3 [(.sc (.int .i64 0)), (.sc (.int .i64 0)), (.sc (.int .i64 0))]), (.sc (.int .i64 0)), (.sc (.int .i64 0)), (.sc (.int .i64 0))]))), .none⟩]) (.seq (.ops [⟨(.some 3), (.fadr 3 77 1 (.t 1)), .none⟩, ⟨(.some 4), (.load .false 1 (.t 3)), .none⟩, ⟨(.some 5), (.call 49 [(.t 4)]), .none⟩, ⟨(.some 6), (.fadr 3 77 1 (.t 1)), .none⟩, ⟨.none, (.store 1 (.t 6) (.t 5)), .none⟩]) (.seq (.ops [⟨(.some 7), (.fadr 4 78 1 (.t 1)), .none⟩, ⟨(.some 8), (.load .false 1 (.t 7)), .none⟩, ⟨(.some 9), (.app 1 4 (.c (.fro .true 0 [])) (.t 8)), .none⟩, ⟨(.some 10), (.fadr 4 78 1 (.t 1)), .none⟩, ⟨.none, (.store 1 (.t 10) (.t 9)), .none⟩]) (.seq (.ops [⟨(.some 11), (.fadr 5 79 1 (.t 1)), .none⟩, ⟨(.some 12), (.load .false 1 (.t 11)), .none⟩, ⟨(.some 13), (.app 1 4 (.c (.fro .true 0 [])) (.t 12)), .none⟩, ⟨(.some 14), (.fadr 5 79 1 (.t 1)), .none⟩, ⟨.none, (.store 1 (.t 14) (.t 13)), .none⟩]) (.seq (.ops [⟨(.some 15), (.fadr 6 80 1 (.t 1)), .none⟩, ⟨(.some 16), (.load .false 1 (.t 15)), .none⟩, ⟨(.some 17), (.app 1 1 (.c (.fro .true 0 [])) (.t 16)), .none⟩, ⟨(.some 18), (.fadr 6 80 1 (.t 1)), .none⟩, ⟨.none, (.store 1 (.t 18) (.t 17)), .none⟩]) (.seq (.ops [⟨(.some 19), (.fadr 7 81 1 (.t 1)), .none⟩, ⟨(.some 20), (.load .false 1 (.t 19)), .none⟩, ⟨(.some 21), (.app 1 1 (.c (.fro .true 0 [])) (.t 20)), .none⟩, ⟨(.some 22), (.fadr 7 81 1 (.t 1)), .none⟩, ⟨.none, (.store 1 (.t 22) (.t 21)), .none⟩]) (.seq (.ops [⟨(.some 23), (.fadr 8 82 1 (.t 1)), .none⟩, ⟨(.some 24), (.load .false 1 (.t 23)), .none⟩, ⟨(.some 25), (.app 5 32 (.c (.fro .true 0 [])) (.t 24)), .none⟩, ⟨(.some 26), (.fadr 8 82 1 (.t 1)), .none⟩, ⟨.none, (.store 1 (.t 26) (.t 25)), .none⟩]) (.seq (.ops [⟨(.some 27), (.fadr 9 83 1 (.t 1)), .none⟩, ⟨(.some 28), (.load .false 1 (.t 27)), .none⟩, ⟨(.some 29), (.app 8 64 (.c (.fro .true 0 [])) (.t 28)), .none⟩, ⟨(.some 30), (.fadr 9 83 1 (.t 1)), .none⟩, ⟨.none, (.store 1 (.t 30) (.t 29)), .none⟩]) (.seq (.ops [⟨(.some 31), (.fadr 10 84 1 (.t 1)), .none⟩, ⟨(.some 32), (.load .false 1 (.t 31)), .none⟩, ⟨(.some 33), (.app 1 1 (.c (.fro .true 0 [])) (.t 32)), .none⟩, ⟨(.some 34), (.fadr 10 84 1 (.t 1)), .none⟩, ⟨.none, (.store 1 (.t 34) (.t 33)), .none⟩]) (.seq (.ops [⟨(.some 35), (.fadr 11 85 1 (.t 1)), .none⟩, ⟨(.some 36), (.load .false 1 (.t 35)), .none⟩, ⟨(.some 37), (.app 3 24 (.c (.fro .true 0 [])) (.t 36)), .none⟩, ⟨(.some 38), (.fadr 11 85 1 (.t 1)), .none⟩, ⟨.none, (.store 1 (.t 38) (.t 37)), .none⟩]) (.seq (.ops [⟨(.some 39), (.load .true 92 (.t 1)), .none⟩, ⟨.none, (.store 92 (.t 2) (.t 39)), .none⟩]) .ret)))))))))))
theorem t_ref15_Copy : trF Try.prog qq 22 = some (40, [(.cell 2 .true 92)], c_ref15_Copy) := by kernel_rfl
def c_ref15_within : AC := (.seq (.ops [⟨(.some 4), (.mv (.c (.sc (.bool .false)))), .none⟩]) (.seq (.ops [⟨(.some 5), (.mv (.t 0)), .none⟩, ⟨(.some 6), (.bin .geq (.t 5) (.c (.sc (.int .i64 1)))), .none⟩, ⟨(.some 7), (.mv (.t 6)), .none⟩, ⟨(.some 8), (.mv (.t 0)), (.some (7, .true))⟩, ⟨(.some 9), (.mv (.t 1)), (.some (7, .true))⟩, ⟨(.some 10), (.bin .leq (.t 8) (.t 9)), (.some (7, .true))⟩, ⟨(.some 11), (.pick (.t 7) (.t 10) (.c (.sc (.bool .false)))), .none⟩, ⟨(.some 4), (.mv (.t 11)), .none⟩]) .ret))
theorem t_ref15_within : trF Try.prog qq 24 = some (12, [(.tmp 4)], c_ref15_within) := by kernel_rfl
def c_ref15_SameWords_l1 : AC := (.seq (.seq (.ops [⟨(.some 11), (.mv (.t 5)), .none⟩, ⟨(.some 12), (.mv (.t 0)), .none⟩, ⟨(.some 13), (.len .none (.t 12)), .none⟩, ⟨(.some 14), (.bin .lss (.t 11) (.t 13)), .none⟩]) (.cond (.t 14) .skip (.exit 0))) (.seq (.block 1 (.seq (.ops [⟨(.some 17), (.mv (.t 0)), .none⟩, ⟨(.some 18), (.mv (.t 5)), .none⟩, ⟨(.some 19), (.iadr .none 1 (.t 17) (.t 18)), .none⟩, ⟨(.some 20), (.load .false 1 (.t 19)), .none⟩, ⟨(.some 21), (.mv (.t 1)), .none⟩, ⟨(.some 22), (.mv (.t 5)), .none⟩, ⟨(.some 23), (.iadr .none 1 (.t 21) (.t 22)), .none⟩, ⟨(.some 24), (.load .false 1 (.t 23)), .none⟩, ⟨(.some 25), (.bin .neq (.t 20) (.t 24)), .none⟩]) (.cond (.t 25) (.seq (.ops [⟨(.some 4), (.mv (.c (.sc (.bool .false)))), .none⟩]) .ret) .skip))) (.ops [⟨(.some 15), (.mv (.t 5)), .none⟩, ⟨(.some 16), (.bin .add (.t 15) (.c (.sc (.int .i64 1)))), .none⟩, ⟨(.some 5), (.mv (.t 16)), .none⟩])))
def c_ref15_SameWords_p1 : AC := (.seq (.ops [⟨(.some 4), (.mv (.c (.sc (.bool .true)))), .none⟩]) .ret)
def c_ref15_SameWords : AC := (.seq (.ops [⟨(.some 4), (.mv (.c (.sc (.bool .false)))), .none⟩]) (.seq (.seq (.ops [⟨(.some 6), (.mv (.t 0)), .none⟩, ⟨(.some 7), (.len .none (.t 6)), .none⟩, ⟨(.some 8), (.mv (.t 1)), .none⟩, ⟨(.some 9), (.len .none (.t 8)), .none⟩, ⟨(.some 10), (.bin .neq (.t 7) (.t 9)), .none⟩]) (.cond (.t 10) (.seq (.ops [⟨(.some 4), (.mv (.c (.sc (.bool .false)))), .none⟩]) .ret) .skip)) (.seq (.seq (.ops [⟨(.some 5), (.mv (.c (.sc (.int .i64 0)))), .none⟩]) (.block 0 (.loop c_ref15_SameWords_l1))) c_ref15_SameWords_p1)))
theorem t_ref15_SameWords : trF Try.prog qq 25 = some (26, [(.tmp 4)], c_ref15_SameWords) := by kernel_rfl
def c_ref15_SameBools_l1 : AC := (.seq (.seq (.ops [⟨(.some 11), (.mv (.t 5)), .none⟩, ⟨(.some 12), (.mv (.t 0)), .none⟩, ⟨(.some 13), (.len .none (.t 12)), .none⟩, ⟨(.some 14), (.bin .lss (.t 11) (.t 13)), .none⟩]) (.cond (.t 14) .skip (.exit 0))) (.seq (.block 1 (.seq (.ops [⟨(.some 17), (.mv (.t 0)), .none⟩, ⟨(.some 18), (.mv (.t 5)), .none⟩, ⟨(.some 19), (.iadr .none 1 (.t 17) (.t 18)), .none⟩, ⟨(.some 20), (.load .false 1 (.t 19)), .none⟩, ⟨(.some 21), (.mv (.t 1)), .none⟩, ⟨(.some 22), (.mv (.t 5)), .none⟩, ⟨(.some 23), (.iadr .none 1 (.t 21) (.t 22)), .none⟩, ⟨(.some 24), (.load .false 1 (.t 23)), .none⟩, ⟨(.some 25), (.eqs .true .bool (.t 20) (.t 24)), .none⟩]) (.cond (.t 25) (.seq (.ops [⟨(.some 4), (.mv (.c (.sc (.bool .false)))), .none⟩]) .ret) .skip))) (.ops [⟨(.some 15), (.mv (.t 5)), .none⟩, ⟨(.some 16), (.bin .add (.t 15) (.c (.sc (.int .i64 1)))), .none⟩, ⟨(.some 5), (.mv (.t 16)), .none⟩])))
def c_ref15_SameBools_p1 : AC := (.seq (.ops [⟨(.some 4), (.mv (.c (.sc (.bool .true)))), .none⟩]) .ret)
def c_ref15_SameBools : AC := (.seq (.ops [⟨(.some 4), (.mv (.c (.sc (.bool .false)))), .none⟩]) (.seq (.seq (.ops [⟨(.some 6), (.mv (.t 0)), .none⟩, ⟨(.some 7), (.len .none (.t 6)), .none⟩, ⟨(.some 8), (.mv (.t 1)), .none⟩, ⟨(.some 9), (.len .none (.t 8)), .none⟩, ⟨(.some 10), (.bin .neq (.t 7) (.t 9)), .none⟩]) (.cond (.t 10) (.seq (.ops [⟨(.some 4), (.mv (.c (.sc (.bool .false)))), .none⟩]) .ret) .skip)) (.seq (.seq (.ops [⟨(.some 5), (.mv (.c (.sc (.int .i64 0)))), .none⟩]) (.block 0 (.loop c_ref15_SameBools_l1))) c_ref15_SameBools_p1)))
theorem t_ref15_SameBools : trF Try.prog qq 26 = some (26, [(.tmp 4)], c_ref15_SameBools) := by kernel_rfl
def c_ref15_rightSide_l1 : AC := (.seq (.seq (.ops [⟨(.some 59), (.mv (.t 7)), .none⟩, ⟨(.some 60), (.bin .lss (.t 59) (.c (.sc (.int .i64 16)))), .none⟩]) (.cond (.t 60) .skip (.exit 0))) (.seq (.block 1 (.seq (.ops [⟨(.some 63), (.mv (.t 7)), .none⟩, ⟨(.some 64), (.fadr 1 16 16 (.t 5)), .none⟩, ⟨(.some 65), (.iadr (.some 16) 1 (.t 64) (.t 63)), .none⟩, ⟨(.some 66), (.load .false 1 (.t 65)), .none⟩, ⟨(.some 67), (.bin .neq (.t 66) (.c (.sc (.int .i64 (-1))))), .none⟩, ⟨(.some 68), (.mv (.t 67)), .none⟩, ⟨(.some 69), (.mv (.t 7)), (.some (68, .true))⟩, ⟨(.some 70), (.fadr 1 16 16 (.t 5)), (.some (68, .true))⟩, ⟨(.some 71), (.iadr (.some 16) 1 (.t 70) (.t 69)), (.some (68, .true))⟩, ⟨(.some 72), (.load .false 1 (.t 71)), (.some (68, .true))⟩, ⟨(.some 73), (.call 37 [(.t 72)]), (.some (68, .true))⟩, ⟨(.some 74), (.un .not (.t 73)), (.some (68, .true))⟩, ⟨(.some 75), (.pick (.t 68) (.t 74) (.c (.sc (.bool .false)))), .none⟩]) (.cond (.t 75) (.seq (.ops [⟨(.some 6), (.mv (.c (.sc (.bool .false)))), .none⟩]) .ret) .skip))) (.ops [⟨(.some 61), (.mv (.t 7)), .none⟩, ⟨(.some 62), (.bin .add (.t 61) (.c (.sc (.int .i64 1)))), .none⟩, ⟨(.some 7), (.mv (.t 62)), .none⟩])))
def c_ref15_rightSide_p1 : AC := (.seq (.ops [⟨(.some 6), (.mv (.c (.sc (.bool .true)))), .none⟩]) .ret)
def c_ref15_rightSide : AC := (.seq (.ops [⟨(.some 3), (.box (.t 0)), .none⟩, ⟨(.some 5), (.box (.t 2)), .none⟩, ⟨(.some 6), (.mv (.c (.sc (.bool .false)))), .none⟩]) (.seq (.seq (.ops [⟨(.some 8), (.fadr 3 35 1 (.t 5)), .none⟩, ⟨(.some 9), (.load .false 1 (.t 8)), .none⟩, ⟨(.some 10), (.call 37 [(.t 9)]), .none⟩, ⟨(.some 11), (.un .not (.t 10)), .none⟩, ⟨(.some 12), (.mv (.t 11)), .none⟩, ⟨(.some 13), (.fadr 5 37 1 (.t 5)), (.some (12, .false))⟩, ⟨(.some 14), (.load .false 1 (.t 13)), (.some (12, .false))⟩, ⟨(.some 15), (.call 37 [(.t 14)]), (.some (12, .false))⟩, ⟨(.some 16), (.un .not (.t 15)), (.some (12, .false))⟩, ⟨(.some 17), (.pick (.t 12) (.c (.sc (.bool .true))) (.t 16)), .none⟩, ⟨(.some 18), (.mv (.t 17)), .none⟩, ⟨(.some 19), (.fadr 2 32 3 (.t 5)), (.some (18, .false))⟩, ⟨(.some 20), (.fadr 2 2 1 (.t 19)), (.some (18, .false))⟩, ⟨(.some 21), (.load .false 1 (.t 20)), (.some (18, .false))⟩, ⟨(.some 22), (.call 37 [(.t 21)]), (.some (18, .false))⟩, ⟨(.some 23), (.un .not (.t 22)), (.some (18, .false))⟩, ⟨(.some 24), (.pick (.t 18) (.c (.sc (.bool .true))) (.t 23)), .none⟩, ⟨(.some 25), (.mv (.t 24)), .none⟩, ⟨(.some 26), (.fadr 2 32 3 (.t 5)), (.some (25, .false))⟩, ⟨(.some 27), (.fadr 0 0 1 (.t 26)), (.some (25, .false))⟩, ⟨(.some 28), (.load .false 1 (.t 27)), (.some (25, .false))⟩, ⟨(.some 29), (.bin .lss (.t 28) (.c (.sc (.int .i64 0)))), (.some (25, .false))⟩, ⟨(.some 30), (.pick (.t 25) (.c (.sc (.bool .true))) (.t 29)), .none⟩, ⟨(.some 31), (.mv (.t 30)), .none⟩, ⟨(.some 32), (.fadr 2 32 3 (.t 5)), (.some (31, .false))⟩, ⟨(.some 33), (.fadr 0 0 1 (.t 32)), (.some (31, .false))⟩, ⟨(.some 34), (.load .false 1 (.t 33)), (.some (31, .false))⟩, ⟨(.some 35), (.fadr 0 0 1 (.t 3)), (.some (31, .false))⟩, ⟨(.some 36), (.load .false 1 (.t 35)), (.some (31, .false))⟩, ⟨(.some 37), (.len .none (.t 36)), (.some (31, .false))⟩, ⟨(.some 38), (.bin .geq (.t 34) (.t 37)), (.some (31, .false))⟩, ⟨(.some 39), (.pick (.t 31) (.c (.sc (.bool .true))) (.t 38)), .none⟩, ⟨(.some 40), (.mv (.t 39)), .none⟩, ⟨(.some 41), (.fadr 2 32 3 (.t 5)), (.some (40, .false))⟩, ⟨(.some 42), (.fadr 1 1 1 (.t 41)), (.some (40, .false))⟩, ⟨(.some 43), (.load .false 1 (.t 42)), (.some (40, .false))⟩, ⟨(.some 44), (.bin .lss (.t 43) (.c (.sc (.int .i64 0)))), (.some (40, .false))⟩, ⟨(.some 45), (.pick (.t 40) (.c (.sc (.bool .true))) (.t 44)), .none⟩, ⟨(.some 46), (.mv (.t 45)), .none⟩, ⟨(.some 47), (.fadr 2 32 3 (.t 5)), (.some (46, .false))⟩, ⟨(.some 48), (.fadr 1 1 1 (.t 47)), (.some (46, .false))⟩, ⟨(.some 49), (.load .false 1 (.t 48)), (.some (46, .false))⟩, ⟨(.some 50), (.load .true 17 (.t 3)), (.some (46, .false))⟩, ⟨(.some 51), (.mv (.t 1)), (.some (46, .false))⟩, ⟨(.some 52), (.fadr 2 32 3 (.t 5)), (.some (46, .false))⟩, ⟨(.some 53), (.fadr 0 0 1 (.t 52)), (.some (46, .false))⟩, ⟨(.some 54), (.load .false 1 (.t 53)), (.some (46, .false))⟩, ⟨(.some 55), (.call 64 [(.t 50), (.t 51), (.t 54)]), (.some (46, .false))⟩, ⟨(.some 56), (.len .none (.t 55)), (.some (46, .false))⟩, ⟨(.some 57), (.bin .gtr (.t 49) (.t 56)), (.some (46, .false))⟩, ⟨(.some 58), (.pick (.t 46) (.c (.sc (.bool .true))) (.t 57)), .none⟩]) (.cond (.t 58) (.seq (.ops [⟨(.some 6), (.mv (.c (.sc (.bool .false)))), .none⟩]) .ret) .skip)) (.seq (.seq (.ops [⟨(.some 7), (.mv (.c (.sc (.int .i64 0)))), .none⟩]) (.block 0 (.loop c_ref15_rightSide_l1))) c_ref15_rightSide_p1)))
theorem t_ref15_rightSide : trF Try.prog qq 36 = some (76, [(.tmp 6)], c_ref15_rightSide) := by kernel_rfl
def c_ref15_big : AC := (.seq (.ops [⟨(.some 2), (.mv (.c (.sc (.bool .false)))), .none⟩]) (.seq (.ops [⟨(.some 3), (.mv (.t 0)), .none⟩, ⟨(.some 4), (.bin .geq (.t 3) (.c (.sc (.int .i64 0)))), .none⟩, ⟨(.some 5), (.mv (.t 4)), .none⟩, ⟨(.some 6), (.mv (.t 0)), (.some (5, .true))⟩, ⟨(.some 7), (.bin .leq (.t 6) (.c (.sc (.int .i64 1099511627776)))), (.some (5, .true))⟩, ⟨(.some 8), (.pick (.t 5) (.t 7) (.c (.sc (.bool .false)))), .none⟩, ⟨(.some 2), (.mv (.t 8)), .none⟩]) .ret))
theorem t_ref15_big : trF Try.prog qq 37 = some (9, [(.tmp 2)], c_ref15_big) := by kernel_rfl
def c_ref15_lies : AC := (.seq (.ops [⟨(.some 6), (.mv (.c (.sc (.bool .false)))), .none⟩]) (.seq (.ops [⟨(.some 7), (.mv (.t 1)), .none⟩, ⟨(.some 8), (.bin .eql (.t 7) (.c (.sc (.int .i64 1)))), .none⟩, ⟨(.some 9), (.mv (.t 8)), .none⟩, ⟨(.some 10), (.mv (.t 1)), (.some (9, .false))⟩, ⟨(.some 11), (.bin .eql (.t 10) (.c (.sc (.int .i64 2)))), (.some (9, .false))⟩, ⟨(.some 12), (.pick (.t 9) (.c (.sc (.bool .true))) (.t 11)), .none⟩, ⟨(.some 13), (.mv (.t 12)), .none⟩, ⟨(.some 14), (.mv (.t 1)), (.some (13, .false))⟩, ⟨(.some 15), (.bin .eql (.t 14) (.c (.sc (.int .i64 4)))), (.some (13, .false))⟩, ⟨(.some 16), (.pick (.t 13) (.c (.sc (.bool .true))) (.t 15)), .none⟩, ⟨(.some 17), (.mv (.t 16)), .none⟩, ⟨(.some 18), (.mv (.t 0)), (.some (17, .true))⟩, ⟨(.some 19), (.bin .geq (.t 18) (.c (.sc (.int .i64 0)))), (.some (17, .true))⟩, ⟨(.some 20), (.pick (.t 17) (.t 19) (.c (.sc (.bool .false)))), .none⟩, ⟨(.some 21), (.mv (.t 20)), .none⟩, ⟨(.some 22), (.mv (.t 0)), (.some (21, .true))⟩, ⟨(.some 23), (.mv (.t 2)), (.some (21, .true))⟩, ⟨(.some 24), (.bin .leq (.t 22) (.t 23)), (.some (21, .true))⟩, ⟨(.some 25), (.pick (.t 21) (.t 24) (.c (.sc (.bool .false)))), .none⟩, ⟨(.some 26), (.mv (.t 25)), .none⟩, ⟨(.some 27), (.mv (.t 2)), (.some (26, .true))⟩, ⟨(.some 28), (.mv (.t 0)), (.some (26, .true))⟩, ⟨(.some 29), (.bin .sub (.t 27) (.t 28)), (.some (26, .true))⟩, ⟨(.some 30), (.mv (.t 1)), (.some (26, .true))⟩, ⟨(.some 31), (.bin .geq (.t 29) (.t 30)), (.some (26, .true))⟩, ⟨(.some 32), (.pick (.t 26) (.t 31) (.c (.sc (.bool .false)))), .none⟩, ⟨(.some 33), (.mv (.t 32)), .none⟩, ⟨(.some 34), (.mv (.t 0)), (.some (33, .true))⟩, ⟨(.some 35), (.mv (.t 1)), (.some (33, .true))⟩, ⟨(.some 36), (.bin .rem (.t 34) (.t 35)), (.some (33, .true))⟩, ⟨(.some 37), (.bin .eql (.t 36) (.c (.sc (.int .i64 0)))), (.some (33, .true))⟩, ⟨(.some 38), (.pick (.t 33) (.t 37) (.c (.sc (.bool .false)))), .none⟩, ⟨(.some 6), (.mv (.t 38)), .none⟩]) .ret))
theorem t_ref15_lies : trF Try.prog qq 38 = some (39, [(.tmp 6)], c_ref15_lies) := by kernel_rfl
def c_ref15_rightRequest : AC := (.seq (.ops [⟨(.some 2), (.box (.t 0)), .none⟩, ⟨(.some 4), (.mv (.c (.sc (.bool .false)))), .none⟩]) (.seq (.ops [⟨(.some 6), (.fadr 1 1 1 (.t 2)), .none⟩, ⟨(.some 7), (.load .false 1 (.t 6)), .none⟩, ⟨(.some 8), (.call 65 [(.t 7)]), .none⟩, ⟨(.some 5), (.mv (.t 8)), .none⟩]) (.seq (.ops [⟨(.some 9), (.fadr 3 3 1 (.t 2)), .none⟩, ⟨(.some 10), (.load .false 1 (.t 9)), .none⟩, ⟨(.some 11), (.fadr 1 1 1 (.t 2)), .none⟩, ⟨(.some 12), (.load .false 1 (.t 11)), .none⟩, ⟨(.some 13), (.call 66 [(.t 12)]), .none⟩, ⟨(.some 14), (.bin .eql (.t 10) (.t 13)), .none⟩, ⟨(.some 15), (.mv (.t 14)), .none⟩, ⟨(.some 16), (.fadr 2 2 1 (.t 2)), (.some (15, .true))⟩, ⟨(.some 17), (.load .false 1 (.t 16)), (.some (15, .true))⟩, ⟨(.some 18), (.fadr 3 3 1 (.t 2)), (.some (15, .true))⟩, ⟨(.some 19), (.load .false 1 (.t 18)), (.some (15, .true))⟩, ⟨(.some 20), (.mv (.t 1)), (.some (15, .true))⟩, ⟨(.some 21), (.call 38 [(.t 17), (.t 19), (.t 20)]), (.some (15, .true))⟩, ⟨(.some 22), (.pick (.t 15) (.t 21) (.c (.sc (.bool .false)))), .none⟩, ⟨(.some 23), (.mv (.t 22)), .none⟩, ⟨(.some 24), (.fadr 0 0 1 (.t 2)), (.some (23, .true))⟩, ⟨(.some 25), (.load .false 1 (.t 24)), (.some (23, .true))⟩, ⟨(.some 26), (.mv (.t 25)), (.some (23, .true))⟩, ⟨(.some 27), (.mv (.t 5)), (.some (26, .true))⟩, ⟨(.some 28), (.bin .eql (.t 27) (.c (.sc (.int .i64 5)))), (.some (26, .true))⟩, ⟨(.some 29), (.pick (.t 26) (.t 28) (.c (.sc (.bool .false)))), (.some (23, .true))⟩, ⟨(.some 30), (.mv (.t 29)), (.some (23, .true))⟩, ⟨(.some 31), (.fadr 0 0 1 (.t 2)), (.some (30, .false))⟩, ⟨(.some 32), (.load .false 1 (.t 31)), (.some (30, .false))⟩, ⟨(.some 33), (.un .not (.t 32)), (.some (30, .false))⟩, ⟨(.some 34), (.mv (.t 33)), (.some (30, .false))⟩, ⟨(.some 35), (.mv (.t 5)), (.some (34, .true))⟩, ⟨(.some 36), (.bin .eql (.t 35) (.c (.sc (.int .i64 4)))), (.some (34, .true))⟩, ⟨(.some 37), (.pick (.t 34) (.t 36) (.c (.sc (.bool .false)))), (.some (30, .false))⟩, ⟨(.some 38), (.pick (.t 30) (.c (.sc (.bool .true))) (.t 37)), (.some (23, .true))⟩, ⟨(.some 39), (.pick (.t 23) (.t 38) (.c (.sc (.bool .false)))), .none⟩, ⟨(.some 40), (.mv (.t 39)), .none⟩, ⟨(.some 41), (.fadr 5 5 1 (.t 2)), (.some (40, .true))⟩, ⟨(.some 42), (.load .false 1 (.t 41)), (.some (40, .true))⟩, ⟨(.some 43), (.bin .geq (.t 42) (.c (.sc (.int .i64 0)))), (.some (40, .true))⟩, ⟨(.some 44), (.pick (.t 40) (.t 43) (.c (.sc (.bool .false)))), .none⟩, ⟨(.some 45), (.mv (.t 44)), .none⟩, ⟨(.some 46), (.fadr 5 5 1 (.t 2)), (.some (45, .true))⟩, ⟨(.some 47), (.load .false 1 (.t 46)), (.some (45, .true))⟩, ⟨(.some 48), (.bin .leq (.t 47) (.c (.sc (.int .i64 1000)))), (.some (45, .true))⟩, ⟨(.some 49), (.pick (.t 45) (.t 48) (.c (.sc (.bool .false)))), .none⟩, ⟨(.some 50), (.mv (.t 49)), .none⟩, ⟨(.some 51), (.fadr 6 6 1 (.t 2)), (.some (50, .true))⟩, ⟨(.some 52), (.load .false 1 (.t 51)), (.some (50, .true))⟩, ⟨(.some 53), (.bin .geq (.t 52) (.c (.sc (.int .i64 (-1))))), (.some (50, .true))⟩, ⟨(.some 54), (.pick (.t 50) (.t 53) (.c (.sc (.bool .false)))), .none⟩, ⟨(.some 55), (.mv (.t 54)), .none⟩, ⟨(.some 56), (.fadr 6 6 1 (.t 2)), (.some (55, .true))⟩, ⟨(.some 57), (.load .false 1 (.t 56)), (.some (55, .true))⟩, ⟨(.some 58), (.bin .leq (.t 57) (.c (.sc (.int .i64 15)))), (.some (55, .true))⟩, ⟨(.some 59), (.pick (.t 55) (.t 58) (.c (.sc (.bool .false)))), .none⟩, ⟨(.some 4), (.mv (.t 59)), .none⟩]) .ret)))
theorem t_ref15_rightRequest : trF Try.prog qq 39 = some (60, [(.tmp 4)], c_ref15_rightRequest) := by kernel_rfl
def c_ref15_slots : AC := copyC 3 16
theorem t_ref15_slots : trF Try.prog qq 49 = some (5, [(.tmp 2)], c_ref15_slots) := by kernel_rfl
def c_ref15_Cells : AC := (.seq (.ops [⟨(.some 3), (.box (.t 0)), .none⟩, ⟨(.some 6), (.mv (.c (.fro .true 0 []))), .none⟩]) (.seq (.seq (.ops [⟨(.some 7), (.mv (.t 2)), .none⟩, ⟨(.some 8), (.bin .lss (.t 7) (.c (.sc (.int .i64 0)))), .none⟩, ⟨(.some 9), (.mv (.t 8)), .none⟩, ⟨(.some 10), (.mv (.t 2)), (.some (9, .false))⟩, ⟨(.some 11), (.fadr 0 0 1 (.t 3)), (.some (9, .false))⟩, ⟨(.some 12), (.load .false 1 (.t 11)), (.some (9, .false))⟩, ⟨(.some 13), (.len .none (.t 12)), (.some (9, .false))⟩, ⟨(.some 14), (.bin .geq (.t 10) (.t 13)), (.some (9, .false))⟩, ⟨(.some 15), (.pick (.t 9) (.c (.sc (.bool .true))) (.t 14)), .none⟩]) (.cond (.t 15) (.seq (.ops [⟨(.some 6), (.mv (.c (.fro .true 0 []))), .none⟩]) .ret) .skip)) (.seq (.seq (.ops [⟨(.some 16), (.mv (.t 1)), .none⟩]) (.cond (.t 16) (.seq (.ops [⟨(.some 17), (.fadr 0 0 1 (.t 3)), .none⟩, ⟨(.some 18), (.load .false 1 (.t 17)), .none⟩, ⟨(.some 19), (.mv (.t 2)), .none⟩, ⟨(.some 20), (.iadr .none 6 (.t 18) (.t 19)), .none⟩, ⟨(.some 21), (.fadr 5 5 1 (.t 20)), .none⟩, ⟨(.some 22), (.load .false 1 (.t 21)), .none⟩, ⟨(.some 6), (.mv (.t 22)), .none⟩]) .ret) .skip)) (.seq (.ops [⟨(.some 23), (.fadr 0 0 1 (.t 3)), .none⟩, ⟨(.some 24), (.load .false 1 (.t 23)), .none⟩, ⟨(.some 25), (.mv (.t 2)), .none⟩, ⟨(.some 26), (.iadr .none 6 (.t 24) (.t 25)), .none⟩, ⟨(.some 27), (.fadr 4 4 1 (.t 26)), .none⟩, ⟨(.some 28), (.load .false 1 (.t 27)), .none⟩, ⟨(.some 6), (.mv (.t 28)), .none⟩]) .ret))))
theorem t_ref15_Cells : trF Try.prog qq 64 = some (29, [(.tmp 6)], c_ref15_Cells) := by kernel_rfl
/-- The functions of ref15. -/
def cl_ref15 : CodeL := [(12, 52, [(.tmp 2)], c_ref15_RightConfig), (13, 199, [(.tmp 4)], c_ref15_SameState), (15, 10, [(.cell 2 .true 92)], c_ref15_First), (17, 250, [(.tmp 6)], c_ref15_RightState), (22, 40, [(.cell 2 .true 92)], c_ref15_Copy), (24, 12, [(.tmp 4)], c_ref15_within), (25, 26, [(.tmp 4)], c_ref15_SameWords), (26, 26, [(.tmp 4)], c_ref15_SameBools), (36, 76, [(.tmp 6)], c_ref15_rightSide), (37, 9, [(.tmp 2)], c_ref15_big), (38, 39, [(.tmp 6)], c_ref15_lies), (39, 60, [(.tmp 4)], c_ref15_rightRequest), (49, 5, [(.tmp 2)], c_ref15_slots), (64, 29, [(.tmp 6)], c_ref15_Cells)]
theorem clok_ref15 : AllL (fun p => trF Try.prog qq p.1 = some p.2) cl_ref15 := ⟨t_ref15_RightConfig, t_ref15_SameState, t_ref15_First, t_ref15_RightState, t_ref15_Copy, t_ref15_within, t_ref15_SameWords, t_ref15_SameBools, t_ref15_rightSide, t_ref15_big, t_ref15_lies, t_ref15_rightRequest, t_ref15_slots, t_ref15_Cells, trivial⟩
/-- What is told of those that only make memory. -/
def gl_ref15 : SgL := [(49, makeS 3 16)]
theorem glok_ref15 : AllL (SgOk Try.prog qq) gl_ref15 := ⟨makeS_ok fun x es0 ts h1 h2 h3 => makes_copy mix t_ref15_slots (by decide) x es0 ts h1 h2 h3, trivial⟩
end Go.Proofs.Ythmlnmkbeohojaa

/- Code gone through up to its loops. -/
namespace Go.Ra
set_option linter.unusedVariables false
set_option linter.unusedSimpArgs false

/-- What is read by a name. -/
def readX : AX → List Nat
  | .t i => [i]
  | .c _ => []
def memN (i : Nat) : List Nat → Bool
  | [] => false
  | k :: l => bif Nat.beq i k then true else memN i l
def diffN (l r : List Nat) : List Nat := l.filter fun i => !memN i r
def readsX : List AX → List Nat
  | [] => []
  | x :: l => readX x ++ readsX l
def dstL : Option Nat → List Nat
  | some d => [d]
  | none => []
def usesO : List AG → List Nat → List Nat
  | [], _ => []
  | ⟨d, o, g⟩ :: r, df => diffN ((match g with | some (t, _) => [t] | none => []) ++ readsX (opnds o)) df ++ usesO r (dstL d ++ df)
def mustO : List AG → List Nat
  | [] => []
  | ⟨d, _, _⟩ :: r => dstL d ++ mustO r
/-- The names that code sets, whatever comes. -/
def mustD : AC → List Nat
  | .ops l => mustO l
  | .opsD l _ => mustO l
  | .seq a b => mustD a ++ mustD b
  | _ => []
/-- The names that code may read before it sets them. -/
def usesC : AC → List Nat
  | .ops l => usesO l []
  | .opsD l _ => usesO l []
  | .seq a b => usesC a ++ diffN (usesC b) (mustD a)
  | .cond c x y => readX c ++ (usesC x ++ usesC y)
  | .block _ c => usesC c
  | .loop c => usesC c
  | _ => []
def delN (k : Nat) (l : List Nat) : List Nat := l.filter fun i => !Nat.beq i k
/-- The names of a list alone. -/
def pruneE : List Nat → List (Nat × XV) → List (Nat × XV)
  | _, [] => []
  | l, (k, v) :: r => bif memN k l then (k, v) :: pruneE (delN k l) r else pruneE l r

theorem memN_del {i k : Nat} : ∀ {l : List Nat}, memN i (delN k l) = true → memN i l = true
  | [], h => h
  | a :: l, h => by
    simp only [delN, List.filter_cons] at h
    simp only [memN]
    cases hb : Nat.beq i a
    · rw [cond_false]
      split at h
      · simp only [memN, hb, cond_false] at h
        exact memN_del (k := k) h
      · exact memN_del (k := k) h
    · rfl
theorem getX_prune_none {i : Nat} : ∀ (l : List Nat) (env : List (Nat × XV)), memN i l = false → getX (pruneE l env) i = .unk
  | l, [], h => rfl
  | l, (k, v) :: r, h => by
    simp only [pruneE]
    cases hk : memN k l
    · exact getX_prune_none l r h
    · simp only [cond_true, getX, beq_if]
      have : ¬ i = k := fun e => by rw [e, hk] at h; cases h
      rw [if_neg this]
      refine getX_prune_none _ r ?_
      cases hd : memN i (delN k l)
      · rfl
      · rw [memN_del hd] at h; cases h
theorem getX_prune {i : Nat} : ∀ (l : List Nat) (env : List (Nat × XV)), getX (pruneE l env) i = .unk ∨ getX (pruneE l env) i = getX env i
  | l, [] => .inl rfl
  | l, (k, v) :: r => by
    simp only [pruneE]
    cases hk : memN k l
    · rw [cond_false]
      by_cases hi : i = k
      · subst hi
        exact .inl (getX_prune_none l r hk)
      · simp only [getX, beq_if, if_neg hi]
        exact getX_prune l r
    · simp only [cond_true, getX, beq_if]
      by_cases hi : i = k
      · rw [if_pos hi, if_pos hi]; exact .inr rfl
      · rw [if_neg hi, if_neg hi]
        exact getX_prune _ r
def XSt.prune (l : List Nat) (σ : XSt) : XSt := ⟨pruneE l σ.env, σ.hl, σ.n⟩
theorem prune_weak (l : List Nat) (σ : XSt) : Weak σ.st (σ.prune l).st := by
  refine ⟨fun i => ?_, fun _ => .inr rfl, Nat.le_refl _⟩
  show leA (get (conE σ.env) i) (get (conE (pruneE l σ.env)) i)
  rw [get_conE, get_conE]
  rcases getX_prune l σ.env (i := i) with h | h
  · rw [h]; exact .inl rfl
  · rw [h]; exact .inr (.inl rfl)
theorem leA_trans {a b c : AV} (h1 : leA a b) (h2 : leA b c) : leA a c := by
  rcases h2 with rfl | rfl | ⟨x, es, es', ts, rfl, rfl, h⟩
  · exact .inl rfl
  · exact h1
  · rcases h1 with h1 | h1 | ⟨x', e1, e2, us, rfl, h3, h4⟩
    · cases h1
    · subst h1; exact .inr (.inr ⟨x, es, es', ts, rfl, rfl, h⟩)
    · simp only [AV.fro.injEq] at h3
      obtain ⟨_, rfl, rfl⟩ := h3
      refine .inr (.inr ⟨x', e1, es', ts, rfl, rfl, ?_⟩)
      rcases h with rfl | h
      · exact h4
      · exact .inr h
theorem Weak.trans {σ τ υ : St} (h1 : Weak σ τ) (h2 : Weak τ υ) : Weak σ υ :=
  ⟨fun i => leA_trans (h1.1 i) (h2.1 i), fun i => by
    rcases h2.2.1 i with h | h
    · exact .inl h
    · rw [h]; exact h1.2.1 i, Nat.le_trans h1.2.2 h2.2.2⟩

theorem weakE_less {m k : Nat} {σ τ : St} (hm : m ≤ k) (h : WeakE k σ τ) : WeakE m σ τ := fun fr G0 w0 nt a w hl hs => h fr G0 w0 nt a w (fun i l hi => Nat.lt_of_lt_of_le (hl i l hi) hm) hs
theorem weakE_trans {m : Nat} {σ τ υ : St} (h1 : Weak σ τ) (h2 : WeakE m τ υ) : WeakE m σ υ := (WeakE.of h1).trans h2

inductive Frm where
  | seq (b : AC)
  | blk (id : Nat)
  | lp (c : AC) (A : XSt → Prop)

def usesF : List Frm → List Nat
  | [] => []
  | .seq b :: s => usesC b ++ usesF s
  | .blk _ :: s => usesF s
  | .lp c _ :: s => usesC c ++ usesF s

/-- What is asked behind code that stands in other code. -/
def unwind (C : Orc) : List Frm → (AE → St → Prop) → AE → St → Prop
  | [], Φ => Φ
  | .seq b :: s, Φ => AE.then (fun σ => wpC C b σ (unwind C s Φ)) (unwind C s Φ)
  | .blk id :: s, Φ => AE.inBlock id (unwind C s Φ)
  | .lp _ A :: s, Φ => AE.then (fun t => ∃ σ : XSt, Weak t σ.st ∧ A σ) (unwind C s Φ)

/-- A loop, and what stands behind it. -/
structure LoopAt (C : Orc) (c : AC) (σ : XSt) (s : List Frm) (Φ : AE → St → Prop) : Prop where
  out : wpC C (.loop c) σ.st (unwind C s Φ)

inductive Job where
  | run (c : AC)
  | back (e : AE)

section
variable (T : Tab) (C : Orc) (ci : Nat → List XV → XSt → (XV → XSt → Prop) → Prop) (kp : List Nat) (fin : AE → XSt → Prop) (Φ : AE → St → Prop)
/-- Code, with what stands behind it; loops are left. -/
def exS : Nat → Job → List Frm → XSt → Prop
  | 0, _, _, _ => False
  | n + 1, .run c, s, σ =>
    match c with
    | .skip => exS n (.back .normal) s σ
    | .ops l => exO T ci (grp l) σ fun σ' => exS n (.back .normal) s σ'
    | .opsD l ps => exO T ci (grp l) σ fun σ' => need (sepXs σ' ps) (exS n (.back .normal) s σ')
    | .seq a b => exS n (.run a) (.seq b :: s) σ
    | .cond c x y =>
      match strip (σ.ev c) with
      | .bool b => need (isThere (σ.ev c)) (cond b (exS n (.run x) s σ) (exS n (.run y) s σ))
      | _ => False
    | .block id c => exS n (.run c) (.blk id :: s) σ
    | .loop c => LoopAt C c (σ.prune (usesC c ++ (usesF s ++ kp))) s Φ
    | .exit id => exS n (.back (.exit id)) s σ
    | .ret => exS n (.back .ret) s σ
    | .frz => need σ.fz.1 (exS n (.back .normal) s σ.fz.2)
  | n + 1, .back e, s, σ =>
    match s with
    | [] => fin e σ
    | .seq b :: s =>
      match e with
      | .normal => exS n (.run b) s σ
      | e => exS n (.back e) s σ
    | .blk id :: s =>
      match e with
      | .exit i => cond (Nat.beq i id) (exS n (.back .normal) s σ) (exS n (.back (.exit i)) s σ)
      | e => exS n (.back e) s σ
    | .lp c A :: s =>
      match e with
      | .normal => A (σ.prune (usesC c ++ (usesF s ++ kp)))
      | e => exS n (.back e) s σ
end

section
variable {P : Program} {T : Tab} {ci : Nat → List XV → XSt → (XV → XSt → Prop) → Prop} {kp : List Nat} {fin : AE → XSt → Prop} {Φ : AE → St → Prop}
def jobWp (C : Orc) (j : Job) (σ : XSt) (Ψ : AE → St → Prop) : Prop :=
  match j with
  | .run c => wpC C c σ.st Ψ
  | .back e => Ψ e σ.st

theorem wpC_loop_weak {C : Orc} {c : AC} {σ τ : St} {Ψ : AE → St → Prop} (hw : Weak σ τ) (h : wpC C (.loop c) τ Ψ) : wpC C (.loop c) σ Ψ := by
  unfold wpC at h ⊢
  obtain ⟨Inv, μ, ⟨υ, h1, h2⟩, h3⟩ := h
  refine ⟨Inv, μ, ⟨υ, weakE_trans hw (weakE_less hw.2.2 h1), h2⟩, fun τ' hτ => wpC_mono _ _ (fun e t he => ?_) c τ' (h3 τ' hτ)⟩
  cases e with
  | normal =>
    obtain ⟨t', g1, g2, g3⟩ := he
    exact ⟨t', weakE_less hw.2.2 g1, g2, g3⟩
  | exit _ => exact he
  | ret => exact he

theorem exS_ok (hT : TabOk P T) (hci : CiOk P T.q ci) (hfin : ∀ e σ, fin e σ → Φ e σ.st) : ∀ (n : Nat) (j : Job) (s : List Frm) (σ : XSt), exS T (Ok P T.q) ci kp fin Φ n j s σ → jobWp (Ok P T.q) j σ (unwind (Ok P T.q) s Φ)
  | 0, _, _, _, h => h.elim
  | n + 1, .run c, s, σ, h => by
    have ih := exS_ok hT hci hfin n
    simp only [jobWp]
    cases c with
    | skip => exact ih (.back .normal) s σ h
    | ops l =>
      simp only [exS] at h
      obtain ⟨h1, h2⟩ := grp_ung l
      obtain ⟨σ', h3, h4⟩ := exO_ok hT hci (grp l) σ _ h h2
      rw [h1] at h4
      exact h4 _ (ih (.back .normal) s σ' h3)
    | opsD l ps =>
      simp only [exS] at h
      obtain ⟨h1, h2⟩ := grp_ung l
      obtain ⟨σ', h3, h4⟩ := exO_ok hT hci (grp l) σ _ h h2
      rw [h1] at h4
      rw [need_iff] at h3
      exact h4 _ ⟨sepXs_ok h3.1, ih (.back .normal) s σ' h3.2⟩
    | seq a b => exact ih (.run a) (.seq b :: s) σ h
    | cond c x y =>
      simp only [exS] at h
      split at h
      · rename_i b hb
        rw [need_iff] at h
        have hc : σ.st.ev c = .sc (.bool b) := by rw [st_ev, strip_con h.1, hb]; rfl
        unfold wpC
        rw [hc]
        cases b with
        | true => exact ⟨fun _ => ih (.run x) s σ h.2, fun e => by cases e⟩
        | false => exact ⟨fun e => (by cases e), fun _ => ih (.run y) s σ h.2⟩
      · cases h
    | block id c => exact ih (.run c) (.blk id :: s) σ h
    | loop c => exact wpC_loop_weak (prune_weak _ σ) h.out
    | exit id => exact ih (.back (.exit id)) s σ h
    | ret => exact ih (.back .ret) s σ h
    | frz =>
      simp only [exS] at h
      rw [need_iff] at h
      exact ⟨_, fz_ok h.1, ih (.back .normal) s _ h.2⟩
  | n + 1, .back e, s, σ, h => by
    have ih := exS_ok hT hci hfin n
    simp only [jobWp]
    cases s with
    | nil => exact hfin e σ h
    | cons f s =>
      cases f with
      | seq b =>
        cases e with
        | normal => exact ih (.run b) s σ h
        | exit i => exact ih (.back (.exit i)) s σ h
        | ret => exact ih (.back .ret) s σ h
      | blk id =>
        cases e with
        | normal => exact ih (.back .normal) s σ h
        | ret => exact ih (.back .ret) s σ h
        | exit i =>
          simp only [exS] at h
          simp only [unwind, AE.inBlock]
          cases hi : Nat.beq i id <;> rw [hi] at h
          · rw [if_neg (Nat.ne_of_beq_eq_false hi)]
            exact ih (.back (.exit i)) s σ h
          · rw [if_pos (Nat.eq_of_beq_eq_true hi)]
            exact ih (.back .normal) s σ h
      | lp c A =>
        cases e with
        | normal => exact ⟨_, prune_weak _ σ, h⟩
        | exit i => exact ih (.back (.exit i)) s σ h
        | ret => exact ih (.back .ret) s σ h

def keepR : List AR → List Nat
  | [] => []
  | .tmp t :: r => t :: keepR r
  | .cell t _ _ :: r => t :: keepR r

theorem cnd2 {b : Bool} {p q : Prop} (h1 : b = true → p) (h2 : b = false → q) : cond b p q := by
  cases b
  · exact h2 rfl
  · exact h1 rfl
theorem pk_and (b : Bool) : (bif b then b else true) = true := by cases b <;> rfl
theorem pk_or (b : Bool) : (bif b then true else !b) = true := by cases b <;> rfl
theorem allN_true (n : Nat) : allN (fun _ => true) n = true := allN_iff.2 fun _ _ => rfl

/-- The state says no more than is so. -/
def agreeX : List (Nat × XV) → List (Nat × XV) → Prop
  | [], _ => True
  | (k, v) :: r, e => con (getX e k) = con v ∧ agreeX r e
def agreeXH : List (Nat × Option XV) → List (Nat × Option XV) → Prop
  | [], _ => True
  | (k, v) :: r, e => (lookX e k).map con = v.map con ∧ agreeXH r e
theorem agreeX_ok : ∀ {l e : List (Nat × XV)}, agreeX l e → agrees (conE l) (conE e)
  | [], e, h => trivial
  | (k, v) :: r, e, h => ⟨by rw [get_conE]; exact .inr (.inl h.1.symm), agreeX_ok h.2⟩
theorem agreeXH_ok : ∀ {l e : List (Nat × Option XV)}, agreeXH l e → agreesH (conH l) (conH e) (fun _ => none)
  | [], e, h => trivial
  | (k, v) :: r, e, h => ⟨by rw [look_conH]; exact h.1, agreeXH_ok h.2⟩
/-- The same, where less may be said of rows. -/
def agreeN : List (Nat × XV) → List (Nat × XV) → Prop
  | [], _ => True
  | (k, v) :: r, e => leA (con (getX e k)) (con v) ∧ agreeN r e
theorem agreeN_ok : ∀ {l e : List (Nat × XV)}, agreeN l e → agrees (conE l) (conE e)
  | [], e, h => trivial
  | (k, v) :: r, e, h => ⟨by rw [get_conE]; exact h.1, agreeN_ok h.2⟩
theorem le_is {a b : AV} (h : a = b) : leA a b := .inr (.inl h.symm)
theorem weakX {σ τ : XSt} (h1 : agreeX τ.env σ.env) (h2 : agreeXH τ.hl σ.hl) (h3 : σ.n ≤ τ.n) : Weak σ.st τ.st := weak_of (agreeX_ok h1) (agreeXH_ok h2) h3
mutual
def XV.low (n : Nat) : XV → Bool
  | .agg _ ts => XV.lows n ts
  | .clo _ cs => XV.lows n cs
  | .tup ts => XV.lows n ts
  | .sl id _ _ _ _ _ => Nat.blt id n
  | .ptr id _ _ => Nat.blt id n
  | .opt _ v => v.low n
  | .raw v => v.lowA n
  | _ => true
def XV.lows (n : Nat) : List XV → Bool
  | [] => true
  | t :: ts => bif t.low n then XV.lows n ts else false
end
mutual
theorem con_low {n : Nat} : ∀ t : XV, t.low n = true → (con t).lowA n = true
  | .opt g v, h => by
    cases g
    · rfl
    · exact con_low v h
  | .tri z b, h => by cases z <;> rfl
  | .int .., h => rfl
  | .bool _, h => rfl
  | .str .., h => rfl
  | .agg m ts, h => by simp only [con, AV.lowA]; exact cons_low ts h
  | .tab .., h => rfl
  | .row .., h => rfl
  | .fptr _, h => rfl
  | .sl .., h => h
  | .ptr .., h => h
  | .clo f cs, h => by simp only [con, AV.lowA]; exact cons_low cs h
  | .tup ts, h => by simp only [con, AV.lowA]; exact cons_low ts h
  | .anyb, h => rfl
  | .unk, h => rfl
  | .raw _, h => h
theorem cons_low {n : Nat} : ∀ ts : List XV, XV.lows n ts = true → AV.lowAs n (cons ts) = true
  | [], h => rfl
  | t :: ts, h => by
    simp only [XV.lows] at h
    cases ht : t.low n <;> rw [ht] at h
    · cases h
    · simp only [cons, AV.lowAs, con_low t ht, cons_low ts h, Bool.and_self]
end
def lowE (n : Nat) : List (Nat × XV) → Bool
  | [] => true
  | (_, v) :: r => bif v.low n then lowE n r else false
def lowH (n : Nat) : List (Nat × Option XV) → Bool
  | [] => true
  | (k, v) :: r => bif Nat.blt k n then (bif (match v with | some t => t.low n | none => true) then lowH n r else false) else false
/-- Nothing with a name from n on is spoken of. -/
def XSt.low (σ : XSt) : Bool := bif lowE σ.n σ.env then lowH σ.n σ.hl else false
theorem lowE_get {n i : Nat} : ∀ {l : List (Nat × XV)}, lowE n l = true → (get (conE l) i).lowA n = true
  | [], h => rfl
  | (k, v) :: r, h => by
    simp only [lowE] at h
    cases hv : v.low n <;> rw [hv] at h
    · cases h
    · show (if i = k then con v else get (conE r) i).lowA n = true
      split
      · exact con_low v hv
      · exact lowE_get h
theorem lowH_get {n i : Nat} : ∀ {l : List (Nat × Option XV)}, lowH n l = true → (n ≤ i → look (conH l) (fun _ => none) i = none) ∧ ∀ t, look (conH l) (fun _ => none) i = some t → t.lowA n = true
  | [], h => ⟨fun _ => rfl, fun t ht => by cases ht⟩
  | (k, v) :: r, h => by
    simp only [lowH] at h
    cases hk : Nat.blt k n <;> rw [hk] at h
    · cases h
    · rw [cond_true] at h
      have hkn : k < n := Nat.le_of_ble_eq_true hk
      have hr : lowH n r = true := by
        cases v with
        | none => exact h
        | some u =>
          simp only at h
          cases hu : u.low n <;> rw [hu] at h
          · cases h
          · exact h
      obtain ⟨i1, i2⟩ := lowH_get (i := i) (l := r) hr
      show (n ≤ i → (if i = k then v.map con else look (conH r) _ i) = none) ∧ ∀ t, (if i = k then v.map con else look (conH r) _ i) = some t → t.lowA n = true
      by_cases hik : i = k
      · subst hik
        refine ⟨fun hn => by omega, fun t ht => ?_⟩
        rw [if_pos rfl] at ht
        cases v with
        | none => cases ht
        | some u =>
          simp only [Option.map_some, Option.some.injEq] at ht
          subst ht
          simp only at h
          cases hu : u.low n <;> rw [hu] at h
          · cases h
          · exact con_low u hu
      · rw [if_neg hik]
        exact ⟨i1, i2⟩
theorem low_of {m : Nat} {σ τ : XSt} (h1 : m ≤ τ.n) (h2 : τ.low = true) : LowN m σ.st τ.st := by
  unfold XSt.low at h2
  cases he : lowE τ.n τ.env <;> rw [he] at h2
  · cases h2
  · rw [cond_true] at h2
    exact .inr ⟨h1, fun i => lowE_get he, fun i hi => (lowH_get h2).1 hi, fun i t ht => (lowH_get h2).2 t ht⟩
/-- The same for rounds that begin with the same names anew. -/
theorem weakT {m : Nat} {σ τ : XSt} (h1 : agreeN τ.env σ.env) (h2 : agreeXH τ.hl σ.hl) (h3 : m ≤ τ.n) (h4 : τ.low = true) : WeakL m σ.st τ.st :=
  ⟨agrees_get (agreeN_ok h1), agreesH_look (agreeXH_ok h2), low_of h3 h4⟩

def kap (l : List (Nat × Nat)) (j : Nat) : Option Nat :=
  match l with
  | [] => none
  | (k, i) :: r => bif Nat.beq j k then some i else kap r j
def kapLow (n : Nat) : List (Nat × Nat) → Bool
  | [] => true
  | (k, _) :: r => bif Nat.blt k n then kapLow n r else false
def kapNo (i : Nat) : List (Nat × Nat) → Bool
  | [] => true
  | (_, a) :: r => bif Nat.beq i a then false else kapNo i r
/-- Each name stands for another one. -/
def kapInj : List (Nat × Nat) → Bool
  | [] => true
  | (_, i) :: r => bif kapNo i r then kapInj r else false
def keysLow (n : Nat) : List (Nat × Option XV) → Bool
  | [] => true
  | (k, _) :: r => bif Nat.blt k n then keysLow n r else false
/-- The names ahead of the loop stay. -/
def kapId (l : List (Nat × Nat)) (m : Nat) : Bool := allN (fun j => match kap l j with | some i => Nat.beq i j | none => false) m
theorem kap_high {n j : Nat} : ∀ {l : List (Nat × Nat)}, kapLow n l = true → n ≤ j → kap l j = none
  | [], _, _ => rfl
  | (k, i) :: r, h, hj => by
    simp only [kapLow] at h
    cases hk : Nat.blt k n <;> rw [hk] at h
    · cases h
    · have hkn : k < n := Nat.le_of_ble_eq_true hk
      have : ¬ j = k := by omega
      simp only [kap, beq_if, if_neg this]
      exact kap_high h hj
theorem kap_no {i : Nat} : ∀ {l : List (Nat × Nat)}, kapNo i l = true → ∀ j, kap l j ≠ some i
  | [], _, j, h => by cases h
  | (k, a) :: r, h, j, hj => by
    simp only [kapNo, beq_if] at h
    split at h
    · cases h
    · rename_i hia
      simp only [kap, beq_if] at hj
      split at hj
      · simp only [Option.some.injEq] at hj
        exact hia hj.symm
      · exact kap_no h j hj
theorem kap_inj : ∀ {l : List (Nat × Nat)}, kapInj l = true → ∀ i j j', kap l j = some i → kap l j' = some i → j = j'
  | [], _, i, j, j', h, _ => by cases h
  | (k, a) :: r, h, i, j, j', h1, h2 => by
    simp only [kapInj] at h
    cases hno : kapNo a r <;> rw [hno] at h
    · cases h
    · rw [cond_true] at h
      simp only [kap, beq_if] at h1 h2
      split at h1
      · rename_i hj
        simp only [Option.some.injEq] at h1
        subst h1
        split at h2
        · rename_i hj'
          rw [hj, hj']
        · exact absurd h2 (kap_no hno j')
      · split at h2
        · simp only [Option.some.injEq] at h2
          subst h2
          exact absurd h1 (kap_no hno j)
        · exact kap_inj h i j j' h1 h2
theorem keys_high {n j : Nat} : ∀ {l : List (Nat × Option XV)}, keysLow n l = true → n ≤ j → look (conH l) (fun _ => none) j = none
  | [], _, _ => rfl
  | (k, v) :: r, h, hj => by
    simp only [keysLow] at h
    cases hk : Nat.blt k n <;> rw [hk] at h
    · cases h
    · have hkn : k < n := Nat.le_of_ble_eq_true hk
      have : ¬ j = k := by omega
      show (if j = k then v.map con else look (conH r) _ j) = none
      rw [if_neg this]
      exact keys_high h hj
def agreeK (κ : Nat → Option Nat) : List (Nat × XV) → List (Nat × XV) → Prop
  | [], _ => True
  | (k, v) :: r, e => leK κ (con (getX e k)) (con v) ∧ agreeK κ r e
def agreeKH (κ : Nat → Option Nat) : List (Nat × Option XV) → List (Nat × Option XV) → Prop
  | [], _ => True
  | (j, some t') :: r, e => (match κ j with
      | some i => (match lookX e i with | some t => leK κ (con t) (con t') | none => False)
      | none => ∃ es, con t' = .arr 0 es []) ∧ agreeKH κ r e
  | (_, none) :: r, e => agreeKH κ r e
theorem agreeK_get {κ : Nat → Option Nat} {i : Nat} : ∀ {l e : List (Nat × XV)}, agreeK κ l e → get (conE l) i = .unk ∨ leK κ (get (conE e) i) (get (conE l) i)
  | [], e, h => .inl rfl
  | (k, v) :: r, e, h => by
    show (if i = k then con v else get (conE r) i) = .unk ∨ leK κ _ (if i = k then con v else get (conE r) i)
    by_cases hi : i = k
    · subst hi
      rw [if_pos rfl, get_conE]
      exact .inr h.1
    · rw [if_neg hi]
      exact agreeK_get h.2
theorem agreeKH_get {κ : Nat → Option Nat} {j : Nat} {t' : AV} : ∀ {l e : List (Nat × Option XV)}, agreeKH κ l e → look (conH l) (fun _ => none) j = some t' → (∃ i t, κ j = some i ∧ look (conH e) (fun _ => none) i = some t ∧ leK κ t t') ∨ (κ j = none ∧ ∃ es, t' = .arr 0 es [])
  | [], e, h, hj => by cases hj
  | (k, v) :: r, e, h, hj => by
    have hj' : (if j = k then v.map con else look (conH r) (fun _ => none) j) = some t' := hj
    by_cases hk : j = k
    · subst hk
      rw [if_pos rfl] at hj'
      cases v with
      | none => cases hj'
      | some t =>
        simp only [Option.map_some, Option.some.injEq] at hj'
        subst hj'
        have h1 := h.1
        cases hκ : κ j with
        | none =>
          rw [hκ] at h1
          exact .inr ⟨rfl, h1⟩
        | some i =>
          rw [hκ] at h1
          simp only at h1
          cases hl : lookX e i with
          | none => rw [hl] at h1; cases h1
          | some u =>
            rw [hl] at h1
            exact .inl ⟨i, con u, rfl, by rw [look_conH, hl]; rfl, h1⟩
    · rw [if_neg hk] at hj'
      cases v with
      | none => exact agreeKH_get (l := r) h hj'
      | some t => exact agreeKH_get (l := r) h.2 hj'
/-- The state says no more than is so, under other names. -/
theorem weakK {m : Nat} {σ τ : XSt} (kl : List (Nat × Nat)) (h1 : kapId kl m = true) (h2 : kapLow τ.n kl = true) (h3 : keysLow τ.n τ.hl = true) (h4 : Nat.ble m τ.n = true) (h5 : kapInj kl = true) (h6 : agreeK (kap kl) τ.env σ.env) (h7 : agreeKH (kap kl) τ.hl σ.hl) : WeakE m σ.st τ.st :=
  .ofK ⟨kap kl, (fun j hj => by
    have h8 := allN_spec h1 j hj
    cases hk : kap kl j with
    | none => rw [hk] at h8; cases h8
    | some i =>
      rw [hk] at h8
      rw [Nat.eq_of_beq_eq_true h8]), (fun j hj => ⟨keys_high h3 hj, kap_high h2 hj⟩), Nat.le_of_ble_eq_true h4, kap_inj h5, (fun t => agreeK_get h6), (fun j t' hj => agreeKH_get h7 hj)⟩
theorem k_is {κ : Nat → Option Nat} {a b : XV} (h : con a = con b) (hl : b.low 0 = true) : leK κ (con a) (con b) := by
  rw [h]; exact .same (con_low b hl)
theorem k_tab {κ : Nat → Option Nat} {es n : Nat} {f g : Nat → XV} (h : ∀ i, i < n → con (f i) = con (g i)) : leK κ (con (.tab n es f)) (con (.tab n es g)) := by
  refine k_is ?_ rfl
  simp only [con]
  rw [tabL_congr h]
theorem k_nil {κ : Nat → Option Nat} {e es j off k n : Nat} {path : List Nat} {f : Nat → XV} (hn : n = 0) : leK κ (con (.row true e n f)) (con (.sl j path off k 0 es)) := by
  subst hn
  exact .nil

end
end Go.Ra

/- Rows of structs: their fields, and when two are one. -/
namespace Go.Ra
set_option linter.unusedVariables false
set_option linter.unusedSimpArgs false

/-- Is it of these kinds? -/
inductive KD where
  | i (k : IntKind)
  | b
/-- The same but for what an empty row's elements would be. -/
def nilEq (a b : AV) : Prop := a = b ∨ ∃ x es es', a = .fro x es [] ∧ b = .fro x es' []
inductive nilEqs : List AV → List AV → Prop
  | nil : nilEqs [] []
  | cons {a b : AV} {l r : List AV} : nilEq a b → nilEqs l r → nilEqs (a :: l) (b :: r)
theorem nilEq.rel {w : World} {F : Nat → Prop} {ρ : Nat → Option Loc} {a b : AV} {v : Value} (h : nilEq a b) (hr : RelV w F ρ a v) : RelV w F ρ b v := by
  rcases h with rfl | ⟨x, es, es', rfl, rfl⟩
  · exact hr
  · obtain ⟨a, cap, rfl, _, hc, _⟩ := hr.fro_inv
    exact .one (.fro0 fun hx => hc hx) rfl
theorem nilEqs.rel {w : World} {F : Nat → Prop} {ρ : Nat → Option Loc} : ∀ {l r : List AV} {vs : List Value}, nilEqs l r → RelVs w F ρ l vs → RelVs w F ρ r vs
  | _, _, _, .nil, .nil => .nil
  | _, _, _, .cons h1 h2, .cons h3 h4 => .cons (h1.rel h3) (nilEqs.rel h2 h4)
theorem Pure.nilEqs {P : Program} {f : Nat} {l r : List AV} {v : AV} (hp : Pure P f r v) (h : nilEqs l r) : Pure P f l v :=
  ⟨hp.1, fun w F vs hF hr => hp.2 w F vs hF (h.rel hr)⟩

mutual
/-- The same but for what empty rows' elements would be, within structs too. -/
inductive nilQ : AV → AV → Prop
  | refl (a : AV) : nilQ a a
  | row {x : Bool} {es es' : Nat} : nilQ (.fro x es []) (.fro x es' [])
  | agg {n : Nat} {l r : List AV} : nilQs l r → nilQ (.agg n l) (.agg n r)
inductive nilQs : List AV → List AV → Prop
  | nil : nilQs [] []
  | cons {a b : AV} {l r : List AV} : nilQ a b → nilQs l r → nilQs (a :: l) (b :: r)
end
mutual
theorem nilQ.relC {w : World} {F : Nat → Prop} : ∀ {ρ : Nat → Option Loc} {a b : AV} {cs : List Value}, nilQ a b → RelC w F ρ a cs → RelC w F ρ b cs
  | _, _, _, _, .refl a, h => h
  | _, _, _, _, .row, h => by
    cases h with
    | fro0 h => exact .fro0 h
    | fro h1 h2 h3 h4 h5 => exact .fro0 h4
  | _, _, _, _, .agg hl, h => by
    cases h with
    | agg h hn => exact .agg (nilQs.relL hl h) hn
theorem nilQs.relL {w : World} {F : Nat → Prop} : ∀ {ρ : Nat → Option Loc} {l r : List AV} {cs : List Value}, nilQs l r → RelL w F ρ l cs → RelL w F ρ r cs
  | _, _, _, _, .nil, h => h
  | _, _, _, _, .cons h1 h2, .cons h3 h4 => .cons (nilQ.relC h1 h3) (nilQs.relL h2 h4)
end
theorem nilQ.isAgg {a b : AV} (h : nilQ a b) : b.isAgg = a.isAgg := by cases h <;> rfl
theorem nilQ.rel {w : World} {F : Nat → Prop} {ρ : Nat → Option Loc} {a b : AV} {v : Value} (h : nilQ a b) (hr : RelV w F ρ a v) : RelV w F ρ b v := by
  cases h with
  | refl => exact hr
  | row =>
    cases hr with
    | one h1 h2 => exact .one (nilQ.row.relC h1) rfl
    | agg h1 h2 => cases h2
  | agg hl =>
    cases hr with
    | one h1 h2 => cases h2
    | agg h1 h2 => exact .agg ((nilQ.agg hl).relC h1) rfl
theorem nilQs.rels {w : World} {F : Nat → Prop} {ρ : Nat → Option Loc} : ∀ {l r : List AV} {vs : List Value}, nilQs l r → RelVs w F ρ l vs → RelVs w F ρ r vs
  | _, _, _, .nil, .nil => .nil
  | _, _, _, .cons h1 h2, .cons h3 h4 => .cons (h1.rel h3) (nilQs.rels h2 h4)
theorem Pure.nilQ {P : Program} {f : Nat} {l r : List AV} {v : AV} (hp : Pure P f r v) (h : nilQs l r) : Pure P f l v :=
  ⟨hp.1, fun w F vs hF hr => hp.2 w F vs hF (h.rels hr)⟩
end Go.Ra

/- The first place of a row that has something; the last. -/
namespace Go.Ra
set_option linter.unusedVariables false
set_option linter.unusedSimpArgs false
theorem conB {a b : Bool} (h : a = b) : con (.bool a) = con (.bool b) := by rw [h]
theorem wU32 (n : Int) : IntKind.u32.wrap n = n % 4294967296 := rfl
theorem beq_ne {i k : Nat} (h : ¬ i = k) : Nat.beq i k = false := by
  rw [← Bool.not_eq_true]
  exact fun e => h (Nat.eq_of_beq_eq_true e)
end Go.Ra

/- What comes in, read by its type. -/
namespace Go.Ra
set_option linter.unusedVariables false
set_option linter.unusedSimpArgs false
def avI : AV → Int
  | .sc (.int _ n) => n
  | _ => 0


theorem has_u32 {a : AV} (h : (Ty.int .u32).has a) : 0 ≤ avI a ∧ avI a ≤ 4294967295 := by
  simp only [Ty.has] at h
  obtain ⟨n, rfl, h1⟩ := h
  simpa [Lit.wf, IntKind.min, IntKind.max, IntKind.signed, IntKind.bits, avI] using h1
theorem has_i64 {a : AV} (h : (Ty.int .i64).has a) : -9223372036854775808 ≤ avI a ∧ avI a ≤ 9223372036854775807 := by
  simp only [Ty.has] at h
  obtain ⟨n, rfl, h1⟩ := h
  simpa [Lit.wf, IntKind.min, IntKind.max, IntKind.signed, IntKind.bits, avI] using h1
theorem has_u8 {a : AV} (h : (Ty.int .u8).has a) : 0 ≤ avI a ∧ avI a ≤ 255 := by
  simp only [Ty.has] at h
  obtain ⟨n, rfl, h1⟩ := h
  simpa [Lit.wf, IntKind.min, IntKind.max, IntKind.signed, IntKind.bits, avI] using h1
end Go.Ra

/- Less said, functions that work on own memory, and loops of any end. -/
namespace Go.Ra
set_option linter.unusedVariables false
set_option linter.unusedSimpArgs false

mutual
/-- Of the second value the same is said, or less. -/
inductive leQ : AV → AV → Prop
  | refl (a : AV) : leQ a a
  | row {x : Bool} {es es' : Nat} {ts us : List AV} : (es' = es ∨ ts = []) → leQs ts us → leQ (.fro x es ts) (.fro false es' us)
  | agg {n : Nat} {l r : List AV} : leQs l r → leQ (.agg n l) (.agg n r)
  | arr {n es : Nat} {l r : List AV} : leQs l r → leQ (.arr n es l) (.arr n es r)
  | fptr {a b : AV} : leQ a b → leQ (.fptr a) (.fptr b)
  | tup {l r : List AV} : leQs l r → leQ (.tup l) (.tup r)
  | clo {f : Nat} {l r : List AV} : leQs l r → leQ (.clo f l) (.clo f r)
inductive leQs : List AV → List AV → Prop
  | nil : leQs [] []
  | cons {a b : AV} {l r : List AV} : leQ a b → leQs l r → leQs (a :: l) (b :: r)
end
theorem leQs_refl : ∀ l : List AV, leQs l l
  | [] => .nil
  | a :: l => .cons (.refl a) (leQs_refl l)
theorem leQs.len : ∀ {l r : List AV}, leQs l r → r.length = l.length
  | _, _, .nil => rfl
  | _, _, .cons _ h => by simp [leQs.len h]
theorem leQ.isAgg {a b : AV} (h : leQ a b) : b.isAgg = a.isAgg := by cases h <;> rfl
theorem leQs_nil {r : List AV} (h : leQs [] r) : r = [] := by cases h; rfl
theorem leQs_nil' {l : List AV} (h : leQs l []) : l = [] := by cases h; rfl

mutual
theorem leQ.relC {w : World} {F : Nat → Prop} : ∀ {ρ : Nat → Option Loc} {a b : AV} {cs : List Value}, leQ a b → RelC w F ρ a cs → RelC w F ρ b cs
  | _, _, _, _, .refl a, h => h
  | _, _, _, _, .row he hl, h => by
    cases h with
    | fro0 h => rw [leQs_nil hl]; exact .fro0 fun h => by cases h
    | fro h1 h2 h3 h4 h5 =>
      rename_i x es es' ts us cs b o cap
      have hn := leQs.len hl
      by_cases hus : us = []
      · subst hus
        have := leQs_nil' hl
        subst this
        exact .fro0 fun h => by cases h
      · have hts : ts ≠ [] := fun e => hus (by rw [e] at hl; exact leQs_nil hl)
        have he' : es' = es := he.resolve_right hts
        subst he'
        rw [← hn]
        exact .fro (leQs.relE hl h1) h2 h3 (fun h => by cases h) (by rw [hn]; exact h5)
  | _, _, _, _, .agg hl, h => by
    cases h with
    | agg h hn => exact .agg (leQs.relL hl h) hn
  | _, _, _, _, .arr hl, h => by
    cases h with
    | arr h hn => exact .arr (leQs.relE hl h) (by rw [leQs.len hl]; exact hn)
  | _, _, _, _, .fptr hl, h => by
    cases h with
    | fptr h1 h2 h3 => exact .fptr (leQ.relC hl h1) h2 h3
  | _, _, _, _, .tup hl, h => by cases h
  | _, _, _, _, .clo hl, h => by
    cases h with
    | clo h => exact .clo (leQs.relO hl h)
theorem leQs.relL {w : World} {F : Nat → Prop} : ∀ {ρ : Nat → Option Loc} {l r : List AV} {cs : List Value}, leQs l r → RelL w F ρ l cs → RelL w F ρ r cs
  | _, _, _, _, .nil, h => h
  | _, _, _, _, .cons h1 h2, .cons h3 h4 => .cons (leQ.relC h1 h3) (leQs.relL h2 h4)
theorem leQs.relE {w : World} {F : Nat → Prop} : ∀ {es : Nat} {l r : List AV} {cs : List Value}, leQs l r → RelE w F es l cs → RelE w F es r cs
  | _, _, _, _, .nil, .nil => .nil
  | _, _, _, _, .cons h1 h2, .cons h3 h4 h5 => .cons (leQ.relC h1 h3) h4 (leQs.relE h2 h5)
theorem leQs.relO {w : World} {F : Nat → Prop} : ∀ {ρ : Nat → Option Loc} {l r : List AV} {cs : List Value}, leQs l r → RelO w F ρ l cs → RelO w F ρ r cs
  | _, _, _, _, .nil, h => h
  | _, _, _, _, .cons h1 h2, .cons h3 h4 h5 => .cons (leQ.relC h1 h3) ((leQ.isAgg h1).trans h4) (leQs.relO h2 h5)
end
mutual
theorem leQ.rel {w : World} {F : Nat → Prop} {ρ : Nat → Option Loc} : ∀ {a b : AV} {v : Value}, leQ a b → RelV w F ρ a v → RelV w F ρ b v
  | _, _, _, h, .one h1 h2 => .one (h.relC h1) (h.isAgg.trans h2)
  | _, _, _, h, .agg h1 h2 => .agg (h.relC h1) (h.isAgg.trans h2)
  | _, _, _, .refl _, h => h
  | _, _, _, .tup hl, .tup h => .tup (leQs.rels hl h)
theorem leQs.rels {w : World} {F : Nat → Prop} {ρ : Nat → Option Loc} : ∀ {l r : List AV} {vs : List Value}, leQs l r → RelVs w F ρ l vs → RelVs w F ρ r vs
  | _, _, _, .nil, h => h
  | _, _, _, .cons h1 h2, .cons h3 h4 => .cons (leQ.rel h1 h3) (leQs.rels h2 h4)
end
theorem Pure.args {P : Program} {f : Nat} {l r : List AV} {v : AV} (hp : Pure P f r v) (h : leQs l r) : Pure P f l v :=
  ⟨hp.1, fun w F vs hF hr => hp.2 w F vs hF (h.rels hr)⟩
theorem Pure.out {P : Program} {f : Nat} {l : List AV} {v r : AV} (hp : Pure P f l v) (h : leQ v r) : Pure P f l r :=
  ⟨hp.1, fun w F vs hF hr => (hp.2 w F vs hF hr).mono fun e w' ⟨u, F', h1, h2, h3, h4, h5⟩ => ⟨u, F', h1, h2, h3, h4, h.rel h5⟩⟩

theorem lq_con {a b : XV} (h : con a = con b) : leQ (con a) (con b) := by rw [h]; exact .refl _
theorem lq_bool {a b : Bool} (h : a = b) : leQ (con (.bool a)) (con (.bool b)) := by rw [h]; exact .refl _
theorem lq_agg {n : Nat} {l r : List XV} (h : leQs (cons l) (cons r)) : leQ (con (.agg n l)) (con (.agg n r)) := .agg h
theorem lq_tup {l r : List XV} (h : leQs (cons l) (cons r)) : leQ (con (.tup l)) (con (.tup r)) := .tup h
theorem lqs_nil : leQs (cons []) (cons []) := .nil
theorem lqs_cons {a b : XV} {l r : List XV} (h : leQ (con a) (con b)) (h2 : leQs (cons l) (cons r)) : leQs (cons (a :: l)) (cons (b :: r)) := .cons h h2
theorem leQs_tab {n : Nat} {f g : Nat → AV} (h : ∀ i, i < n → leQ (f i) (g i)) : leQs (tabL n f) (tabL n g) := by
  have key : ∀ l : List Nat, (∀ i ∈ l, i < n) → leQs (l.map f) (l.map g) := by
    intro l
    induction l with
    | nil => intro _; exact .nil
    | cons i l ih => exact fun hl => .cons (h i (hl i (by simp))) (ih fun j hj => hl j (by simp [hj]))
  exact key _ fun i hi => List.mem_range.1 hi
theorem lq_row {x : Bool} {e es n m : Nat} {f g : Nat → XV} (hn : n = m) (he : es = e ∨ n = 0) (h : ∀ i, i < n → leQ (con (f i)) (con (g i))) : leQ (con (.row x e n f)) (con (.row false es m g)) := by
  subst hn
  exact .row (he.imp id fun h => tabL_nil.2 h) (leQs_tab h)
/-- What a call is told of its arguments. -/
structure ArgsLe (a b : List XV) : Prop where
  out : leQs (cons a) (cons b)
structure ResLe (a b : XV) : Prop where
  out : leQ (con a) (con b)
structure PreIs (p : Prop) : Prop where
  out : p
/-- What memory there is, and maybe more. -/
structure MemIs (σ τ : XSt) : Prop where
  mem : ∀ i, τ.st.H i = none ∨ τ.st.H i = σ.st.H i
  num : σ.n ≤ τ.n
theorem ArgsLe.rfl {a : List XV} : ArgsLe a a := ⟨leQs_refl _⟩
theorem ResLe.rfl {a : XV} : ResLe a a := ⟨.refl _⟩
/-- A function that leaves memory alone: for each of these, so much being so, it gives this. -/
def skOf {α β : Type} (en : α → List XV) (pre : α → Prop) (F : α → β) (er : β → XV) : List XV → Option ((XV → Prop) → Prop) := fun args => some fun K => ∃ s : α, ArgsLe args (en s) ∧ PreIs (pre s) ∧ ∀ y : β, y = F s → K (er y)
theorem skOf_ok {P : Program} {f : Nat} {α β : Type} {en : α → List XV} {pre : α → Prop} {F : α → β} {er : β → XV} (h : ∀ s, pre s → Pure P f (cons (en s)) (con (er (F s)))) : SkOk P (f, skOf en pre F er) := by
  intro args W hW K hK
  simp only [skOf, Option.some.injEq] at hW
  subst hW
  obtain ⟨s, h1, h2, h3⟩ := hK
  exact ⟨er (F s), (h s h2.out).args h1.out, h3 _ rfl⟩

section
variable {P : Program} {T : Tab}
/-- Code of a function up to its loops, for any end. -/
abbrev goX (P : Program) (T : Tab) (kp : List Nat) (fin : AE → XSt → Prop) (Φ : AE → St → Prop) (j : Job) (s : List Frm) (σ : XSt) : Prop := exS T (Ok P T.q) (callI T 80 20) kp fin Φ 2000 j s σ
theorem loopX (hmix : P.follows .mixedOrders = true) (hT : TabOk P T) {kp : List Nat} {fin : AE → XSt → Prop} {Φ : AE → St → Prop} (hfin : ∀ e σ, fin e σ → Φ e σ.st) {c : AC} {σ : XSt} {s : List Frm} {ι : Type} (S : ι → XSt) (V : ι → Prop) (m : ι → Nat) (i0 : ι) (hV : V i0) (h0 : WeakE σ.n σ.st (S i0).st)
    (hr : ∀ i, V i → goX P T kp fin Φ (.run c) (.lp c (fun τ => ∃ j, V j ∧ WeakE σ.n τ.st (S j).st ∧ m j < m i) :: s) (S i)) : LoopAt (Ok P T.q) c σ s Φ :=
  ⟨wpC_forE (fun i => (S i).st) V m i0 hV h0 fun i hi => by
    have h := exS_ok hT (callI_ok hmix hT 20) hfin 2000 _ _ _ (hr i hi)
    refine wpC_mono _ _ (fun e t he => ?_) c _ h
    cases e with
    | normal =>
      obtain ⟨τ, hw, j, h1, h2, h3⟩ := he
      exact ⟨j, h1, weakE_trans hw h2, h3⟩
    | exit _ => exact he
    | ret => exact he⟩

/-- The end of a function that leaves memory alone: what it gives says at least this. -/
def finQ (rs : List AR) (r : XV) : AE → XSt → Prop := retX rs (frzK fun v => ResLe v r)
def finQR (rs : List AR) (r : XV) : AE → St → Prop := retP rs fun v τ => ∃ r', frz τ 6 v = some r' ∧ leQ r' (con r)
theorem finQ_ok {rs : List AR} {r : XV} (e : AE) (σ : XSt) (h : finQ rs r e σ) : finQR rs r e σ.st := by
  obtain ⟨v, h3, h4⟩ := retX_ok h
  refine h4 (fun v τ => ∃ r', frz τ 6 v = some r' ∧ leQ r' (con r)) ?_
  unfold frzK at h3
  split at h3
  · rename_i nd r' hz
    rw [need_iff] at h3
    exact ⟨con r', frzX_con (st_H σ) 6 v nd r' hz h3.1, h3.2.out⟩
  · cases h3
theorem pure_ofQ {q : Nat → Bool} {C : Orc} (hmix : P.follows .mixedOrders = true) (hC : OrcOk P C) (hq : Quiet q C) {f nt : Nat} {rs : List AR} {ac : AC} (hF : trF P q f = some (nt, rs, ac)) {args : List AV} {r : AV} {k : Nat} (hlen : args.length ≤ nt)
    (h : wpC C ac ⟨envOf 0 args, [], fun _ => none, 0⟩ (retP rs fun v τ => ∃ r', frz τ k v = some r' ∧ leQ r' r)) : Pure P f args r := by
  refine ⟨trF_known hF, fun w F vs hFs hr => ?_⟩
  have hown : Own ⟨w, fun _ => False, F, 0⟩ ⟨noIds, F⟩ w ⟨envOf 0 args, [], fun _ => none, 0⟩ :=
    ⟨⟨fun i _ => ⟨rfl, rfl⟩, hFs, fun i t hi => (by cases hi), fun i j b o o' hi => absurd rfl hi⟩, ⟨rfl, rfl, rfl, Nat.le_refl _, fun _ _ _ => rfl, Ext.refl _ _, fun _ h => h, fun _ h => .inl h, fun i b o hi => absurd rfl hi⟩⟩
  refine (enter hmix hC hq hF hlen hown hr h).mono fun e w' ⟨u, G', v, τ, he, hgo, hrel, r', hk, hle⟩ => ?_
  refine ⟨u, FF G' τ, he, ⟨hgo.fr.os, hgo.fr.tape, hgo.fr.output, hgo.fr.size, fun b hb => hgo.fr.same b hb (fun h => h)⟩, fun b hb => .inl (hgo.leF b hb), fun b hb => ⟨?_, FF_lt hgo.own hb⟩, hle.rel (frzV hgo.own k v r' u hrel hk)⟩
  rcases hb with hb | ⟨i, o, h1, h2⟩
  · rcases hgo.fr.fnew b hb with h | h | h
    · exact .inl h
    · cases h
    · exact .inr h
  · rcases hgo.fr.loc i b o h1 h2 with h | h
    · cases h
    · exact .inr h
abbrev goQ (P : Program) (T : Tab) (rs : List AR) (r : XV) (j : Job) (s : List Frm) (σ : XSt) : Prop := goX P T (keepR rs) (finQ rs r) (finQR rs r) j s σ
/-- A function that leaves memory alone, gone through up to its loops. -/
theorem pureQ (hmix : P.follows .mixedOrders = true) (hT : TabOk P T) {f nt : Nat} {rs : List AR} {c : AC} (hF : trF P T.q f = some (nt, rs, c)) {args : List XV} {r : XV} (hl : args.length ≤ nt) (h : goQ P T rs r (.run c) [] ⟨envX 0 args, [], 0⟩) : Pure P f (cons args) (con r) := by
  have := exS_ok hT (callI_ok hmix hT 20) finQ_ok 2000 _ _ _ h
  refine pure_ofQ (k := 6) hmix Ok.ok Ok.quiet hF (by rw [cons_len]; exact hl) ?_
  simpa [jobWp, unwind, XSt.st, envX_con, conH, finQR] using this
/-- The same, all of it gone through. -/
theorem pureR (hmix : P.follows .mixedOrders = true) (hT : TabOk P T) {u k f : Nat} {args : List XV} {r : XV} (h : quietGo T u (callI T u k) f args fun v => ResLe v r) : Pure P f (cons args) (con r) := by
  obtain ⟨v, h1, h2⟩ := quietGo_ok hmix hT (callI_ok hmix hT k) h
  exact h1.out h2.out
theorem loopQ (hmix : P.follows .mixedOrders = true) (hT : TabOk P T) {rs : List AR} {r : XV} {c : AC} {σ : XSt} {s : List Frm} {ι : Type} (S : ι → XSt) (V : ι → Prop) (m : ι → Nat) (i0 : ι) (hV : V i0) (h0 : WeakE σ.n σ.st (S i0).st)
    (hr : ∀ i, V i → goQ P T rs r (.run c) (.lp c (fun τ => ∃ j, V j ∧ WeakE σ.n τ.st (S j).st ∧ m j < m i) :: s) (S i)) : LoopAt (Ok P T.q) c σ s (finQR rs r) := loopX hmix hT finQ_ok S V m i0 hV h0 hr

/-- What an end tells, under other names maybe. -/
structure EndAt (m : Nat) (v' : XV) (σ : XSt) (v : XV) (τ : XSt) : Prop where
  out : WeakE m (XSt.st ⟨[(0, v')], σ.hl, σ.n⟩) (XSt.st ⟨[(0, v)], τ.hl, τ.n⟩)
/-- The end of a function that gives a row of its own making. -/
structure MakesAt (v : XV) (σ : XSt) (r t : XV) : Prop where
  out : (∃ id, σ.st.H id = some (con t) ∧ renT id 0 (con v) = some (con r)) ∨ ∃ es' es, con v = .fro true es' [] ∧ con t = .arr 0 es [] ∧ con r = .sl 0 [] 0 0 0 es
def finM (rs : List AR) (r t : XV) : AE → XSt → Prop := retX rs fun v σ => MakesAt v σ r t
def finMR (rs : List AR) (r t : XV) : AE → St → Prop := retP rs fun v τ => (∃ id, τ.H id = some (con t) ∧ renT id 0 v = some (con r)) ∨ ∃ es' es, v = .fro true es' [] ∧ con t = .arr 0 es [] ∧ con r = .sl 0 [] 0 0 0 es
theorem finM_ok {rs : List AR} {r t : XV} (e : AE) (σ : XSt) (h : finM rs r t e σ) : finMR rs r t e σ.st := by
  obtain ⟨v', h3, h4⟩ := retX_ok h
  exact h4 (fun v τ => (∃ id, τ.H id = some (con t) ∧ renT id 0 v = some (con r)) ∨ ∃ es' es, v = .fro true es' [] ∧ con t = .arr 0 es [] ∧ con r = .sl 0 [] 0 0 0 es) h3.out
abbrev goM (P : Program) (T : Tab) (rs : List AR) (r t : XV) (j : Job) (s : List Frm) (σ : XSt) : Prop := goX P T (keepR rs) (finM rs r t) (finMR rs r t) j s σ
theorem makeG (hmix : P.follows .mixedOrders = true) (hT : TabOk P T) {f nt : Nat} {rs : List AR} {c : AC} (hF : trF P T.q f = some (nt, rs, c)) {args : List XV} {r t : XV} (hl : args.length ≤ nt) (hs : (con t).solid = true) (hi : (con t).idfree = true) (h : goM P T rs r t (.run c) [] ⟨envX 0 args, [], 0⟩) : Makes P f (cons args) (con r) (con t) := by
  have := exS_ok hT (callI_ok hmix hT 20) finM_ok 2000 _ _ _ h
  refine make_of hmix Ok.ok Ok.quiet hF (by rw [cons_len]; exact hl) hs hi ?_
  simpa [jobWp, unwind, XSt.st, envX_con, conH, finMR] using this
theorem loopM (hmix : P.follows .mixedOrders = true) (hT : TabOk P T) {rs : List AR} {r t : XV} {c : AC} {σ : XSt} {s : List Frm} {ι : Type} (S : ι → XSt) (V : ι → Prop) (m : ι → Nat) (i0 : ι) (hV : V i0) (h0 : WeakE σ.n σ.st (S i0).st)
    (hr : ∀ i, V i → goM P T rs r t (.run c) (.lp c (fun τ => ∃ j, V j ∧ WeakE σ.n τ.st (S j).st ∧ m j < m i) :: s) (S i)) : LoopAt (Ok P T.q) c σ s (finMR rs r t) := loopX hmix hT finM_ok S V m i0 hV h0 hr
end
theorem Makes.args {P : Program} {f : Nat} {l r : List AV} {v t : AV} (hp : Makes P f r v t) (h : leQs l r) : Makes P f l v t :=
  ⟨hp.1, hp.2.1, hp.2.2.1, fun w F vs hF hr => hp.2.2.2 w F vs hF (h.rels hr)⟩
/-- A function that gives a row of its own making. -/
def mkOf {α β : Type} (en : α → List XV) (pre : α → Prop) (F : α → β) (er : Nat → β → XV) (et : β → XV) : List XV → XSt → Option ((XV → XSt → Prop) → Prop) := fun args σ =>
  match mapX (frzX σ.hl 6) args with
  | some (nd, args') => some fun K => need nd (∃ s : α, ArgsLe args' (en s) ∧ PreIs (pre s) ∧ ∀ y : β, y = F s → K (er σ.n y) (σ.new (et y)))
  | none => none
theorem mkOf_ok {P : Program} {q : Nat → Bool} {f : Nat} {α β : Type} {en : α → List XV} {pre : α → Prop} {F : α → β} {er : Nat → β → XV} {et : β → XV} (hr : ∀ n y, renT 0 n (con (er 0 y)) = some (con (er n y)))
    (h : ∀ s, pre s → Makes P f (cons (en s)) (con (er 0 (F s))) (con (et (F s)))) : GkOk P q (f, mkOf en pre F er et) := by
  intro args σ W hW hqf K hK
  simp only [mkOf] at hW
  split at hW
  · rename_i nd args' hm
    simp only [Option.some.injEq] at hW
    subst hW
    rw [need_iff] at hK
    obtain ⟨hn, s, h1, h2, h3⟩ := hK
    exact ⟨er σ.n (F s), σ.new (et (F s)), .inr (.inr (.inr ⟨hqf, 6, cons args', _, _, mapX_con (frzX_con (st_H σ) 6) hm hn, (h s h2.out).args h1.out, hr _ _, rfl⟩)), h3 _ rfl⟩
  · cases hW
end Go.Ra

