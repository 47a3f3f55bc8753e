/- One step of abstract code, and what it means. -/
import Derived.Test.YtfobbfdbojednaaRaI
import Derived.Test.YtfobbfdbojednaaRaS
import Derived.Tactics
namespace Go.Ra
set_option linter.unusedVariables false
set_option linter.unusedSimpArgs false

/-- May an operation come up (true), or is it passed by (false)? -/
def Pass (σ : St) (g : Option (Nat × Bool)) (y : Bool) : Prop :=
  match g with
  | none => y = true
  | some (t, b) =>
    match get σ.env t with
    | .sc (.bool b') => y = decide (b' = b)
    | .tup [] => y = false
    | _ => False

inductive Stp (C : Orc) (σ : St) : AG → AV → St → Prop
  | op {d : Option Nat} {o : AOp} {g : Option (Nat × Bool)} {v : AV} {τ : St} : Pass σ g true → stepE o σ = some (v, τ) → Stp C σ ⟨d, o, g⟩ v τ
  | call {d : Option Nat} {f : Nat} {args : List AX} {g : Option (Nat × Bool)} {v : AV} {τ : St} : Pass σ g true → C f (args.map σ.ev) σ v τ → Stp C σ ⟨d, .call f args, g⟩ v (σ.back τ)
  | callv {d : Option Nat} {x : AX} {f : Nat} {caps : List AV} {args : List AX} {g : Option (Nat × Bool)} {v : AV} {τ : St} : Pass σ g true → σ.ev x = .clo f caps → C f (args.map σ.ev ++ caps) σ v τ → τ.hl = σ.hl ∧ τ.hb = σ.hb ∧ τ.n = σ.n →
      Stp C σ ⟨d, .callv x args, g⟩ v (σ.back τ)
  | skip {d : Option Nat} {o : AOp} {g : Option (Nat × Bool)} : Pass σ g false → Stp C σ ⟨d, o, g⟩ (.tup []) σ

section
variable {C : Orc} {σ : St}
theorem wpOps_run {d : Option Nat} {o : AOp} {g : Option (Nat × Bool)} {r : List AG} {K : St → Prop} (hp : Pass σ g true) (h : wpOps C (⟨d, o, none⟩ :: r) σ K) : ∃ v τ, Stp C σ ⟨d, o, g⟩ v τ ∧ wpOps C r (τ.put d v) K := by
  unfold wpOps at h
  simp only at h
  split at h
  · obtain ⟨v, τ, h1, h2⟩ := h
    exact ⟨v, _, .call hp h1, h2⟩
  · split at h
    · rename_i hx
      obtain ⟨v, τ, h1, h3, h2⟩ := h
      exact ⟨v, _, .callv hp hx h1 h3, h2⟩
    · cases h
  · split at h
    · rename_i hs
      exact ⟨_, _, .op hp hs, h⟩
    · cases h

theorem wpOps_step {ag : AG} {r : List AG} {K : St → Prop} (h : wpOps C (ag :: r) σ K) : ∃ v τ, Stp C σ ag v τ ∧ wpOps C r (τ.put ag.d v) K := by
  obtain ⟨d, o, g⟩ := ag
  cases g with
  | none => exact wpOps_run (by simp [Pass]) h
  | some g =>
    obtain ⟨t, b⟩ := g
    rw [wpOps_guard] at h
    unfold wpGd wpG at h
    split at h
    · rename_i b' hb
      by_cases hbb : b' = b
      · exact wpOps_run (by simp [Pass, hb, hbb]) (h.1 hbb)
      · exact ⟨_, σ, .skip (by simp [Pass, hb, hbb]), h.2 hbb⟩
    · rename_i hb
      exact ⟨_, σ, .skip (by simp [Pass, hb]), h⟩
    · cases h
end

theorem look_hset : ∀ (hl : List (Nat × Option AV)) (hb : Nat → Option AV) (i : Nat) (t : Option AV), look (hset hl i t) hb = upd (look hl hb) i t
  | [], hb, i, t => by
    funext j
    simp only [hset, look, upd]
  | (k, v) :: hl, hb, i, t => by
    have ih := look_hset hl hb i t
    funext j
    simp only [hset]
    split
    · rename_i hik
      subst hik
      simp only [look, upd]
      split <;> rfl
    · rename_i hik
      simp only [look, upd, ih]
      by_cases hjk : j = k
      · subst hjk
        rw [if_pos rfl, if_neg (fun h => hik h.symm), if_pos rfl]
      · rw [if_neg hjk, if_neg hjk]

theorem Chg.st_H (c : Chg) (σ : St) : (c.st σ).H = c.H σ.n σ.H := by
  cases c with
  | same => rfl
  | new t => funext j; simp [Chg.st, Chg.H, St.new, St.H, look, upd]
  | put k t =>
    simp only [Chg.st, Chg.H, St.hput, St.H, look_hset]
    funext j
    by_cases hj : j = k
    · subst hj; rw [upd_self, upd_self]
    · rw [upd_ne _ _ hj, upd_ne _ _ hj, upd_ne _ _ hj]
  | move k t =>
    simp only [Chg.st, Chg.H, St.hput, St.H, St.new]
    funext j
    simp only [look, upd, look_hset]

theorem Chg.st_env (c : Chg) (σ : St) : (c.st σ).env = σ.env := by cases c <;> rfl
theorem Chg.st_n (c : Chg) (σ : St) : (c.st σ).n = if c.isNew = true then σ.n + 1 else σ.n := by cases c <;> rfl

/-- Memory as an abstract state tells it. -/
def Own (fr : Fr) (G : Gh) (w : World) (σ : St) : Prop := Wf G w σ.H (fun i => σ.n ≤ i) ∧ FrOk fr G w σ.H

/-- From one world to a later one, as two abstract states tell it. -/
def Goto (fr : Fr) (G : Gh) (w : World) (G' : Gh) (w' : World) (τ : St) : Prop := Nxt fr G w G' w' τ.H (fun i => τ.n ≤ i)

theorem Goto.own {fr : Fr} {G G' : Gh} {w w' : World} {τ : St} (h : Goto fr G w G' w' τ) : Own fr G' w' τ := ⟨h.wf, h.fr⟩
theorem Goto.mono {fr : Fr} {G G' : Gh} {w w' : World} {τ : St} (h : Goto fr G w G' w' τ) {t : AV} {v : Value} (hr : RelV w G.F G.ρ t v) : RelV w' G'.F G'.ρ t v := hr.mono h.ext h.leF h.leR
theorem Own.goto {fr : Fr} {G : Gh} {w : World} {σ : St} (h : Own fr G w σ) : Goto fr G w G w σ := Nxt.same h.1 h.2 (SameHeap.refl w)

/-- A function with a body. -/
def Known (P : Program) (f : Nat) : Prop := ∃ fn, P.funcs[f]? = some fn ∧ (fn.name == "runtime.NumGoroutine") = false ∧ fn.body.isNone = false

/-- What is known of calls is so. -/
def OrcOk (P : Program) (C : Orc) : Prop :=
  ∀ f args σ v τ, C f args σ v τ → Known P f ∧ ∀ fr G w vs, Own fr G w σ → RelVs w G.F G.ρ args vs →
    Calls P f vs.toArray w fun e w' => ∃ u G', e = .returned u ∧ Goto fr G w G' w' τ ∧ RelV w' G'.F G'.ρ v u

section
variable {P : Program}
theorem trV_rel {w : World} {F : Nat → Prop} {ρ : Nat → Option Loc} {v : Value} {t : AV} (h : trV v = some t) : RelV w F ρ t v := by
  unfold trV at h
  split at h
  · simp only [Option.some.injEq] at h; subst h; exact .one (.sc rfl) rfl
  · simp only [Option.some.injEq] at h; subst h; exact .one (.sc rfl) rfl
  · simp only [Option.some.injEq] at h; subst h; exact .one (.sc rfl) rfl
  · simp only [Option.some.injEq] at h; subst h; exact .one (.fro0 (fun _ => rfl)) rfl
  · simp only [Option.some.injEq] at h; subst h; exact .one (.sc rfl) rfl
  · cases h

theorem trX_rel {w : World} {G : Gh} {σ : St} {a : Act} {x : Operand} {x' : AX} (h : trX x = some x') (ht : ∀ t, x = .tmp t → RelV w G.F G.ρ (get σ.env t) (a.tmps.getD t undef)) : RelV w G.F G.ρ (σ.ev x') (a.eval x) := by
  unfold trX at h
  split at h
  · simp only [Option.some.injEq] at h; subst h
    exact ht _ rfl
  · split at h
    · rename_i hv
      simp only [Option.some.injEq] at h; subst h
      exact trV_rel hv
    · cases h
  · simp only [Option.some.injEq] at h; subst h
    exact .one (.clo .nil) rfl
  · cases h

theorem opRel_of {w : World} {G : Gh} {σ : St} {a : Act} {o : Op} (h : ∀ t, Operand.tmp t ∈ o.operands → RelV w G.F G.ρ (get σ.env t) (a.tmps.getD t undef)) : OpRel σ G w a o :=
  fun x x' hx hx' => trX_rel hx' fun t ht => h t (ht ▸ hx)

theorem mem_looks {ops : Array Oper} {o : Oper} {t : Nat} (h : Operand.tmp t ∈ o.op.operands) : t ∈ o.looksAt ops := by
  unfold Oper.looksAt
  refine List.mem_append_left _ (List.mem_filterMap.2 ⟨.tmp t, ?_, rfl⟩)
  simpa using h

theorem pass_wanted {w : World} {G : Gh} {σ : St} {a : Act} {ops : Array Oper} {o : Oper} {g : Option (Nat × Bool)} {y : Bool} (hg : trG ops o.guard = some g) (hp : Pass σ g y)
    (hr : ∀ t ∈ o.looksAt ops, RelV w G.F G.ρ (get σ.env t) (a.tmps.getD t undef)) : Region.wanted o (yielded ops a.tmps) = y := by
  unfold trG at hg
  unfold Region.wanted
  split at hg
  · rename_i h0
    simp only [Option.some.injEq] at hg
    subst hg
    rw [h0]
    simp only [Pass] at hp
    rw [hp]
  · rename_i j b h0
    split at hg
    · rename_i t ht
      simp only [Option.some.injEq] at hg
      subst hg
      rw [h0]
      have h1 := hr t (by
        unfold Oper.looksAt
        refine List.mem_append_right _ ?_
        rw [h0]
        simp only [ht, Option.toList_some, List.mem_singleton])
      simp only [Pass] at hp
      simp only [yielded, ht, Option.bind_some]
      split at hp
      · rename_i b' hb
        rw [hb] at h1
        obtain ⟨h2, _⟩ := h1.sc_inv
        rw [hp]
        rw [Array.getD_eq_getD_getElem?] at h2
        cases hq : a.tmps[t]? with
        | none => rw [hq] at h2; cases h2
        | some q =>
          rw [hq] at h2
          simp only [Option.getD_some] at h2
          subst h2
          cases b' <;> cases b <;> rfl
      · rename_i hb
        rw [hb] at h1
        obtain ⟨vs, h2, h3⟩ := h1.tup_inv
        cases h3
        rw [hp]
        rw [Array.getD_eq_getD_getElem?] at h2
        cases hq : a.tmps[t]? with
        | none => rfl
        | some q =>
          rw [hq] at h2
          simp only [Option.getD_some] at h2
          subst h2
          rfl
      · cases hp
    · cases hg

theorem RelVs.append {w : World} {F : Nat → Prop} {ρ : Nat → Option Loc} : ∀ {ts us : List AV} {vs xs : List Value}, RelVs w F ρ ts vs → RelVs w F ρ us xs → RelVs w F ρ (ts ++ us) (vs ++ xs)
  | _, _, _, _, .nil, h => h
  | _, _, _, _, .cons h1 h2, h => .cons h1 (RelVs.append h2 h)

theorem RelVs.of_relO {w : World} {F : Nat → Prop} {ρ : Nat → Option Loc} : ∀ {ts : List AV} {cs : List Value}, RelO w F ρ ts cs → RelVs w F ρ ts cs
  | _, _, .nil => .nil
  | _, _, .cons h1 h2 h3 => .cons (.one h1 h2) (RelVs.of_relO h3)

theorem trEq_nc {op : BinOp} {t : TypeId} {x y : AX} {ao : AOp} (h : trEq P op t x y = some ao) : ao.isCall = false := by
  unfold trEq at h
  cases op <;> simp only at h <;> first | (cases h; done) | skip
  all_goals
    repeat' split at h
    all_goals first | (cases h; done) | (simp only [Option.some.injEq] at h; subst h; rfl)

theorem trApp_nc {t : TypeId} {x y : AX} {ao : AOp} (h : trApp P t x y = some ao) : ao.isCall = false := by
  unfold trApp at h
  repeat' split at h
  all_goals first | (cases h; done) | (simp only [Option.some.injEq] at h; subst h; rfl)

theorem trOp_isCall {o : Op} {ao : AOp} (h : trOp P o = some ao) (hc : ao.isCall = true) : ∃ c y, o = .call c ∧ c.callee = .value y ∧ ((∃ f args, y = .func f ∧ trXs c.args.toList = some args ∧ ao = .call f args) ∨ (∃ x args, trX y = some x ∧ trXs c.args.toList = some args ∧ ao = .callv x args)) := by
  cases o with
  | call c =>
    simp only [trOp] at h
    split at h
    · rename_i f xs hc2 hx
      simp only [Option.some.injEq] at h
      exact ⟨c, _, rfl, hc2, .inl ⟨f, xs, rfl, hx, h.symm⟩⟩
    · rename_i y xs hx _ hc2
      obtain ⟨a, h1, h2⟩ := some_map h
      exact ⟨c, _, rfl, by assumption, .inr ⟨a, _, h1, by assumption, h2.symm⟩⟩
    all_goals
      repeat' split at h
      all_goals first | (cases h; done) | (have := trApp_nc h; rw [this] at hc; cases hc; done) | (simp only [Option.some.injEq] at h; subst h; cases hc)
  | _ =>
    simp only [trOp] at h
    repeat' split at h
    all_goals first | (cases h; done) | contradiction | (obtain ⟨a, h1, h2⟩ := some_map h; subst h2; cases hc; done) | (have := trEq_nc h; rw [this] at hc; cases hc; done) | (simp only [Option.some.injEq] at h; subst h; cases hc; done)

theorem run_call {o : Oper} {c : Call} {y : Operand} {a : Act} {w : World} {f : Nat} {cs : List Value} (ho : o.op = .call c) (hc : c.callee = .value y) (hy : a.eval y = .func (.func f) #[] cs.toArray) (hk : Known P f) :
    (execOp a.eval o).run P w = .ok (.enter f (c.args.toList.map a.eval ++ cs).toArray) w := by
  obtain ⟨fn, h1, h2, h3⟩ := hk
  have e : (c.args.toList.map a.eval ++ cs).toArray = c.args.map a.eval ++ cs.toArray := by
    apply Array.ext'
    simp
  rw [e]
  have h2' : ¬ fn.name = "runtime.NumGoroutine" := by simpa using h2
  have h3' : ¬ fn.body = none := by
    intro h4
    rw [h4] at h3
    cases h3
  simp [execOp, ho, resolve, hc, hy, Deferred.ofValue, invoke, callFunc, h1, h2', h3']

/-- One step is what the operation does. -/
theorem stp_sound {C : Orc} (hC : OrcOk P C) {ops : Array Oper} {o : Oper} {ao : AOp} {g : Option (Nat × Bool)} (htr : TrO P o.op ao) (hg : trG ops o.guard = some g) {σ τ : St} {v : AV} (h : Stp C σ ⟨o.dst, ao, g⟩ v τ)
    {fr : Fr} {G : Gh} {w : World} {a : Act} (hw : Own fr G w σ) (hr : ∀ t ∈ o.looksAt ops, RelV w G.F G.ρ (get σ.env t) (a.tmps.getD t undef)) {K : Act → World → Prop} {Q : Exit → Act → World → Prop}
    (hK : ∀ u w' G', Goto fr G w G' w' τ → RelV w' G'.F G'.ρ v u → K (a.put o.dst u) w') :
    if Region.wanted o (yielded ops a.tmps) = true then o.wp P a w K Q else K (a.put o.dst undef) w := by
  have hor : OpRel σ G w a o.op := opRel_of fun t ht => hr t (mem_looks ht)
  cases h with
  | op hp hs =>
    rw [if_pos (pass_wanted hg hp hr)]
    obtain ⟨c, rfl, hk, h1⟩ := htr.1 σ τ v hs
    obtain ⟨u, w', G', hrun, hn, hrel⟩ := h1 fr o G w σ.H (fun i => σ.n ≤ i) a rfl hw.1 hw.2 hor (fun k t h => h) (fun _ => Nat.le_refl _)
    have hgo : Goto fr G w G' w' (c.st σ) := by
      unfold Goto
      rw [c.st_H]
      refine ⟨⟨fun i hi => hn.wf.free i ?_, hn.wf.fsz, hn.wf.blk, hn.wf.dis⟩, hn.fr, hn.ext, hn.leF, hn.leR⟩
      rw [c.st_n] at hi
      split at hi
      · exact ⟨by omega, fun _ => by omega⟩
      · rename_i hne
        exact ⟨hi, fun h => absurd h hne⟩
    unfold Oper.wp
    rcases hrun with hrun | ⟨hrun, rfl⟩
    · rw [hrun]; exact hK u w' G' hgo hrel
    · rw [hrun]; exact hK undef w' G' hgo hrel
  | call hp hc =>
    rw [if_pos (pass_wanted hg hp hr)]
    obtain ⟨c, y, ho, hcal, hor2⟩ := trOp_isCall (htr.2 rfl) rfl
    rcases hor2 with ⟨f', args', rfl, hargs, heq⟩ | ⟨x', args', hy, hargs, heq⟩
    · simp only [AOp.call.injEq] at heq
      obtain ⟨rfl, rfl⟩ := heq
      have h1 := RelVs.of_tr (σ := σ) (G := G) (w := w) (a := a) hargs fun x x' hx hx' => hor x x' (by rw [ho]; simp [Op.operands, Call.operands, hcal]; first | exact .inr (by simpa using hx) | exact .inl (by simpa using hx) | simpa using hx) hx'
      obtain ⟨hkn, h2⟩ := hC _ _ _ _ _ hc
      have h3 := h2 fr G w _ hw h1
      unfold Oper.wp
      rw [run_call ho hcal (cs := []) rfl hkn, List.append_nil]
      exact h3.mono fun e w' ⟨u, G', he, hgo, hrel⟩ => by subst he; exact hK u w' G' hgo hrel
    · cases heq
  | callv hp hx hc _ =>
    rw [if_pos (pass_wanted hg hp hr)]
    obtain ⟨c, y, ho, hcal, hor2⟩ := trOp_isCall (htr.2 rfl) rfl
    rcases hor2 with ⟨f', args', rfl, hargs, heq⟩ | ⟨x', args', hy, hargs, heq⟩
    · cases heq
    · simp only [AOp.callv.injEq] at heq
      obtain ⟨rfl, rfl⟩ := heq
      have h1 := RelVs.of_tr (σ := σ) (G := G) (w := w) (a := a) hargs fun x x' hx hx' => hor x x' (by rw [ho]; simp [Op.operands, Call.operands, hcal]; first | exact .inr (by simpa using hx) | exact .inl (by simpa using hx) | simpa using hx) hx'
      have hyr := hor y _ (by rw [ho]; simp [Op.operands, Call.operands, hcal]) hy
      rw [hx] at hyr
      obtain ⟨cs, hyv, hcs⟩ := hyr.clo_inv
      obtain ⟨hkn, h2⟩ := hC _ _ _ _ _ hc
      have h3 := h2 fr G w _ hw (h1.append (.of_relO hcs))
      unfold Oper.wp
      rw [run_call ho hcal hyv hkn]
      exact h3.mono fun e w' ⟨u, G', he, hgo, hrel⟩ => by subst he; exact hK u w' G' hgo hrel
  | skip hp =>
    rw [if_neg (by rw [pass_wanted hg hp hr]; simp)]
    exact hK undef w G hw.goto (.tup .nil)
end
end Go.Ra
