/- Each abstract operation is sound: the ones that only compute. -/
import Derived.Test.YtfobbfdbojednaaRaC
import Derived.WalkKit
namespace Go.Ra
set_option linter.unusedVariables false
set_option linter.unusedSimpArgs false

theorem eqPlain_eq : ∀ {v u : Value}, eqPlain v u = true → v = u ∧ plainV v = true := by
  intro v u h
  cases v <;> cases u <;> simp [eqPlain] at h
  case bool.bool => exact ⟨by rw [h], rfl⟩
  case int.int => exact ⟨by rw [h.1, h.2], rfl⟩
  case string.string a b =>
    refine ⟨?_, rfl⟩
    congr 1
    exact ByteArray.ext h
  case pointer.pointer a b =>
    cases a <;> cases b <;> simp [eqPlain] at h
    exact ⟨rfl, rfl⟩

theorem matchZ_fro {x : Bool} {es : Nat} {ts : List AV} {cs r : List Value} (h : matchZ (.fro x es ts) cs = some r) : ∃ c, cs = c ++ r ∧ ∀ w F ρ, RelC w F ρ (.fro x es ts) c := by
  cases ts with
  | cons _ _ => cases cs <;> simp [matchZ] at h
  | nil =>
    cases cs with
    | nil => simp [matchZ] at h
    | cons u l =>
      unfold matchZ at h
      split at h
      all_goals first
        | (rename_i heq1 heq2
           simp only [List.cons.injEq] at heq2
           obtain ⟨rfl, rfl⟩ := heq2
           simp only [Option.some.injEq] at h
           subst h
           exact ⟨[_], rfl, fun w F ρ => .fro0 (fun _ => rfl)⟩)
        | (simp_all; done)

mutual
theorem matchZ_rel : ∀ {t : AV} {cs r : List Value}, matchZ t cs = some r → ∃ c, cs = c ++ r ∧ ∀ w F ρ, RelC w F ρ t c
  | .sc v, cs, r, h => by
    cases cs with
    | nil => simp [matchZ] at h
    | cons u l =>
      simp only [matchZ] at h
      split at h
      · rename_i he
        obtain ⟨rfl, hp⟩ := eqPlain_eq he
        simp only [Option.some.injEq] at h
        subst h
        exact ⟨[v], rfl, fun w F ρ => .sc hp⟩
      · cases h
  | .fro x es ts, cs, r, h => matchZ_fro h
  | .agg n ts, cs, r, h => by
    simp only [matchZ] at h
    split at h
    · rename_i r' hr
      split at h
      · rename_i hl
        simp only [Option.some.injEq] at h
        subst h
        obtain ⟨c, rfl, hc⟩ := matchZs_rel hr
        exact ⟨c, rfl, fun w F ρ => .agg (hc w F ρ) (by simp at hl; omega)⟩
      · cases h
    · cases h
  | .arr n es ts, cs, r, h => by
    simp only [matchZ] at h
    split at h
    · rename_i hl
      obtain ⟨c, rfl, hc⟩ := matchZe_rel h
      exact ⟨c, rfl, fun w F ρ => .arr (hc w F) hl⟩
    · cases h
  | .fptr _, _, _, h => by simp [matchZ] at h
  | .sl .., _, _, h => by simp [matchZ] at h
  | .ptr .., _, _, h => by simp [matchZ] at h
  | .clo .., _, _, h => by simp [matchZ] at h
  | .tup _, _, _, h => by simp [matchZ] at h
  | .anyb, _, _, h => by simp [matchZ] at h
  | .unk, _, _, h => by simp [matchZ] at h
theorem matchZs_rel : ∀ {ts : List AV} {cs r : List Value}, matchZs ts cs = some r → ∃ c, cs = c ++ r ∧ ∀ w F ρ, RelL w F ρ ts c
  | [], cs, r, h => by
    simp only [matchZs, Option.some.injEq] at h
    subst h
    exact ⟨[], rfl, fun _ _ _ => .nil⟩
  | t :: ts, cs, r, h => by
    simp only [matchZs] at h
    split at h
    · rename_i r' hr
      obtain ⟨c, rfl, hc⟩ := matchZ_rel hr
      obtain ⟨c', rfl, hc'⟩ := matchZs_rel h
      exact ⟨c ++ c', by simp, fun w F ρ => .cons (hc w F ρ) (hc' w F ρ)⟩
    · cases h
theorem matchZe_rel : ∀ {ts : List AV} {es : Nat} {cs r : List Value}, matchZe es ts cs = some r → ∃ c, cs = c ++ r ∧ ∀ w F, RelE w F es ts c
  | [], es, cs, r, h => by
    simp only [matchZe, Option.some.injEq] at h
    subst h
    exact ⟨[], rfl, fun _ _ => .nil⟩
  | t :: ts, es, cs, r, h => by
    simp only [matchZe] at h
    split at h
    · rename_i r' hr
      split at h
      · rename_i hsz
        obtain ⟨c, rfl, hc⟩ := matchZ_rel hr
        obtain ⟨c', rfl, hc'⟩ := matchZe_rel h
        exact ⟨c ++ c', by simp, fun w F => .cons (hc w F noIds) (by rw [(hc w F noIds).size, hsz]) (hc' w F)⟩
      · cases h
    · cases h
end

theorem zeroT_rel {P : Program} {t : TypeId} {z : AV} (h : zeroT P t = some z) : ∃ i v, P.info? t = some i ∧ i.zero = some v ∧ z.idfree = true ∧ ∀ w F ρ, RelC w F ρ z v.cells.toList ∧ RelV w F ρ z v := by
  unfold zeroT at h
  split at h
  · rename_i z' i hz hi
    split at h
    · rename_i v hv
      split at h
      · rename_i hm
        split at h
        · rename_i hc
          simp only [Option.some.injEq] at h
          subst h
          simp only [Bool.and_eq_true, beq_iff_eq] at hc
          obtain ⟨c, hcs, hrel⟩ := matchZ_rel hm
          simp only [List.append_nil] at hcs
          refine ⟨i, v, hi, hv, hc.2, fun w F ρ => ?_⟩
          have h1 : RelC w F ρ z' v.cells.toList := by rw [hcs]; exact hrel w F ρ
          refine ⟨h1, ?_⟩
          cases v with
          | agg cs =>
            have := RelV.agg (cs := cs.toList) (by simpa [Value.cells] using h1) (by simpa [aggV] using hc.1)
            simpa using this
          | _ => exact .one (by simpa [Value.cells] using h1) (by simpa [aggV] using hc.1)
        · cases h
      · cases h
    · cases h
  · cases h

section inv
variable {w : World} {F : Nat → Prop} {ρ : Nat → Option Loc}
theorem RelV.sc_inv {v u : Value} (h : RelV w F ρ (.sc v) u) : u = v ∧ plainV v = true := by
  cases h with
  | one h _ => cases h with | sc h => exact ⟨rfl, h⟩
  | agg h ha => simp [AV.isAgg] at ha
theorem RelV.ptr_inv {id off : Nat} {path : List Nat} {u : Value} (h : RelV w F ρ (.ptr id path off) u) : ∃ b o, ρ id = some (b, o) ∧ u = .pointer (some ⟨b, o + off, none⟩) := by
  cases h with
  | one h _ => cases h with | ptr h => exact ⟨_, _, h, rfl⟩
  | agg h ha => simp [AV.isAgg] at ha
theorem RelV.fptr_inv {t : AV} {u : Value} (h : RelV w F ρ (.fptr t) u) : ∃ b o cs, u = .pointer (some ⟨b, o, none⟩) ∧ RelC w F noIds t cs ∧ Reads w b o cs ∧ F b := by
  cases h with
  | one h _ => cases h with | fptr h1 h2 h3 => exact ⟨_, _, _, rfl, h1, h2, h3⟩
  | agg h ha => simp [AV.isAgg] at ha
theorem RelV.fro_inv {x : Bool} {es : Nat} {ts : List AV} {u : Value} (h : RelV w F ρ (.fro x es ts) u) :
    ∃ a cap, u = .slice a ts.length cap ∧ ts.length ≤ cap ∧ (x = true → cap = ts.length) ∧ ((ts = []) ∨ ∃ b o cs, a = some ⟨b, o, none⟩ ∧ RelE w F es ts cs ∧ Reads w b o cs ∧ F b) := by
  cases h with
  | one h _ =>
    cases h with
    | fro0 h => exact ⟨_, _, rfl, Nat.zero_le _, fun hx => h hx, .inl rfl⟩
    | fro h1 h2 h3 h4 h5 => exact ⟨_, _, rfl, h5, h4, .inr ⟨_, _, _, rfl, h1, h2, h3⟩⟩
  | agg h ha => simp [AV.isAgg] at ha
theorem RelV.sl_inv {id off k len es : Nat} {path : List Nat} {u : Value} (h : RelV w F ρ (.sl id path off k len es) u) :
    ∃ a cap, u = .slice a len cap ∧ len ≤ cap ∧ ((len = 0 ∧ cap = 0) ∨ ∃ b o cur e, a = some ⟨b, o + off, none⟩ ∧ ρ id = some (b, o) ∧ w.heap[b]? = some (Obj.cells cur e (0, 0)) ∧ o + off + cap * es ≤ cur.size) := by
  cases h with
  | one h _ =>
    cases h with
    | sl0 => exact ⟨_, _, rfl, Nat.le_refl _, .inl ⟨rfl, rfl⟩⟩
    | sl h1 h2 h3 h4 => exact ⟨_, _, rfl, h2, .inr ⟨_, _, _, _, rfl, h1, h3, h4⟩⟩
  | agg h ha => simp [AV.isAgg] at ha
theorem RelV.clo_inv {f : Nat} {caps : List AV} {u : Value} (h : RelV w F ρ (.clo f caps) u) : ∃ cs, u = .func (.func f) #[] cs.toArray ∧ RelO w F ρ caps cs := by
  cases h with
  | one h _ => cases h with | clo h => exact ⟨_, rfl, h⟩
  | agg h ha => simp [AV.isAgg] at ha
theorem RelV.tup_inv {ts : List AV} {u : Value} (h : RelV w F ρ (.tup ts) u) : ∃ vs, u = .tuple vs.toArray ∧ RelVs w F ρ ts vs := by
  cases h with
  | one h _ => cases h
  | agg h ha => simp [AV.isAgg] at ha
  | tup h => exact ⟨_, rfl, h⟩
theorem RelV.anyb_inv {u : Value} (h : RelV w F ρ .anyb u) : ∃ b, u = .bool b := by
  cases h with
  | one h _ => cases h
  | agg h ha => simp [AV.isAgg] at ha
  | anyb => exact ⟨_, rfl⟩
theorem RelV.agg_inv {t : AV} {u : Value} (h : RelV w F ρ t u) (ha : t.isAgg = true) : ∃ cs, u = .agg cs.toArray ∧ RelC w F ρ t cs := by
  cases h with
  | one h h0 => rw [h0] at ha; cases ha
  | agg h _ => exact ⟨_, rfl, h⟩
  | tup _ => simp [AV.isAgg] at ha
  | anyb => simp [AV.isAgg] at ha
  | unk => simp [AV.isAgg] at ha

theorem cells_one {v : Value} (h : v.oneCell' = true) : v.cells = #[v] := by cases v <;> first | rfl | simp [Value.oneCell'] at h

/-- The cells of a value that can be stored. -/
theorem RelV.cells {t : AV} {u : Value} (h : RelV w F ρ t u) (hs : t.storable = true) : RelC w F ρ t u.cells.toList := by
  cases h with
  | one h h0 => rw [cells_one (h.ones u (by simp))]; simpa using h
  | agg h _ => simpa [Value.cells] using h
  | tup _ => simp [AV.storable] at hs
  | anyb => simp [AV.storable] at hs
  | unk => simp [AV.storable] at hs

theorem RelVs.nth : ∀ {ts : List AV} {vs : List Value} {i : Nat} {t : AV}, RelVs w F ρ ts vs → ts[i]? = some t → ∃ v, vs[i]? = some v ∧ RelV w F ρ t v
  | _, _, i, _, .nil, h => by simp at h
  | _, _, 0, _, .cons h1 h2, h => by
    simp only [List.getElem?_cons_zero, Option.some.injEq] at h
    subst h
    exact ⟨_, rfl, h1⟩
  | _, _, i + 1, _, .cons h1 h2, h => by
    simp only [List.getElem?_cons_succ] at h
    obtain ⟨v, hv, hr⟩ := RelVs.nth h2 h
    exact ⟨v, by simpa using hv, hr⟩
end inv

/-- What an operation does to the heap. -/
inductive Chg where
  | same
  | new (t : AV)
  | put (k : Nat) (t : AV)
  | move (k : Nat) (t : AV)

def Chg.st : Chg → St → St
  | .same, σ => σ
  | .new t, σ => σ.new t
  | .put k t, σ => σ.hput k (some t)
  | .move k t, σ => (σ.hput k none).new t

def Chg.H : Chg → Nat → (Nat → Option AV) → Nat → Option AV
  | .same, _, H => H
  | .new t, n, H => upd H n (some t)
  | .put k t, _, H => upd (upd H k none) k (some t)
  | .move k t, n, H => upd (upd H k none) n (some t)

def Chg.isNew : Chg → Bool
  | .new _ => true
  | .move _ _ => true
  | _ => false

def Chg.key : Chg → Option Nat
  | .put k _ => some k
  | .move k _ => some k
  | _ => none

def Goes (fr : Fr) (G : Gh) (w : World) (r : Result Next) (v : AV) (H' : Nat → Option AV) (U' : Nat → Prop) : Prop :=
  ∃ u w' G', (r = .ok (.value u) w' ∨ (r = .ok .skip w' ∧ u = undef)) ∧ Nxt fr G w G' w' H' U' ∧ RelV w' G'.F G'.ρ v u

def OpRel (σ : St) (G : Gh) (w : World) (a : Act) (o : Op) : Prop :=
  ∀ x x', x ∈ o.operands → trX x = some x' → RelV w G.F G.ρ (σ.ev x') (a.eval x)

/-- An abstract operation is sound for an operation. -/
def Sound (P : Program) (o : Op) (ao : AOp) : Prop :=
  ∀ (σ σ' : St) (v : AV), stepE ao σ = some (v, σ') → ∃ c : Chg, σ' = c.st σ ∧ (∀ k, c.key = some k → σ.H k ≠ none) ∧
    ∀ (fr : Fr) (oper : Oper) (G : Gh) (w : World) (H : Nat → Option AV) (U : Nat → Prop) (a : Act), oper.op = o → Wf G w H U → FrOk fr G w H → OpRel σ G w a o →
      (∀ k t, σ.H k = some t → H k = some t) → (c.isNew = true → U σ.n) →
      Goes fr G w ((execOp a.eval oper).run P w) v (c.H σ.n H) (fun j => U j ∧ (c.isNew = true → j ≠ σ.n))

/-- An operation that only computes. -/
def SoundP (P : Program) (o : Op) (ao : AOp) : Prop :=
  ∀ (σ σ' : St) (v : AV), stepE ao σ = some (v, σ') → σ' = σ ∧
    ∀ (oper : Oper) (G : Gh) (w : World) (H : Nat → Option AV) (U : Nat → Prop) (a : Act), oper.op = o → Wf G w H U → OpRel σ G w a o → (∀ k t, σ.H k = some t → H k = some t) →
      ∃ u, (execOp a.eval oper).run P w = .ok (.value u) w ∧ RelV w G.F G.ρ v u

theorem SoundP.sound {P : Program} {o : Op} {ao : AOp} (h : SoundP P o ao) : Sound P o ao := by
  intro σ σ' v hs
  obtain ⟨h1, h2⟩ := h σ σ' v hs
  refine ⟨.same, h1, fun k hk => by simp [Chg.key] at hk, fun fr oper G w H U a ho hw hf hx hH _ => ?_⟩
  obtain ⟨u, hr, hv⟩ := h2 oper G w H U a ho hw hx hH
  have h0 := Nxt.same hw hf (SameHeap.refl w)
  refine ⟨u, w, G, .inl hr, ?_, hv⟩
  simpa [Chg.H, Chg.isNew] using h0
end Go.Ra
