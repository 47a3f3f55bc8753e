/- Each abstract operation is sound: the operations that only compute. -/
import Derived.Test.YtfobbfdbojednaaRaD
import Derived.Laws.Bits
namespace Go.Ra
set_option linter.unusedVariables false
set_option linter.unusedSimpArgs false
section
variable {P : Program}

theorem run_val {s : Sem Value} {u : Value} {w w' : World} (h : s.run P w = .ok u w') : (do pure (Next.value (← s)) : Sem Next).run P w = .ok (.value u) w' := by
  simp [h]

theorem sp_move {x : Operand} {x' : AX} (hx : trX x = some x') : SoundP P (.move x) (.mv x') := by
  intro σ σ' v hs
  simp only [stepE, Option.some.injEq, Prod.mk.injEq] at hs
  obtain ⟨rfl, rfl⟩ := hs
  refine ⟨rfl, fun oper G w H U a ho hw hr hH => ⟨_, ?_, hr x x' (by simp [Op.operands]) hx⟩⟩
  simp [execOp, ho]
theorem sp_assign {x : Operand} {x' : AX} (hx : trX x = some x') : SoundP P (.assign x) (.mv x') := by
  intro σ σ' v hs
  simp only [stepE, Option.some.injEq, Prod.mk.injEq] at hs
  obtain ⟨rfl, rfl⟩ := hs
  refine ⟨rfl, fun oper G w H U a ho hw hr hH => ⟨_, ?_, hr x x' (by simp [Op.operands]) hx⟩⟩
  simp [execOp, ho]
theorem sp_pick {c x y : Operand} {c' x' y' : AX} (hc : trX c = some c') (hx : trX x = some x') (hy : trX y = some y') : SoundP P (.pick c x y) (.pick c' x' y') := by
  intro σ σ' v hs
  simp only [stepE] at hs
  split at hs
  · rename_i b hb
    simp only [Option.some.injEq, Prod.mk.injEq] at hs
    obtain ⟨rfl, rfl⟩ := hs
    refine ⟨rfl, fun oper G w H U a ho hw hr hH => ?_⟩
    have h1 := hr c c' (by simp [Op.operands]) hc
    rw [hb] at h1
    obtain ⟨h1, _⟩ := h1.sc_inv
    refine ⟨if b then a.eval x else a.eval y, by simp [execOp, ho, h1, asBool], ?_⟩
    cases b
    · exact hr y y' (by simp [Op.operands]) hy
    · exact hr x x' (by simp [Op.operands]) hx
  · cases hs
theorem sp_nilck {x : Operand} {x' : AX} (hx : trX x = some x') : SoundP P (.nilCheck x) (.nilck x') := by
  intro σ σ' v hs
  simp only [stepE] at hs
  split at hs
  all_goals first
    | cases hs; done
    | (rename_i hv
       simp only [Option.some.injEq, Prod.mk.injEq] at hs
       obtain ⟨rfl, rfl⟩ := hs
       refine ⟨rfl, fun oper G w H U a ho hw hr hH => ?_⟩
       have h1 := hr x x' (by simp [Op.operands]) hx
       rw [hv] at h1
       refine ⟨a.eval x, ?_, h1⟩
       first
         | (obtain ⟨b, o, _, h2⟩ := h1.ptr_inv; simp [execOp, ho, h2])
         | (obtain ⟨b, o, cs, h2, _⟩ := h1.fptr_inv; simp [execOp, ho, h2])
         | (obtain ⟨cs, h2, _⟩ := h1.clo_inv; simp [execOp, ho, h2]))
theorem sp_extract {x : Operand} {x' : AX} {i : Nat} (hx : trX x = some x') : SoundP P (.extract x i) (.ext x' i) := by
  intro σ σ' v hs
  simp only [stepE] at hs
  split at hs
  · rename_i vs hv
    split at hs
    · rename_i u hu
      simp only [Option.some.injEq, Prod.mk.injEq] at hs
      obtain ⟨rfl, rfl⟩ := hs
      refine ⟨rfl, fun oper G w H U a ho hw hr hH => ?_⟩
      have h1 := hr x x' (by simp [Op.operands]) hx
      rw [hv] at h1
      obtain ⟨us, h2, h3⟩ := h1.tup_inv
      obtain ⟨z, hz, hrel⟩ := h3.nth hu
      exact ⟨z, by simp [execOp, ho, h2, Instr.extract, hz], hrel⟩
    · cases hs
  · cases hs
theorem sp_conv {x : Operand} {x' : AX} {src dst : TypeId} {j k : IntKind} (h1 : P.underlying src = some (.int j)) (h2 : P.underlying dst = some (.int k)) (hx : trX x = some x') : SoundP P (.convert src dst x) (.conv k x') := by
  intro σ σ' v hs
  simp only [stepE] at hs
  split at hs
  · rename_i k' n hv
    simp only [Option.some.injEq, Prod.mk.injEq] at hs
    obtain ⟨rfl, rfl⟩ := hs
    refine ⟨rfl, fun oper G w H U a ho hw hr hH => ?_⟩
    have h3 := hr x x' (by simp [Op.operands]) hx
    rw [hv] at h3
    obtain ⟨h3, _⟩ := h3.sc_inv
    refine ⟨.int k (k.wrap n), ?_, .one (.sc rfl) rfl⟩
    simp [execOp, ho, h3, convert, run_underlying h1, run_underlying h2, Conv.intToInt]
  · cases hs
theorem RelVs.of_tr {σ : St} {G : Gh} {w : World} {a : Act} : ∀ {xs : List Operand} {xs' : List AX}, trXs xs = some xs' → (∀ x x', x ∈ xs → trX x = some x' → RelV w G.F G.ρ (σ.ev x') (a.eval x)) →
    RelVs w G.F G.ρ (xs'.map σ.ev) (xs.map a.eval)
  | [], xs', h, _ => by
    simp only [trXs, Option.some.injEq] at h
    subst h
    exact .nil
  | x :: xs, xs', h, hr => by
    simp only [trXs] at h
    split at h
    · rename_i b c hb hc
      simp only [Option.some.injEq] at h
      subst h
      exact .cons (hr x b (by simp) hb) (RelVs.of_tr hc fun y y' hy => hr y y' (by simp [hy]))
    · cases h
theorem RelVs.ones {G : Gh} {w : World} : ∀ {ts : List AV} {vs : List Value}, RelVs w G.F G.ρ ts vs → capsOk ts = true → RelO w G.F G.ρ ts vs
  | _, _, .nil, _ => .nil
  | _, _, .cons (v := v) h1 h2, h => by
    simp only [capsOk, Bool.and_eq_true, Bool.not_eq_true'] at h
    have h3 := h1.cells h.1.1
    obtain ⟨u, hu⟩ := h3.single h.1.2
    have h4 : v = u := by
      cases v <;> simp_all [Value.cells]
      case agg cs =>
        cases h1 with
        | one h5 _ => have := h5.ones _ (List.mem_singleton.2 rfl); simp [Value.oneCell'] at this
        | agg h5 h6 => rw [h.1.2] at h6; cases h6
        | unk => simp [AV.storable] at h
    rw [hu] at h3
    rw [h4]
    exact .cons h3 h.1.2 (RelVs.ones h2 h.2)
theorem sp_mkf {f : Nat} {caps : Array Operand} {caps' : List AX} {first : Array Operand} (hf : first.isEmpty = true) (hc : trXs caps.toList = some caps') : SoundP P (.makeFunc (.func f) first caps) (.mkf f caps') := by
  intro σ σ' v hs
  simp only [stepE] at hs
  split at hs
  · rename_i hok
    simp only [Option.some.injEq, Prod.mk.injEq] at hs
    obtain ⟨rfl, rfl⟩ := hs
    refine ⟨rfl, fun oper G w H U a ho hw hr hH => ?_⟩
    have h1 := RelVs.of_tr (σ := σ) (G := G) (w := w) (a := a) hc fun x x' hx hx' => hr x x' (by simp [Op.operands]; exact .inr (by simpa using hx)) hx'
    have h2 := h1.ones hok
    have hfe : first = #[] := by simpa using hf
    subst hfe
    refine ⟨.func (.func f) #[] (caps.map a.eval), by simp [execOp, ho, Instr.makeFunc], .one ?_ rfl⟩
    have := RelC.clo (f := f) h2
    have e : (List.map a.eval caps.toList).toArray = Array.map a.eval caps := by rw [← Array.toList_map, Array.toArray_toList]
    rwa [e] at this
  · cases hs

/-! ### arithmetic -/
theorem run_binV {op : BinOp} {x y u : Value} {t : TypeId} (h : binV op x y = some u) (w : World) (ht : plainT P t = true) (hx : plainV x = true) (hy : plainV y = true) :
    (binOp op t x y).run P w = .ok u w ∧ plainV u = true := by
  unfold binV at h
  split at h
  · rename_i k a k' b
    split at h
    · rename_i hsh
      unfold shI at h
      split at h
      · cases h
      · rename_i hneg
        cases op <;> simp [isShift] at hsh
        all_goals
          simp only [Option.some.injEq] at h
          subst h
          refine ⟨?_, rfl⟩
          simp [binOp, Op.shift, hneg, Nat.min_def]
    · rename_i hsh
      split at h
      · rename_i hkk
        subst hkk
        cases op <;> simp [isShift] at hsh <;> simp only [intBin] at h
        case quo =>
          split at h
          · cases h
          · rename_i hb
            simp only [Option.some.injEq] at h
            subst h
            exact ⟨by simp [binOp, Op.intDiv, hb], rfl⟩
        case rem =>
          split at h
          · cases h
          · rename_i hb
            simp only [Option.some.injEq] at h
            subst h
            exact ⟨by simp [binOp, Op.intDiv, hb], rfl⟩
        case eql =>
          simp only [Option.some.injEq] at h
          subst h
          refine ⟨?_, rfl⟩
          have e : (a == b) = decide (a = b) := by by_cases hab : a = b <;> simp [hab]
          simp [binOp, Op.intCmp, e]
        case neq =>
          simp only [Option.some.injEq] at h
          subst h
          refine ⟨?_, rfl⟩
          have e : (a != b) = decide (¬ a = b) := by by_cases hab : a = b <;> simp [hab]
          simp only [binOp, ne_eq, not_true_eq_false, if_false, Op.intCmp, e]
          rfl
        all_goals
          simp only [Option.some.injEq] at h
          subst h
          refine ⟨?_, rfl⟩
          simp [binOp, Op.intArith, Op.intBits, Op.intCmp, bitsI]
      · cases h
  · rename_i a b
    have e : (a.toList == b.toList) = decide (a.toList = b.toList) := by by_cases hab : a.toList = b.toList <;> simp [hab]
    split at h
    · simp only [Option.some.injEq] at h
      subst h
      exact ⟨by simp only [binOp, Op.stringOp, e]; rfl, rfl⟩
    · simp only [Option.some.injEq] at h
      subst h
      exact ⟨by simp only [binOp, Op.stringOp, e]; rfl, rfl⟩
    · split at h
      · rename_i hsz
        simp only [Option.some.injEq] at h
        subst h
        refine ⟨?_, rfl⟩
        have h2 : ¬ ((a.size + b.size : Nat) : Int) > IntKind.i64.max := by
          have : IntKind.i64.max = 9223372036854775807 := by decide
          rw [this]; omega
        have h3 : Op.stringOp .add a b = pure (.string (a ++ b)) := by unfold Op.stringOp; exact if_neg h2
        show (Op.stringOp .add a b).run P w = _
        rw [h3]; rfl
      · cases h
    · cases h
  · cases h
theorem binOp_nopair {op : BinOp} {x y : Operand} {t : TypeId} {u v : Value} (w : World) (hu : plainV u = true) (hv : plainV v = true) : (eqGuard op t x y u v).run P w = .ok () w := by
  unfold eqGuard
  cases op <;> simp <;> (cases u <;> cases v <;> first | rfl | simp [plainV] at hu hv)

theorem sp_bin {op : BinOp} {t yt : TypeId} {x y : Operand} {x' y' : AX} (ht : plainT P t = true) (hx : trX x = some x') (hy : trX y = some y') : SoundP P (.binOp op t x y yt) (.bin op x' y') := by
  intro σ σ' v hs
  simp only [stepE] at hs
  split at hs
  · rename_i b c hb hc
    split at hs
    · rename_i u hu
      simp only [Option.some.injEq, Prod.mk.injEq] at hs
      obtain ⟨rfl, rfl⟩ := hs
      refine ⟨rfl, fun oper G w H U a ho hw hr hH => ?_⟩
      have h1 := hr x x' (by simp [Op.operands]) hx
      have h2 := hr y y' (by simp [Op.operands]) hy
      rw [hb] at h1
      rw [hc] at h2
      obtain ⟨h1, p1⟩ := h1.sc_inv
      obtain ⟨h2, p2⟩ := h2.sc_inv
      obtain ⟨h3, h4⟩ := run_binV hu w ht p1 p2
      refine ⟨u, ?_, .one (.sc h4) rfl⟩
      have h5 := binOp_nopair (P := P) (op := op) (x := x) (y := y) (t := t) w p1 p2
      simp [execOp, ho, h1, h2, h5, h3]
    · cases hs
  · cases hs

theorem sp_un {op : UnOp} {t : TypeId} {x : Operand} {x' : AX} (hx : trX x = some x') : SoundP P (.unOp op t x) (.un op x') := by
  intro σ σ' v hs
  simp only [stepE] at hs
  split at hs
  · rename_i u
    split at hs
    · rename_i u2 hu
      simp only [Option.some.injEq, Prod.mk.injEq] at hs
      obtain ⟨rfl, rfl⟩ := hs
      refine ⟨rfl, fun oper G w H U a ho hw hr hH => ?_⟩
      have h1 := hr x x' (by simp [Op.operands]) hx
      unfold notV at hu
      split at hu
      · rename_i b hb
        simp only [Option.some.injEq] at hu
        subst hu
        rw [hb] at h1
        obtain ⟨h1, _⟩ := h1.sc_inv
        exact ⟨.bool (!b), by simp [execOp, ho, h1, Op.unary], .one (.sc rfl) rfl⟩
      · rename_i hb
        simp only [Option.some.injEq] at hu
        subst hu
        rw [hb] at h1
        obtain ⟨b, h1⟩ := h1.anyb_inv
        exact ⟨.bool (!b), by simp [execOp, ho, h1, Op.unary], .anyb⟩
      · cases hu
    · cases hs
  · rename_i k n hv
    simp only [Option.some.injEq, Prod.mk.injEq] at hs
    obtain ⟨rfl, rfl⟩ := hs
    refine ⟨rfl, fun oper G w H U a ho hw hr hH => ?_⟩
    have h1 := hr x x' (by simp [Op.operands]) hx
    rw [hv] at h1
    obtain ⟨h1, _⟩ := h1.sc_inv
    exact ⟨.int k (k.wrap (0 - n)), by simp [execOp, ho, h1, Op.unary, Op.intArith], .one (.sc rfl) rfl⟩
  · rename_i k n hv
    simp only [Option.some.injEq, Prod.mk.injEq] at hs
    obtain ⟨rfl, rfl⟩ := hs
    refine ⟨rfl, fun oper G w H U a ho hw hr hH => ?_⟩
    have h1 := hr x x' (by simp [Op.operands]) hx
    rw [hv] at h1
    obtain ⟨h1, _⟩ := h1.sc_inv
    exact ⟨_, by simp [execOp, ho, h1, Op.unary, Op.intBits]; rfl, .one (.sc rfl) rfl⟩
  · cases hs

theorem eqn_run {t e : TypeId} {u : Value} (w : World) (ht : P.underlying t = some (.slice e)) {a : Option Addr} {n c : Nat} (hu : u = .slice a n c) :
    (Op.equal t u (.slice none 0 0)).run P w = .ok a.isNone w := by
  subst hu
  unfold Op.equal
  obtain ⟨d, hd⟩ : ∃ d, Op.maxDepth = d + 1 := ⟨9999, rfl⟩
  rw [hd]
  cases a <;> simp [Op.equalIn, run_underlying ht]

theorem sp_eqn {op : BinOp} {neg : Bool} {t e yt : TypeId} {x y : Operand} {x' y' : AX} (hop : op = if neg then .neq else .eql) (ht : P.underlying t = some (.slice e)) (hx : trX x = some x') (hy : trX y = some y') (hn : isNilX y' = true) :
    SoundP P (.binOp op t x y yt) (.eqn neg x') := by
  intro σ σ' v hs
  simp only [stepE] at hs
  split at hs
  · rename_i u hu
    simp only [Option.some.injEq, Prod.mk.injEq] at hs
    obtain ⟨rfl, rfl⟩ := hs
    refine ⟨rfl, fun oper G w H U a ho hw hr hH => ?_⟩
    have h1 := hr x x' (by simp [Op.operands]) hx
    have hyv : a.eval y = .slice none 0 0 := by
      cases y with
      | const v =>
        simp only [trX] at hy
        cases v with
        | slice ad n c =>
          cases ad with
          | none =>
            cases n <;> cases c <;> simp [trV] at hy
            rfl
          | some ad => simp [trV] at hy
        | pointer ad => cases ad <;> simp [trV] at hy; subst hy; simp [isNilX] at hn
        | _ => simp [trV] at hy <;> (try (subst hy; simp [isNilX] at hn))
      | tmp i => simp only [trX, Option.some.injEq] at hy; subst hy; simp [isNilX] at hn
      | func f => simp only [trX, Option.some.injEq] at hy; subst hy; simp [isNilX] at hn
      | global g => simp [trX] at hy
    have key : ∀ ad n c, a.eval x = .slice ad n c → (execOp a.eval oper).run P w = .ok (.value (.bool (if neg then !ad.isNone else ad.isNone))) w := fun ad n c hv => by
      have h2 := eqn_run (P := P) w ht (rfl : (Value.slice ad n c) = _)
      have h3 : (eqGuard op t x y (.slice ad n c) (.slice none 0 0)).run P w = .ok () w := by
        unfold eqGuard; subst hop; cases neg <;> rfl
      subst hop
      cases neg <;> simp only [if_true, if_false, Bool.false_eq_true] at h3 ho <;> simp [execOp, ho, hv, hyv, h3, binOp, h2]
    unfold eqnV at hu
    split at hu
    · rename_i ts hb
      rw [hb] at h1
      obtain ⟨ad, cap, h2, h3, h4, h5⟩ := h1.fro_inv
      refine ⟨_, key ad _ cap h2, ?_⟩
      simp only [Option.some.injEq] at hu
      subst hu
      cases ts with
      | nil => exact .anyb
      | cons t0 tl =>
        rcases h5 with h5 | ⟨b, o, cs, rfl, _⟩
        · cases h5
        · simp only [List.isEmpty_cons, Bool.false_eq_true, if_false, Option.isNone_some, Bool.not_false]
          cases neg <;> exact .one (.sc rfl) rfl
    · rename_i len es hb
      rw [hb] at h1
      obtain ⟨ad, cap, h2, h3, h5⟩ := h1.sl_inv
      refine ⟨_, key ad _ cap h2, ?_⟩
      simp only [Option.some.injEq] at hu
      subst hu
      rcases h5 with ⟨h5, _⟩ | ⟨b, o, cur, e, rfl, _⟩
      · rw [if_pos h5]; exact .anyb
      · split
        · exact .anyb
        · simp only [Option.isNone_some, Bool.not_false]
          cases neg <;> exact .one (.sc rfl) rfl
    · cases hu
  · cases hs

/-! ### equality of structs and arrays -/
/-- The part of a row of cells that a value stands for. -/
theorem run_part {t : TypeId} {a : Bool} {n : Nat} (ha : isAggT P t = some a) (hn : szT P t = some n) {pre mid post : List Value} (hm : mid.length = n) (h1 : a = false → ∃ v, mid = [v]) (w : World) :
    (part t (pre ++ (mid ++ post)).toArray pre.length).run P w = .ok (if a then .agg mid.toArray else mid.headD undef) w := by
  unfold isAggT at ha
  unfold szT at hn
  cases hi : P.info? t with
  | none => rw [hi] at hn; simp at hn
  | some i =>
    rw [hi] at hn
    simp only [Option.map_some, Option.some.injEq] at hn
    split at ha
    · rename_i fs hu
      simp only [Option.some.injEq] at ha
      subst ha
      simp [part, isAgg, run_underlying hu, sizeOf, typeInfo, hi]
      rw [hn, ← hm]; simp
    · rename_i m e hu
      simp only [Option.some.injEq] at ha
      subst ha
      simp [part, isAgg, run_underlying hu, sizeOf, typeInfo, hi]
      rw [hn, ← hm]; simp
    · rename_i dd hs1 hs2 hu
      simp only [Option.some.injEq] at ha
      subst ha
      obtain ⟨v, rfl⟩ := h1 rfl
      cases dd <;> simp [part, isAgg, run_underlying hu] at hs1 hs2 ⊢
    · cases ha

def TS.isAgg : TS → Bool
  | .agg _ => true
  | .arr .. => true
  | _ => false

theorem shapeT_agg {k : Nat} {t : TypeId} {ts : TS} (h : shapeT P k t = some ts) : isAggT P t = some ts.isAgg := by
  cases k with
  | zero => simp [shapeT] at h
  | succ k =>
    unfold shapeT at h
    unfold isAggT
    cases hu : P.underlying t with
    | none => rw [hu] at h; cases h
    | some dd =>
      rw [hu] at h
      cases dd <;> simp only [Option.some.injEq] at h ⊢ <;> first
        | (subst h; rfl)
        | (split at h
           · cases h
           · split at h
             · simp only [Option.some.injEq] at h; subst h; rfl
             · cases h)
        | (split at h
           · simp only [Option.some.injEq] at h; subst h; rfl
           · cases h)
        | cases h

/-- The value of cells of a shape. -/
def valT (ts : TS) (cs : List Value) : Value :=
  match ts with
  | .agg _ => .agg cs.toArray
  | .arr .. => .agg cs.toArray
  | _ => cs.headD undef

section eq
variable {w : World} {F : Nat → Prop}

theorem eqT_agg {ts : TS} {x y : AV} {b : Bool} (h : eqT ts x y = some b) : x.isAgg = ts.isAgg ∧ y.isAgg = x.isAgg := by
  unfold eqT at h
  split at h <;> first | exact ⟨rfl, rfl⟩ | cases h

theorem valT_part {ts : TS} {x y : AV} {b : Bool} {cs : List Value} {ρ : Nat → Option Loc} (h : eqT ts x y = some b) (hx : RelC w F ρ x cs) :
    ts.isAgg = false → ∃ v, cs = [v] := fun h0 => hx.single ((eqT_agg h).1.trans h0)

theorem valT_eq (ts : TS) (cs : List Value) : (if ts.isAgg = true then Value.agg cs.toArray else cs.headD undef) = valT ts cs := by
  cases ts <;> rfl

theorem eqT_sym {ts : TS} {x y : AV} {b : Bool} {cs : List Value} {ρ : Nat → Option Loc} (h : eqT ts x y = some b) (hy : RelC w F ρ y cs) :
    ts.isAgg = false → ∃ v, cs = [v] := fun h0 => hy.single ((eqT_agg h).2.trans ((eqT_agg h).1.trans h0))

def EqRun (P : Program) (w : World) (F : Nat → Prop) (k d : Nat) : Prop :=
  ∀ (t : TypeId) (ts : TS), shapeT P k t = some ts → ∀ (ρ ρ' : Nat → Option Loc) (x y : AV) (b : Bool) (cs ds : List Value), eqT ts x y = some b → RelC w F ρ x cs → RelC w F ρ' y ds →
    (Op.equalIn d t (valT ts cs) (valT ts ds)).run P w = .ok b w

theorem forFields {d : Nat} : ∀ (k : Nat) (o : Nat) (fs : List Field) (l : List (Nat × TS)) (pre pre' : List Value) (ts us : List AV) (b : Bool) (cs ds : List Value) (ρ ρ' : Nat → Option Loc), (∀ j, j < k → EqRun P w F j d) →
    shapeFs P k o fs = some l → eqTs l ts us = some b → RelL w F ρ ts cs → RelL w F ρ' us ds → pre.length = o → pre'.length = o →
    (forIn fs ((none, ()) : Option Bool × Unit) fun (f : Field) _ =>
      if f.name = "_" then pure (ForInStep.yield ((none, ()) : Option Bool × Unit))
      else do
        let a ← part f.type (pre ++ cs).toArray f.offset
        let c ← part f.type (pre' ++ ds).toArray f.offset
        let r ← Op.equalIn d f.type a c
        if r = false then pure (ForInStep.done ((some false, ()) : Option Bool × Unit)) else pure (ForInStep.yield ((none, ()) : Option Bool × Unit))).run P w =
      .ok (if b then (none, ()) else (some false, ())) w := by
  intro k
  induction k with
  | zero =>
    intro o fs l pre pre' ts us b cs ds ρ ρ' hE hs he h1 h2 hp hp'
    cases fs with
    | nil =>
      simp only [shapeFs, Option.some.injEq] at hs
      subst hs
      cases ts <;> cases us <;> simp [eqTs] at he
      subst he
      simp
    | cons f fs => simp [shapeFs] at hs
  | succ k ih =>
    intro o fs l pre pre' ts us b cs ds ρ ρ' hE hs he h1 h2 hp hp'
    cases fs with
    | nil =>
      simp only [shapeFs, Option.some.injEq] at hs
      subst hs
      cases ts <;> cases us <;> simp [eqTs] at he
      subst he
      simp
    | cons f fs =>
      simp only [shapeFs] at hs
      split at hs
      · cases hs
      · rename_i hno
        split at hs
        · rename_i s n hsh hsz
          split at hs
          · rename_i l' hl'
            simp only [Option.some.injEq] at hs
            subst hs
            cases ts with
            | nil => cases us <;> simp [eqTs] at he
            | cons t ts =>
              cases us with
              | nil => simp [eqTs] at he
              | cons u us =>
                simp only [eqTs] at he
                split at he
                · rename_i hsize
                  split at he
                  · rename_i b1 b2 hb1 hb2
                    simp only [Option.some.injEq] at he
                    subst he
                    cases h1 with
                    | cons h1a h1b =>
                      cases h2 with
                      | cons h2a h2b =>
                        rename_i c cs' e ds'
                        have hname : ¬ f.name = "_" := fun h => hno (.inl h)
                        have hoff : f.offset = o := by
                          by_cases h : f.offset = o
                          · exact h
                          · exact absurd (.inr h) hno
                        have hc : c.length = n := by rw [h1a.size]; exact hsize.1
                        have hd : e.length = n := by rw [h2a.size]; exact hsize.2
                        have r1 := run_part (P := P) (shapeT_agg hsh) hsz (pre := pre) (post := cs') hc (valT_part hb1 h1a) w
                        have r2 := run_part (P := P) (shapeT_agg hsh) hsz (pre := pre') (post := ds') hd (eqT_sym hb1 h2a) w
                        rw [valT_eq] at r1 r2
                        rw [hp, ← hoff] at r1
                        rw [hp', ← hoff] at r2
                        have r3 := hE k (by omega) f.type s hsh ρ ρ' t u b1 c e hb1 h1a h2a
                        have r4 := ih (o + n) fs l' (pre ++ c) (pre' ++ e) ts us b2 cs' ds' ρ ρ' (fun j hj => hE j (by omega)) hl' hb2 h1b h2b (by simp [hp, hc]) (by simp [hp', hd])
                        simp only [List.append_assoc] at r4
                        cases b1 with
                        | false => simp [hname, r1, r2, r3]
                        | true => simp [hname, r1, r2, r3]; simpa using r4
                  · cases he
                · cases he
          · cases hs
        · cases hs

theorem forElems {d n es : Nat} {e : TypeId} {s : TS} {k : Nat} (hE : EqRun P w F k d) (hsh : shapeT P k e = some s) (hsz : szT P e = some es) :
    ∀ (m i : Nat) (pre pre' : List Value) (ts us : List AV) (b : Bool) (cs ds : List Value), eqTe s ts us = some b → ts.length = m → RelE w F es ts cs → RelE w F es us ds → pre.length = i * es → pre'.length = i * es →
    (forIn (List.range' i m) ((none, ()) : Option Bool × Unit) fun j _ => do
        let a ← part e (pre ++ cs).toArray (j * es)
        let c ← part e (pre' ++ ds).toArray (j * es)
        let r ← Op.equalIn d e a c
        if r = false then pure (ForInStep.done ((some false, ()) : Option Bool × Unit)) else pure (ForInStep.yield ((none, ()) : Option Bool × Unit))).run P w =
      .ok (if b then (none, ()) else (some false, ())) w := by
  intro m
  induction m with
  | zero =>
    intro i pre pre' ts us b cs ds he hl h1 h2 hp hp'
    have : ts = [] := List.eq_nil_of_length_eq_zero hl
    subst this
    cases us <;> simp [eqTe] at he
    subst he
    simp
  | succ m ih =>
    intro i pre pre' ts us b cs ds he hl h1 h2 hp hp'
    cases ts with
    | nil => simp at hl
    | cons t ts =>
      cases us with
      | nil => simp [eqTe] at he
      | cons u us =>
        simp only [eqTe] at he
        split at he
        · rename_i b1 b2 hb1 hb2
          simp only [Option.some.injEq] at he
          subst he
          cases h1 with
          | cons h1a h1s h1b =>
            cases h2 with
            | cons h2a h2s h2b =>
              rename_i c cs' g ds'
              have r1 := run_part (P := P) (shapeT_agg hsh) hsz (pre := pre) (post := cs') h1s (valT_part hb1 h1a) w
              have r2 := run_part (P := P) (shapeT_agg hsh) hsz (pre := pre') (post := ds') h2s (eqT_sym hb1 h2a) w
              rw [valT_eq] at r1 r2
              rw [hp] at r1
              rw [hp'] at r2
              have r3 := hE e s hsh noIds noIds t u b1 c g hb1 h1a h2a
              have r4 := ih (i + 1) (pre ++ c) (pre' ++ g) ts us b2 cs' ds' hb2 (by simpa using hl) h1b h2b (by simp [hp, h1s, Nat.add_mul]) (by simp [hp', h2s, Nat.add_mul])
              simp only [List.append_assoc] at r4
              rw [List.range'_succ]
              cases b1 with
              | false => simp [r1, r2, r3]
              | true => simp [r1, r2, r3]; simpa using r4
        · cases he

theorem eq_run : ∀ (k d : Nat), k ≤ d → EqRun P w F k d := by
  intro k
  induction k using Nat.strongRecOn with
  | _ k ih =>
    intro d hd t ts hsh ρ ρ' x y b cs ds he hx hy
    cases k with
    | zero => simp [shapeT] at hsh
    | succ k =>
      obtain ⟨d, rfl⟩ : ∃ m, d = m + 1 := ⟨d - 1, by omega⟩
      unfold shapeT at hsh
      split at hsh
      · rename_i j hu
        simp only [Option.some.injEq] at hsh
        subst hsh
        unfold eqT at he
        split at he <;> try (simp_all; done)
        rename_i k1 a1 k2 a2 heq
        split at he
        · rename_i hk
          simp only [Option.some.injEq] at he
          subst he
          cases hx
          cases hy
          have e : (a1 == a2) = decide (a1 = a2) := by by_cases h : a1 = a2 <;> simp [h]
          simp [valT, Op.equalIn, run_underlying hu, hk, e]
        · cases he
      · rename_i hu
        simp only [Option.some.injEq] at hsh
        subst hsh
        unfold eqT at he
        split at he <;> try (simp_all; done)
        simp only [Option.some.injEq] at he
        subst he
        cases hx
        cases hy
        simp [valT, Op.equalIn, run_underlying hu]
      · rename_i fs hu
        split at hsh
        · cases hsh
        · rename_i hst
          split at hsh
          · rename_i l hl
            simp only [Option.some.injEq] at hsh
            subst hsh
            unfold eqT at he
            split at he <;> try (simp_all; done)
            rename_i l' n1 ts1 n2 us1 heq
            simp only [TS.agg.injEq] at heq
            subst heq
            cases hx with
            | agg hx1 hx2 =>
              cases hy with
              | agg hy1 hy2 =>
                have := forFields (P := P) (w := w) (F := F) (d := d) k 0 fs.toList l [] [] ts1 us1 b cs ds ρ ρ' (fun j hj => ih j (by omega) d (by omega)) hl he hx1 hy1 rfl rfl
                simp only [List.nil_append] at this
                rw [Array.forIn_toList] at this
                have hst' : P.stoodInHeld t = false := by simpa using hst
                simp only [valT, Op.equalIn, Sem.run_bind, run_underlying hu]
                simp [hst']
                rw [this]
                cases b <;> simp
          · cases hsh
      · rename_i n e hu
        split at hsh
        · rename_i s es hs hsz
          simp only [Option.some.injEq] at hsh
          subst hsh
          unfold eqT at he
          split at he <;> try (simp_all; done)
          rename_i n1 es1 s1 n2 es2 ts1 n3 es3 us1 heq
          simp only [TS.arr.injEq] at heq
          obtain ⟨rfl, rfl, rfl⟩ := heq
          split at he
          · rename_i hc
            obtain ⟨rfl, rfl, hc1, hc2⟩ := hc
            cases hx with
            | arr hx1 hx2 =>
              cases hy with
              | arr hy1 hy2 =>
                have := forElems (P := P) (w := w) (F := F) (d := d) (n := n) (ih k (by omega) d (by omega)) hs hsz n 0 [] [] ts1 us1 b cs ds he hc1 hx1 hy1 (by simp) (by simp)
                simp only [List.nil_append] at this
                unfold szT at hsz
                cases hi : P.info? e with
                | none => rw [hi] at hsz; simp at hsz
                | some i =>
                  rw [hi] at hsz
                  simp only [Option.map_some, Option.some.injEq] at hsz
                  simp only [valT, Op.equalIn, Sem.run_bind, run_underlying hu]
                  simp [sizeOf, typeInfo, hi, hsz]
                  rw [this]
                  cases b <;> simp
          · cases he
        · cases hsh
      · cases hsh
end eq
end
end Go.Ra
