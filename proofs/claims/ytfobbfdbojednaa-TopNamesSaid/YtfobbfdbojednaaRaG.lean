/- Each abstract operation is sound: the rest of those that only compute. -/
import Derived.Test.YtfobbfdbojednaaRaF
namespace Go.Ra
set_option linter.unusedVariables false
set_option linter.unusedSimpArgs false
section
variable {P : Program}

theorem Reads.bound {w : World} {b o : Nat} {cs : List Value} {cur : Array Value} {e : TypeId} (h : Reads w b o cs) (hb : w.heap[b]? = some (Obj.cells cur e (0, 0))) (hne : cs ≠ []) : o + cs.length ≤ cur.size := by
  have hlt : cs.length - 1 < cs.length := by have := List.length_pos_iff.2 hne; omega
  have := h (cs.length - 1) _ (List.getElem?_eq_getElem hlt)
  simp only [World.cell?, hb] at this
  have := (Array.getElem?_eq_some_iff.1 this).1
  omega

theorem sp_aslice {t : TypeId} {n : Nat} {i : TypeInfo} {x : Operand} {x' : AX} {lo hi : Option Operand} {lo' hi' : Option AX} (ht : arrT P t = some (n, i)) (hx : trX x = some x') (hlo : trXo lo = some lo') (hhi : trXo hi = some hi') :
    SoundP P (.slice t x lo hi none) (.aslice n i.size x' lo' hi') := by
  intro σ σ' v hs
  obtain ⟨e, hu, hi2⟩ := arrT_inv ht
  simp only [stepE] at hs
  split at hs
  · rename_i id path off hv
    split at hs
    · rename_i l h tt hb hH2
      split at hs
      · rename_i o n' es' ts' hat
        split at hs
        · rename_i hc
          obtain ⟨rfl, rfl, rfl, hpos⟩ := hc
          simp only [Option.some.injEq, Prod.mk.injEq] at hs
          obtain ⟨rfl, rfl⟩ := hs
          refine ⟨rfl, fun oper G w H U a ho hw hr hH => ?_⟩
          have h1 := hr x x' (by simp [Op.operands]) hx
          rw [hv] at h1
          obtain ⟨b, o', h2, h3⟩ := h1.ptr_inv
          obtain ⟨l1, l2⟩ := trXo_rel (σ := σ) (G := G) (w := w) (a := a) hlo (fun y y' hy => hr y y' (by simp [Op.operands]; cases lo <;> simp at hy ⊢; exact .inr (.inl hy.symm)))
          obtain ⟨r1, r2⟩ := trXo_rel (σ := σ) (G := G) (w := w) (a := a) hhi (fun y y' hy => hr y y' (by simp [Op.operands]; cases hi <;> simp at hy ⊢; exact .inr (.inr hy.symm)))
          obtain ⟨hrun, hlh, hhl⟩ := bounds_run (P := P) false hb (Nat.le_refl n') l1 l2 r1 r2
          obtain ⟨cs, cur, e1, h4, h5, h6, h7⟩ := hw.place h2 (hH _ _ hH2)
          obtain ⟨pre, mid, post, rfl, hp, hm, _⟩ := h4.at path hat
          refine ⟨.slice (if n' = l then some ⟨b, o' + o, none⟩ else some (Addr.add ⟨b, o' + o, none⟩ (l * i.size))) (h - l) (n' - l), ?_, .one ?_ rfl⟩
          · simp only [execOp, ho, h3]
            refine run_val ?_
            simp only [Instr.sliceAt, Sem.run_bind, run_underlying hu, Instr.sureAddr]
            simp [hrun, sizeOf, typeInfo, hi2]
            split <;> rfl
          · by_cases hcl : n' = l
            · have : h = l := by omega
              subst this
              rw [hcl, Nat.sub_self]
              exact .sl0
            · rw [if_neg hcl, add_lit, Nat.add_assoc]
              refine .sl h2 (by omega) h5 ?_
              have hms := hm.size
              simp only [AV.size] at hms
              by_cases hz : mid = []
              · subst hz
                simp only [List.length_nil] at hms
                have := Nat.mul_pos (show 0 < n' by omega) hpos
                omega
              · have hb2 := h6.sub.bound h5 hz
                have e2 : l * i.size + (n' - l) * i.size = n' * i.size := by rw [← Nat.add_mul]; congr 1; omega
                omega
        · cases hs
      · cases hs
    · cases hs
  · rename_i n1 es1 ts hv
    split at hs
    · rename_i l h hb
      split at hs
      · rename_i hc
        obtain ⟨rfl, rfl⟩ := hc
        simp only [Option.some.injEq, Prod.mk.injEq] at hs
        obtain ⟨rfl, rfl⟩ := hs
        refine ⟨rfl, fun oper G w H U a ho hw hr hH => ?_⟩
        have h1 := hr x x' (by simp [Op.operands]) hx
        rw [hv] at h1
        obtain ⟨b, o, cs, h3, h4, h5, h6⟩ := h1.fptr_inv
        obtain ⟨l1, l2⟩ := trXo_rel (σ := σ) (G := G) (w := w) (a := a) hlo (fun y y' hy => hr y y' (by simp [Op.operands]; cases lo <;> simp at hy ⊢; exact .inr (.inl hy.symm)))
        obtain ⟨r1, r2⟩ := trXo_rel (σ := σ) (G := G) (w := w) (a := a) hhi (fun y y' hy => hr y y' (by simp [Op.operands]; cases hi <;> simp at hy ⊢; exact .inr (.inr hy.symm)))
        obtain ⟨hrun, hlh, hhl⟩ := bounds_run (P := P) false hb (Nat.le_refl n1) l1 l2 r1 r2
        cases h4 with
        | arr h7 h8 =>
          refine ⟨.slice (if n1 = l then some ⟨b, o, none⟩ else some (Addr.add ⟨b, o, none⟩ (l * i.size))) (h - l) (n1 - l), ?_, .one ?_ rfl⟩
          · simp only [execOp, ho, h3]
            refine run_val ?_
            simp only [Instr.sliceAt, Sem.run_bind, run_underlying hu, Instr.sureAddr]
            simp [hrun, sizeOf, typeInfo, hi2]
            split <;> rfl
          · refine fro_cut h7 h5 h6 hlh (by omega) (by omega) _ (fun hlt => ?_)
            rw [if_neg (by omega), add_lit]
      · cases hs
    · cases hs
  · cases hs

/-! ### structs -/

theorem foldl_set (off : Nat) : ∀ (vs : List Value) (k : Nat) (cs : List Value), off + k + vs.length ≤ cs.length →
    ((vs.zipIdx k).foldl (fun (cs : Array Value) (p : Value × Nat) => cs.setIfInBounds (off + p.2) p.1) cs.toArray) = (cs.take (off + k) ++ (vs ++ cs.drop (off + k + vs.length))).toArray
  | [], k, cs, h => by simp
  | v :: vs, k, cs, h => by
    simp only [List.zipIdx_cons, List.foldl_cons, List.length_cons] at h ⊢
    have hlt : off + k < cs.length := by omega
    have e : cs.toArray.setIfInBounds (off + k) v = (cs.set (off + k) v).toArray := by simp
    rw [e, foldl_set off vs (k + 1) (cs.set (off + k) v) (by simp; omega)]
    congr 1
    rw [List.set_eq_take_append_cons_drop, if_pos hlt]
    have h1 : (cs.take (off + k)).length = off + k := by simp; omega
    have e1 : (cs.take (off + k) ++ v :: cs.drop (off + k + 1)).take (off + (k + 1)) = cs.take (off + k) ++ [v] := by
      rw [List.take_append, h1, show off + (k + 1) - (off + k) = 1 by omega, List.take_of_length_le (by omega)]
      simp
    have e2 : (cs.take (off + k) ++ v :: cs.drop (off + k + 1)).drop (off + (k + 1) + vs.length) = cs.drop (off + k + (vs.length + 1)) := by
      rw [List.drop_append, h1, List.drop_of_length_le (by omega), List.nil_append, show off + (k + 1) + vs.length - (off + k) = vs.length + 1 by omega, List.drop_succ_cons, List.drop_drop]
      congr 1; omega
    rw [e1, e2]
    simp

/-- One part laid into a row of cells. -/
theorem fill_one {place : Nat → Option (Nat × Nat)} {i off : Nat} {v : Value} {rest : List (Nat × Value)} {pre mid post : List Value} (hp : place i = some (off, v.cells.size)) (hoff : pre.length = off) (hm : mid.length = v.cells.size) :
    Instr.fill place (pre ++ (mid ++ post)).toArray ((i, v) :: rest) = Instr.fill place (pre ++ (v.cells.toList ++ post)).toArray rest := by
  simp only [Instr.fill, hp]
  have key : (v.cells.zipIdx.foldl (fun cs (x : Value × Nat) => cs.setIfInBounds (off + x.2) x.1) (pre ++ (mid ++ post)).toArray) = (pre ++ (v.cells.toList ++ post)).toArray := by
    have := foldl_set off v.cells.toList 0 (pre ++ (mid ++ post)) (by simp; omega)
    rw [← Array.foldl_toList, Array.toList_zipIdx, this]
    congr 1
    have h1 : (pre ++ (mid ++ post)).take (off + 0) = pre := by rw [Nat.add_zero, ← hoff]; simp
    have h2 : (pre ++ (mid ++ post)).drop (off + 0 + v.cells.toList.length) = post := by
      have e : off + 0 + v.cells.toList.length = (pre ++ mid).length := by simp; omega
      rw [e, ← List.append_assoc, List.drop_left]
    rw [h1, h2]
  split
  · rename_i h
    simp at h
    omega
  · rw [← key]


theorem sizes_append : ∀ (a b : List AV), sizes (a ++ b) = sizes a + sizes b
  | [], b => by simp [sizes]
  | t :: a, b => by simp [sizes, sizes_append a b, Nat.add_assoc]

theorem split_at {α : Type} {l : List α} {i : Nat} {z : α} (h : l[i]? = some z) : l = l.take i ++ (z :: l.drop (i + 1)) := by
  obtain ⟨hi, rfl⟩ := List.getElem?_eq_some_iff.1 h
  rw [← List.drop_eq_getElem_cons hi, List.take_append_drop]

def Places (place : Nat → Option (Nat × Nat)) (zs : List AV) : Prop := ∀ i z, zs[i]? = some z → place i = some (sizes (zs.take i), z.size)

theorem Places.set {place : Nat → Option (Nat × Nat)} {zs : List AV} (h : Places place zs) {i : Nat} {z v : AV} (hz : zs[i]? = some z) (hv : v.size = z.size) : Places place (zs.set i v) := by
  intro j y hj
  have hi : i < zs.length := (List.getElem?_eq_some_iff.1 hz).1
  have hsz : ∀ j, sizes ((zs.set i v).take j) = sizes (zs.take j) := by
    intro j
    rw [List.take_set]
    by_cases hij : i < j
    · have hz' : (zs.take j)[i]? = some z := by rw [List.getElem?_take]; simp [hij, hz]
      rw [set_split hz', sizes_append]
      have : zs.take j = (zs.take j).take i ++ (z :: (zs.take j).drop (i + 1)) := split_at hz'
      conv => rhs; rw [this]
      rw [sizes_append]
      simp [sizes, hv]
    · rw [List.set_eq_of_length_le (by simp; omega)]
  rw [hsz]
  by_cases hji : j = i
  · subst hji
    rw [List.getElem?_set_self hi] at hj
    simp only [Option.some.injEq] at hj
    subst hj
    rw [hv]; exact h j z hz
  · rw [List.getElem?_set_ne (Ne.symm hji)] at hj
    exact h j y hj

theorem fill_parts {w : World} {G : Gh} {σ : St} {a : Act} {place : Nat → Option (Nat × Nat)} : ∀ {parts : List (Nat × Operand)} {ps : List (Nat × AX)} {zs ts : List AV} {cs : List Value}, trParts parts = some ps →
    (∀ x x', x ∈ parts.map (·.2) → trX x = some x' → RelV w G.F G.ρ (σ.ev x') (a.eval x)) → partsA zs (ps.map fun p => (p.1, σ.ev p.2)) = some ts → Places place zs → RelL w G.F G.ρ zs cs →
    ∃ cs', Instr.fill place cs.toArray (parts.map fun p => (p.1, a.eval p.2)) = some cs'.toArray ∧ RelL w G.F G.ρ ts cs' ∧ cs'.length = cs.length
  | [], ps, zs, ts, cs, ht, hr, hp, hpl, hl => by
    simp only [trParts, Option.some.injEq] at ht
    subst ht
    simp only [List.map_nil, partsA, Option.some.injEq] at hp
    subst hp
    exact ⟨cs, by simp [Instr.fill], hl, rfl⟩
  | (i, x) :: parts, ps, zs, ts, cs, ht, hr, hp, hpl, hl => by
    simp only [trParts] at ht
    split at ht
    · rename_i x' ps' hx hps
      simp only [Option.some.injEq] at ht
      subst ht
      simp only [List.map_cons, partsA] at hp
      split at hp
      · rename_i z hz
        split at hp
        · rename_i hc
          have hv := hr x x' (by simp) hx
          have hvc := hv.cells hc.2.1
          obtain ⟨pre, mid, post, rfl, hpre, hm, hl1, hl2⟩ := hl.nth hz
          have hplace := hpl i z hz
          have hsz : (a.eval x).cells.toList.length = z.size := by rw [hvc.size]; exact hc.1
          have hsz' : (a.eval x).cells.size = z.size := by simpa using hsz
          have h1 := fill_one (place := place) (i := i) (off := sizes (zs.take i)) (v := a.eval x) (rest := parts.map fun p => (p.1, a.eval p.2)) (pre := pre) (mid := mid) (post := post) (by rw [hplace, hsz']) hpre (by rw [hm.size, hsz'])
          have hl' : RelL w G.F G.ρ (zs.set i (σ.ev x')) (pre ++ ((a.eval x).cells.toList ++ post)) := by
            rw [set_split hz]; exact hl1.append (.cons hvc hl2)
          obtain ⟨cs', h2, h3, h4⟩ := fill_parts hps (fun y y' hy => hr y y' (by simp at hy ⊢; exact .inr hy)) hp (hpl.set hz hc.1) hl'
          refine ⟨cs', ?_, h3, ?_⟩
          · simp only [List.map_cons]; rw [h1]; exact h2
          · rw [h4]; simp; rw [hsz', ← hm.size]
        · cases hp
      · cases hp
    · cases ht

theorem fieldsOk_inv : ∀ {fs : List Field} {zs : List AV} {o : Nat}, fieldsOk P o fs zs = true → ∃ ss : List (Nat × Nat), (∀ (w : World), (fs.mapM fun f => (do pure (f.offset, ← sizeOf f.type) : Sem (Nat × Nat))).run P w = .ok ss w) ∧ ∀ i z, zs[i]? = some z → ss[i]? = some (o + sizes (zs.take i), z.size)
  | [], [], o, h => ⟨[], fun w => by simp, fun i z hz => by simp at hz⟩
  | [], _ :: _, o, h => by simp [fieldsOk] at h
  | _ :: _, [], o, h => by simp [fieldsOk] at h
  | f :: fs, z :: zs, o, h => by
    simp only [fieldsOk, Bool.and_eq_true, decide_eq_true_eq] at h
    obtain ⟨⟨h1, h2⟩, h3⟩ := h
    split at h2
    · rename_i inf hi
      simp only [decide_eq_true_eq] at h2
      obtain ⟨ss, h4, h5⟩ := fieldsOk_inv h3
      refine ⟨(o, z.size) :: ss, fun w => ?_, fun i y hy => ?_⟩
      · have hsz : ∀ w, (sizeOf f.type).run P w = .ok inf.size w := fun w => by simp [sizeOf, typeInfo, hi]
        rw [List.mapM_cons]
        simp only [Sem.run_bind, hsz, Result.andThen, Sem.run_pure, h4, h1, h2]
      · cases i with
        | zero =>
          simp only [List.getElem?_cons_zero, Option.some.injEq] at hy
          subst hy
          simp [sizes]
        | succ i =>
          simp only [List.getElem?_cons_succ] at hy
          have := h5 i y hy
          simp only [List.getElem?_cons_succ, this, List.take_succ_cons, sizes, Nat.add_assoc]
    · cases h2

theorem sp_build {t : TypeId} {fs : Array Field} {n : Nat} {zs : List AV} {parts : Array (Nat × Operand)} {ps : List (Nat × AX)} (hu : P.underlying t = some (.struct fs)) (hz : zeroT P t = some (.agg n zs)) (hp : trParts parts.toList = some ps) (hf : fieldsOk P 0 fs.toList zs = true) :
    SoundP P (.build t parts) (.build n zs ps) := by
  intro σ σ' v hs
  simp only [stepE] at hs
  split at hs
  · rename_i ts hts
    simp only [Option.some.injEq, Prod.mk.injEq] at hs
    obtain ⟨rfl, rfl⟩ := hs
    refine ⟨rfl, fun oper G w H U a ho hw hr hH => ?_⟩
    obtain ⟨inf, zv, h1, h2, h3, h4⟩ := zeroT_rel hz
    obtain ⟨ss, h5, h6⟩ := fieldsOk_inv hf
    cases (h4 w G.F G.ρ).1 with
    | agg h7 h8 =>
      have hpl : Places (fun i => ss.toArray[i]?) zs := fun i z hz => by
        have := h6 i z hz
        rw [Nat.zero_add] at this
        simpa using this
      obtain ⟨cs', h9, h10, h11⟩ := fill_parts (σ := σ) (a := a) hp (fun x x' hx hx' => hr x x' (by simpa [Op.operands] using hx) hx') hts hpl h7
      refine ⟨.agg cs'.toArray, ?_, .agg (.agg h10 (by rw [h11, h8])) rfl⟩
      simp only [execOp, ho]
      refine run_val ?_
      have e1 : (fs.mapM fun f => (do pure (f.offset, ← sizeOf f.type) : Sem (Nat × Nat))).run P w = .ok ss.toArray w := by
        have : ∀ (x : Sem (List (Nat × Nat))), x.run P w = .ok ss w → (List.toArray <$> x).run P w = .ok ss.toArray w := fun x hx => by simp [hx]
        rw [Array.mapM_eq_mapM_toList]
        exact this _ (h5 w)
      have e2 : (parts.map fun (x : Nat × Operand) => (x.1, a.eval x.2)).toList = parts.toList.map fun p => (p.1, a.eval p.2) := by simp
      have hz0 : (zeroValue t).run P w = .ok zv w := by simp [zeroValue, typeInfo, h1, h2]
      have e3 : zv.cells = (zv.cells.toList).toArray := by simp
      simp only [Instr.build, Sem.run_bind, hz0, Result.andThen, run_underlying hu, e1]
      rw [e2, e3, h9]
      simp
  · cases hs

theorem foldJ_run (f : Value → Value → Sem Value) (g : Int → Int → Int) (hf : ∀ (k : IntKind) (a b : Int) (w : World), (f (.int k a) (.int k b)).run P w = .ok (.int k (g a b)) w) {w : World} {F : Nat → Prop} {ρ : Nat → Option Loc} {k : IntKind} :
    ∀ {ts : List AV} {us : List Value} {v : AV} {a : Int}, foldJ g k a ts = some v → RelVs w F ρ ts us → ∃ z, (us.foldlM f (.int k a)).run P w = .ok z w ∧ RelV w F ρ v z
  | [], us, v, a, h, hr => by
    cases hr
    simp only [foldJ, Option.some.injEq] at h
    subst h
    exact ⟨.int k a, by simp, .one (.sc rfl) rfl⟩
  | t :: ts, us, v, a, h, hr => by
    cases hr with
    | cons h1 h2 =>
      rename_i u us
      unfold foldJ at h
      split at h
      · rename_i heq; cases heq
      · rename_i k' b l heq
        simp only [List.cons.injEq] at heq
        obtain ⟨rfl, rfl⟩ := heq
        split at h
        · rename_i hk
          subst hk
          obtain ⟨rfl, _⟩ := h1.sc_inv
          obtain ⟨z, hz, hz2⟩ := foldJ_run f g hf h h2
          refine ⟨z, ?_, hz2⟩
          simp only [List.foldlM_cons, Sem.run_bind, hf]
          simpa using hz
        · cases h
      · cases h

theorem foldI_run (f : Value → Value → Sem Value) (g : Int → Int → Int) (hf : ∀ (k : IntKind) (a b : Int) (w : World), (f (.int k a) (.int k b)).run P w = .ok (.int k (g a b)) w) {w : World} {F : Nat → Prop} {ρ : Nat → Option Loc}
    {ts : List AV} {vs : List Value} {v : AV} (h : foldI g ts = some v) (hr : RelVs w F ρ ts vs) :
      ∃ u us, vs = u :: us ∧ ∃ z, (us.foldlM f u).run P w = .ok z w ∧ RelV w F ρ v z := by
  unfold foldI at h
  split at h
  · cases hr with
    | cons h1 h2 =>
      obtain ⟨rfl, _⟩ := h1.sc_inv
      exact ⟨_, _, rfl, foldJ_run f g hf h h2⟩
  · cases h

theorem sp_max {oper0 : Call} {xs' : List AX} (hc : oper0.callee = .builtin .max) (hx : trXs oper0.args.toList = some xs') : SoundP P (.call oper0) (.max xs') := by
  intro σ σ' v hs
  simp only [stepE] at hs
  split at hs
  · rename_i u hu
    simp only [Option.some.injEq, Prod.mk.injEq] at hs
    obtain ⟨rfl, rfl⟩ := hs
    refine ⟨rfl, fun oper G w H U a ho hw hr hH => ?_⟩
    have h1 := RelVs.of_tr (σ := σ) (G := G) (w := w) (a := a) hx fun x x' hx hx' => hr x x' (by simp [Op.operands, Call.operands, hc]; simpa using hx) hx'
    obtain ⟨z, zs, h2, y, h3, h4⟩ := foldI_run (P := P) Builtin.max2 (fun a b => if b > a then b else a) (fun k a b w => by simp [Builtin.max2]) hu h1
    refine ⟨y, ?_, h4⟩
    have e : (oper0.args.map a.eval).toList = z :: zs := by rw [Array.toList_map]; exact h2
    simp [execOp, ho, resolve, hc, invoke, builtin, Builtin.max_, h2, h3]
  · cases hs
theorem sp_min {oper0 : Call} {xs' : List AX} (hc : oper0.callee = .builtin .min) (hx : trXs oper0.args.toList = some xs') : SoundP P (.call oper0) (.min xs') := by
  intro σ σ' v hs
  simp only [stepE] at hs
  split at hs
  · rename_i u hu
    simp only [Option.some.injEq, Prod.mk.injEq] at hs
    obtain ⟨rfl, rfl⟩ := hs
    refine ⟨rfl, fun oper G w H U a ho hw hr hH => ?_⟩
    have h1 := RelVs.of_tr (σ := σ) (G := G) (w := w) (a := a) hx fun x x' hx hx' => hr x x' (by simp [Op.operands, Call.operands, hc]; simpa using hx) hx'
    obtain ⟨z, zs, h2, y, h3, h4⟩ := foldI_run (P := P) Builtin.min2 (fun a b => if b < a then b else a) (fun k a b w => by simp [Builtin.min2]) hu h1
    refine ⟨y, ?_, h4⟩
    simp [execOp, ho, resolve, hc, invoke, builtin, Builtin.min_, h2, h3]
  · cases hs

/-- The elements of a slice value, in memory. -/
theorem row_rel {σ : St} {G : Gh} {w : World} {H : Nat → Option AV} {U : Nat → Prop} (hw : Wf G w H U) (hH : ∀ k t, σ.H k = some t → H k = some t) {es : Nat} {x : AV} {ts : List AV} {v : Value} (h : σ.row es x = some ts) (hr : RelV w G.F G.ρ x v) :
    ∃ ad cap, v = .slice ad ts.length cap ∧ ts.length ≤ cap ∧ (ts = [] ∨ ∃ b o cs, ad = some ⟨b, o, none⟩ ∧ RelE w G.F es ts cs ∧ Reads w b o cs) := by
  unfold St.row at h
  split at h
  · split at h
    · rename_i hes
      simp only [Option.some.injEq] at h
      subst h
      obtain ⟨ad, cap, h1, h2, h3, h4⟩ := hr.fro_inv
      refine ⟨ad, cap, h1, h2, ?_⟩
      rcases h4 with h4 | ⟨b, o, cs, h5, h6, h7, h8⟩
      · exact .inl h4
      · rcases hes with rfl | hes
        · exact .inr ⟨b, o, cs, h5, h6, h7⟩
        · exact .inl hes
    · cases h
  · rename_i id path off k len es2
    split at h
    · rename_i h0
      simp only [Option.some.injEq] at h
      subst h
      obtain ⟨ad, cap, h1, h2, h3⟩ := hr.sl_inv
      exact ⟨ad, cap, by rw [h1, h0]; rfl, Nat.zero_le _, .inl rfl⟩
    split at h
    · rename_i t ht
      split at h
      · rename_i o n es' ts' hat
        split at h
        · rename_i hc
          obtain ⟨rfl, rfl, hc⟩ := hc
          simp only [Option.some.injEq] at h
          subst h
          obtain ⟨ad, cap, h1, h2, h3⟩ := hr.sl_inv
          have hl : ((ts'.drop k).take len).length = len := by simp; omega
          refine ⟨ad, cap, by rw [hl]; exact h1, by rw [hl]; exact h2, ?_⟩
          rcases h3 with ⟨h3, h4⟩ | ⟨b, o', cur, e, h4, h5, h6, h7⟩
          · exact .inl (by rw [h3]; simp)
          · obtain ⟨cs, c1, e1, h8, h9, h10, h11⟩ := hw.place h5 (hH _ _ ht)
            obtain ⟨pre, mid, post, rfl, hp, hm, _⟩ := h8.at path hat
            cases hm with
            | arr hm1 hm2 =>
              refine .inr ⟨b, o' + off, (mid.drop (k * es')).take (len * es'), h4, (hm1.drop k).take len, ?_⟩
              have hsub := (h10.sub.drop (k * es')).take (len * es')
              rw [hc.1, ← hp, ← Nat.add_assoc]
              exact hsub
        · cases h
      · cases h
    · cases h
  · cases h

theorem bytesOf_cells {w : World} {F : Nat → Prop} : ∀ {ts : List AV} {es : Nat} {cs : List Value} {l : List UInt8}, bytesOf ts = some l → RelE w F es ts cs →
    ∃ ns : List Int, cs = ns.map (fun n => Value.int .u8 n) ∧ l = ns.map (fun n => UInt8.ofNat n.toNat) ∧ (ts ≠ [] → es = 1) ∧ ts.length = ns.length
  | [], es, cs, l, h, hr => by
    cases hr
    simp only [bytesOf, Option.some.injEq] at h
    subst h
    exact ⟨[], rfl, rfl, fun h => absurd rfl h, rfl⟩
  | t :: ts, es, cs, l, h, hr => by
    cases hr with
    | cons h1 h0 h2 =>
      unfold bytesOf at h
      split at h
      · rename_i heq; cases heq
      · rename_i n l' heq
        simp only [List.cons.injEq] at heq
        obtain ⟨rfl, rfl⟩ := heq
        split at h
        · rename_i r hr'
          simp only [Option.some.injEq] at h
          subst h
          obtain ⟨ns, rfl, rfl, _, h5⟩ := bytesOf_cells hr' h2
          cases h1
          exact ⟨n :: ns, rfl, rfl, fun _ => by simpa using h0.symm, by simp [h5]⟩
        · cases h
      · cases h

theorem run_push {w : World} (φ : Value → ByteArray → Sem (ForInStep ByteArray)) (hφ : ∀ (n : Int) (r : ByteArray), φ (.int .u8 n) r = pure (ForInStep.yield (r.push (UInt8.ofNat n.toNat)))) : ∀ (ns : List Int) (s : ByteArray),
    Sem.run P (forIn (ns.map fun n => Value.int .u8 n) s φ) w = Result.ok ⟨(s.data.toList ++ ns.map fun n => UInt8.ofNat n.toNat).toArray⟩ w
  | [], s => by simp
  | n :: ns, s => by
    have := run_push (w := w) φ hφ ns (s.push (UInt8.ofNat n.toNat))
    simp only [List.map_cons, List.forIn_cons, hφ]
    simp only [Sem.run_bind, Sem.run_pure, Result.andThen]
    rw [this]
    congr 3
    simp [ByteArray.push]

theorem sp_b2s {src dst e : TypeId} {x : Operand} {x' : AX} (h1 : P.underlying src = some (.slice e)) (h2 : P.underlying dst = some .string) (h3 : P.underlying e = some (.int .u8)) (hx : trX x = some x') : SoundP P (.convert src dst x) (.b2s x') := by
  intro σ σ' v hs
  simp only [stepE] at hs
  split at hs
  · rename_i ts hrow
    split at hs
    · rename_i l hl
      simp only [Option.some.injEq, Prod.mk.injEq] at hs
      obtain ⟨rfl, rfl⟩ := hs
      refine ⟨rfl, fun oper G w H U a ho hw hr hH => ?_⟩
      obtain ⟨ad, cap, h4, h5, h6⟩ := row_rel hw hH hrow (hr x x' (by simp [Op.operands]) hx)
      refine ⟨.string ⟨l.toArray⟩, ?_, .one (.sc rfl) rfl⟩
      have hconv : (Conv.bytesToString (.slice ad ts.length cap)).run P w = .ok (.string ⟨l.toArray⟩) w := by
        rcases h6 with rfl | ⟨b, o, cs, rfl, h7, h8⟩
        · simp only [bytesOf, Option.some.injEq] at hl
          subst hl
          cases ad with
          | none => simp [Conv.bytesToString]; rfl
          | some ad => simp [Conv.bytesToString, loadCells, loadCellsFrom]; rfl
        · obtain ⟨ns, rfl, rfl, h9, h10⟩ := bytesOf_cells hl h7
          have hcells : (loadCells ⟨b, o, none⟩ ts.length).run P w = .ok (ns.map fun n => Value.int .u8 n).toArray w := by
            have := run_loadCells_list (P := P) w ⟨b, o, none⟩ (ns.map fun n => Value.int .u8 n) (fun j v hj => by rw [add_lit]; exact h8 j v hj)
            rwa [List.length_map, ← h10] at this
          simp only [Conv.bytesToString, Sem.run_bind, hcells, Result.andThen]
          rw [← Array.forIn_toList]
          simp only [List.toList_toArray]
          rw [run_push _ (fun n r => rfl) ns ByteArray.empty]
          simp
      simp only [execOp, ho, h4]
      refine run_val ?_
      cases ad <;> simp [convert, run_underlying h1, run_underlying h2, run_underlying h3] <;> exact hconv
    · cases hs
  · cases hs
end
end Go.Ra
