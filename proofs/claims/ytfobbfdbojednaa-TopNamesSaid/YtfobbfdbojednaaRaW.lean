/- Operations over values whose rows are functions. -/
import Derived.Test.YtfobbfdbojednaaRaV
namespace Go.Ra
set_option linter.unusedVariables false
set_option linter.unusedSimpArgs false

/-- What an operation looks at. -/
def opnds : AOp → List AX
  | .mv x => [x]
  | .pick c a b => [c, a, b]
  | .box x => [x]
  | .build _ _ ps => ps.map (·.2)
  | .bsl _ xs => xs
  | .barr _ _ xs => xs
  | .load _ _ x => [x]
  | .store _ x v => [x, v]
  | .nilck x => [x]
  | .bin _ x y => [x, y]
  | .eqs _ _ x y => [x, y]
  | .eqn _ x => [x]
  | .un _ x => [x]
  | .conv _ x => [x]
  | .b2s x => [x]
  | .slice _ x lo hi => x :: (lo.toList ++ hi.toList)
  | .aslice _ _ x lo hi => x :: (lo.toList ++ hi.toList)
  | .fadr _ _ _ x => [x]
  | .iadr _ _ x i => [x, i]
  | .ext x _ => [x]
  | .mkf _ cs => cs
  | .mks _ _ _ x => [x]
  | .app _ _ s x => [s, x]
  | .appf _ _ x => [x]
  | .mksf _ _ _ x => [x]
  | .len _ x => [x]
  | .lens x => [x]
  | .copy _ x y => [x, y]
  | .min xs => xs
  | .max xs => xs
  | .call _ xs => xs
  | .callv f xs => f :: xs

/-- An operation that leaves memory alone: what must hold, and what it gives. -/
def stepR (H : List (Nat × Option XV)) (e : AX → XV) : AOp → Option (List Bool × XV)
  | .mv x => some ([], e x)
  | .build n zero parts =>
    match partsX (lifts zero) (parts.map fun p => (p.1, e p.2)) with
    | some ts => some ([], .agg n ts)
    | none => none
  | .barr n es xs => bif (allOkX es (xs.map e) && Nat.beq xs.length n) then some ([], .tab n es (sel (xs.map e))) else none
  | .bsl es xs => bif allOkX es (xs.map e) then some ([], .row true es xs.length (sel (xs.map e))) else none
  | .load ag n x =>
    match loadX H (e x) with
    | some (nd, u) => bif (u.isAgg == ag && Nat.beq u.size n) then some (nd, u) else none
    | none => none
  | .nilck x =>
    match e x with
    | .ptr id p o => some ([], .ptr id p o)
    | .fptr t => some ([], .fptr t)
    | .clo f c => some ([], .clo f c)
    | _ => none
  | .bin op x y => binX op (e x) (e y)
  | .eqs neg ts x y =>
    match eqX ts (e x) (e y) with
    | some b => some ([], .bool (bif neg then !b else b))
    | none => none
  | .eqn neg x =>
    match e x with
    | .row _ _ n _ => some ([], .tri (Nat.beq n 0) neg)
    | .sl _ _ _ _ len _ => some ([], .tri (Nat.beq len 0) neg)
    | _ => none
  | .un op x =>
    match op, e x with
    | .not, .bool b => some ([], .bool (!b))
    | .not, .tri z b => some ([], .tri z (!b))
    | .not, .anyb => some ([], .anyb)
    | .neg, .int k a => some ([], .int k (k.wrap (0 - a)))
    | .xor, .int k a => some ([], .int k (bitsI .xor k (if k.signed then -1 else k.max) a))
    | _, _ => none
  | .conv k x =>
    match e x with
    | .int _ a => some ([], .int k (k.wrap a))
    | _ => none
  | .b2s x =>
    match rowX H 1 (e x) with
    | some (nd, n, f) => some (allN (fun i => isU8 (f i)) n :: nd, .str n (fun i => asN (f i)))
    | none => none
  | .slice es x lo hi =>
    match e x with
    | .row _ es' n f =>
      match boundsX n (lo.map e) (hi.map e) with
      | some (nd, l, h) => bif Nat.beq es' es then some (nd, .row false es (h - l) (fun i => f (pl l i))) else none
      | none => none
    | .sl id path off k len es' =>
      match boundsX len (lo.map e) (hi.map e) with
      | some (nd, l, h) => bif Nat.beq es' es then some (nd, .sl id path (pl off (l * es)) (pl k l) (h - l) es) else none
      | none => none
    | _ => none
  | .aslice n es x lo hi =>
    match e x with
    | .ptr id path off =>
      match boundsX n (lo.map e) (hi.map e), lookX H id with
      | some (nd, l, h), some t =>
        match atx t path 0 with
        | some (nd', o, .tab n' es' _) => bif (Nat.beq n' n && Nat.beq es' es && Nat.blt 0 es) then some (Nat.beq o off :: (nd ++ nd'), .sl id path (pl off (l * es)) l (h - l) es) else none
        | _ => none
      | _, _ => none
    | .fptr (.tab n' es' f) =>
      match boundsX n (lo.map e) (hi.map e) with
      | some (nd, l, h) => bif (Nat.beq es' es && Nat.beq n' n) then some (nd, .row false es (h - l) (fun i => f (pl l i))) else none
      | none => none
    | _ => none
  | .fadr i off n x =>
    match e x with
    | .ptr id path o => some ([], .ptr id (path ++ [i]) (pl o off))
    | .fptr (.agg _ ts) =>
      match nth ts i with
      | some u => bif Nat.beq (sizesX (ts.take i)) off then some ([], .fptr u) else none
      | none => none
    | _ => none
  | .iadr a es x i =>
    match a, e x, asX (e i) with
    | none, .row _ es' n f, some j => bif Nat.beq es' es then some ([decide (0 ≤ j), decide (j < (n : Int))], .fptr (f j.toNat)) else none
    | none, .sl id path off k len es', some j => bif Nat.beq es' es then some ([decide (0 ≤ j), decide (j < (len : Int))], .ptr id (path ++ [pl k j.toNat]) (pl off (j.toNat * es))) else none
    | some n, .ptr id path off, some j => some ([decide (0 ≤ j), decide (j < (n : Int))], .ptr id (path ++ [j.toNat]) (pl off (j.toNat * es)))
    | some n, .fptr (.tab n' es' f), some j => bif (Nat.beq es' es && Nat.beq n' n) then some ([decide (0 ≤ j), decide (j < (n : Int))], .fptr (f j.toNat)) else none
    | _, _, _ => none
  | .ext x i =>
    match e x with
    | .tup vs =>
      match nth vs i with
      | some v => some ([], v)
      | none => none
    | _ => none
  | .mkf f cs => bif capsOkX (cs.map e) then some ([], .clo f (cs.map e)) else none
  | .mksf es bytes zero len =>
    match asX (e len) with
    | some n => bif Nat.blt 0 bytes then some ([decide (0 ≤ n), decide (n.toNat * bytes ≤ 140737488355328)], .row false es n.toNat (fun _ => lift zero)) else none
    | none => none
  | .appf es bytes x =>
    match rowX H es (e x) with
    | some (nd, n, f) => bif Nat.blt 0 bytes then some (decide (n * bytes ≤ 140737488355328) :: nd, .row false es n f) else none
    | none => none
  | .len a x =>
    match a, e x with
    | some n, _ => some ([], .int .i64 n)
    | none, .row _ _ n _ => some ([], .int .i64 n)
    | none, .sl _ _ _ _ len _ => some ([], .int .i64 len)
    | _, _ => none
  | .lens x =>
    match e x with
    | .str n _ => some ([], .int .i64 n)
    | _ => none
  | .min xs =>
    match foldX' (fun a b => if b < a then b else a) (xs.map e) with
    | some v => some ([], v)
    | none => none
  | .max xs =>
    match foldX' (fun a b => if b > a then b else a) (xs.map e) with
    | some v => some ([], v)
    | none => none
  | _ => none

theorem slice_tab {α : Type} {n l h : Nat} {f : Nat → α} (h1 : l ≤ h) (h2 : h ≤ n) : ((tabL n f).take h).drop l = tabL (h - l) fun i => f (pl l i) := by
  refine tabL_eq (by simp [tabL_len]; omega) fun i hi => ?_
  rw [List.getElem?_drop, List.getElem?_take, if_pos (by omega), tabL_get (by omega), pl_eq]

theorem map_ev {σ : St} {e : AX → XV} : ∀ {l : List AX}, (∀ x ∈ l, σ.ev x = con (e x)) → l.map σ.ev = cons (l.map e)
  | [], _ => rfl
  | x :: l, h => by
    simp only [List.map_cons, cons, h x (by simp)]
    rw [map_ev fun y hy => h y (by simp [hy])]

theorem opt_ev {σ : St} {e : AX → XV} {x : Option AX} (h : ∀ y ∈ x.toList, σ.ev y = con (e y)) : x.map σ.ev = (x.map e).map con := by
  cases x with
  | none => rfl
  | some y => simp [h y (by simp)]

theorem notV_tri (z b : Bool) : notV (bif z then AV.anyb else B b) = some (bif z then AV.anyb else B (!b)) := by cases z <;> rfl

theorem stepR_con {H : List (Nat × Option XV)} {σ : St} {e : AX → XV} {o : AOp} {nd : List Bool} {v : XV} (hH : ∀ i, σ.H i = (lookX H i).map con) (he : ∀ x ∈ opnds o, σ.ev x = con (e x)) (h : stepR H e o = some (nd, v)) (hn : allT nd) : stepE o σ = some (con v, σ) := by
  cases o <;> simp only [stepR, reduceCtorEq] at h <;> simp only [opnds, List.mem_cons, List.not_mem_nil, or_false, forall_eq_or_imp, forall_eq] at he
  case mv x =>
    simp only [Option.some.injEq, Prod.mk.injEq] at h
    obtain ⟨_, rfl⟩ := h
    simp only [stepE, he]
  case build n zero parts =>
    split at h
    · rename_i ts ht
      simp only [Option.some.injEq, Prod.mk.injEq] at h
      obtain ⟨_, rfl⟩ := h
      have h1 := partsX_con _ _ _ ht
      rw [cons_lifts, List.map_map] at h1
      have h2 : (parts.map fun p => (p.1, σ.ev p.2)) = List.map ((fun p => (p.1, con p.2)) ∘ fun p => (p.1, e p.2)) parts := by
        refine List.map_congr_left fun p hp => ?_
        simp only [Function.comp]
        rw [he p.2 (List.mem_map.2 ⟨p, hp, rfl⟩)]
      simp only [stepE, h2, h1]
      rfl
    · cases h
  case barr n es xs =>
    cases hc : (allOkX es (xs.map e) && Nat.beq xs.length n) <;> rw [hc] at h
    · cases h
    · simp only [cond_true, Option.some.injEq, Prod.mk.injEq] at h
      obtain ⟨_, rfl⟩ := h
      rw [Bool.and_eq_true] at hc
      have hl := Nat.eq_of_beq_eq_true hc.2
      have h1 := map_ev he
      simp only [stepE, h1, allOkX_con hc.1, con]
      rw [if_pos ⟨trivial, hl⟩]
      have h2 := con_selL (xs.map e)
      rw [List.length_map, hl] at h2
      rw [← h2]
  case bsl es xs =>
    cases hc : allOkX es (xs.map e) <;> rw [hc] at h
    · cases h
    · simp only [cond_true, Option.some.injEq, Prod.mk.injEq] at h
      obtain ⟨_, rfl⟩ := h
      have h1 := map_ev he
      simp only [stepE, h1, allOkX_con hc, if_true, con]
      have h2 := con_selL (xs.map e)
      rw [List.length_map] at h2
      rw [← h2]
  case load ag n x =>
    split at h
    · rename_i nd' u hl
      cases hc : (u.isAgg == ag && Nat.beq u.size n) <;> rw [hc] at h
      · cases h
      · simp only [cond_true, Option.some.injEq, Prod.mk.injEq] at h
        obtain ⟨rfl, rfl⟩ := h
        simp only [Bool.and_eq_true, beq_iff_eq] at hc
        simp only [stepE, he, loadX_con hH hl hn, con_isAgg, con_size]
        rw [if_pos ⟨hc.1, Nat.eq_of_beq_eq_true hc.2⟩]
    · cases h
  case nilck x =>
    split at h <;> simp only [Option.some.injEq, Prod.mk.injEq, reduceCtorEq] at h
    all_goals
      rename_i hx
      obtain ⟨_, rfl⟩ := h
      simp only [stepE, he, hx, con]
  case bin op x y =>
    obtain ⟨a, b, u, h1, h2, h3, h4⟩ := binX_con h hn
    simp only [stepE, he.1, he.2, h1, h2, h3, h4]
  case eqs neg ts x y =>
    split at h
    · rename_i b hb
      simp only [Option.some.injEq, Prod.mk.injEq] at h
      obtain ⟨_, rfl⟩ := h
      simp only [stepE, he.1, he.2, eqX_con _ _ _ _ hb, con, B]
      cases neg <;> rfl
    · cases h
  case eqn neg x =>
    split at h <;> simp only [Option.some.injEq, Prod.mk.injEq, reduceCtorEq] at h
    · rename_i x' es n f hx
      obtain ⟨_, rfl⟩ := h
      simp only [stepE, he, hx, con, eqnV]
      cases hz : Nat.beq n 0
      · have : (tabL n fun i => con (f i)).isEmpty = false := by
          rw [List.isEmpty_eq_false_iff]
          exact fun e => Nat.ne_of_beq_eq_false hz (tabL_nil.1 e)
        rw [this]; rfl
      · have : (tabL n fun i => con (f i)).isEmpty = true := by
          rw [List.isEmpty_iff]
          exact tabL_nil.2 (Nat.eq_of_beq_eq_true hz)
        rw [this]; rfl
    · rename_i id p off k len es hx
      obtain ⟨_, rfl⟩ := h
      simp only [stepE, he, hx, con, eqnV]
      cases hz : Nat.beq len 0
      · rw [if_neg (Nat.ne_of_beq_eq_false hz)]; rfl
      · rw [if_pos (Nat.eq_of_beq_eq_true hz)]; rfl
  case un op x =>
    split at h <;> simp only [Option.some.injEq, Prod.mk.injEq, reduceCtorEq] at h <;> rename_i hx <;> obtain ⟨_, rfl⟩ := h <;> simp only [stepE, he, hx, con, notV_tri] <;> rfl
  case conv k x =>
    split at h <;> simp only [Option.some.injEq, Prod.mk.injEq, reduceCtorEq] at h
    rename_i hx
    obtain ⟨_, rfl⟩ := h
    simp only [stepE, he, hx, con]
  case b2s x =>
    split at h <;> simp only [Option.some.injEq, Prod.mk.injEq, reduceCtorEq] at h
    rename_i nd' n f hr
    obtain ⟨rfl, rfl⟩ := h
    rw [allT_cons, allN_iff] at hn
    have h1 := rowX_con hH hr hn.2
    have h2 := bytesOf_tab (f := f) (List.range n) fun i hi => hn.1 i (List.mem_range.1 hi)
    simp only [stepE, he, h1, tabL, h2, con, strB]
  case slice es x lo hi =>
    have hlo := opt_ev (σ := σ) (e := e) (x := lo) fun y hy => he.2 y (by simp [hy])
    have hhi := opt_ev (σ := σ) (e := e) (x := hi) fun y hy => he.2 y (by simp [hy])
    split at h
    · rename_i x' es' n f hx
      split at h
      · rename_i nd' l r hb
        cases hc : Nat.beq es' es <;> rw [hc] at h
        · cases h
        · simp only [cond_true, Option.some.injEq, Prod.mk.injEq] at h
          obtain ⟨rfl, rfl⟩ := h
          obtain ⟨h1, h2, h3⟩ := boundsX_con hb hn
          simp only [stepE, he.1, hx, con, tabL_len, hlo, hhi, h1]
          rw [if_pos (Nat.eq_of_beq_eq_true hc), slice_tab h2 h3]
      · cases h
    · rename_i id path off k len es' hx
      split at h
      · rename_i nd' l r hb
        cases hc : Nat.beq es' es <;> rw [hc] at h
        · cases h
        · simp only [cond_true, Option.some.injEq, Prod.mk.injEq] at h
          obtain ⟨rfl, rfl⟩ := h
          obtain ⟨h1, h2, h3⟩ := boundsX_con hb hn
          simp only [stepE, he.1, hx, con, hlo, hhi, h1]
          rw [if_pos (Nat.eq_of_beq_eq_true hc), pl_eq, pl_eq]
      · cases h
    · cases h
  case aslice n es x lo hi =>
    have hlo := opt_ev (σ := σ) (e := e) (x := lo) fun y hy => he.2 y (by simp [hy])
    have hhi := opt_ev (σ := σ) (e := e) (x := hi) fun y hy => he.2 y (by simp [hy])
    split at h
    · rename_i id path off hx
      split at h
      · rename_i nd' l r t hb ht
        split at h
        · rename_i nd2 o n' es' f ha
          cases hc : (Nat.beq n' n && Nat.beq es' es && Nat.blt 0 es) <;> rw [hc] at h
          · cases h
          · simp only [cond_true, Option.some.injEq, Prod.mk.injEq] at h
            obtain ⟨rfl, rfl⟩ := h
            rw [allT_cons, allT_app] at hn
            simp only [Bool.and_eq_true] at hc
            obtain ⟨h1, h2, h3⟩ := boundsX_con hb hn.2.1
            obtain ⟨o', h4, h5⟩ := atx_con _ _ _ _ _ _ ha hn.2.2
            simp only [con] at h4
            have e1 := Nat.eq_of_beq_eq_true hn.1
            simp only [stepE, he.1, hx, con, hlo, hhi, h1, hH, ht, Option.map_some, h4]
            rw [if_pos ⟨by omega, Nat.eq_of_beq_eq_true hc.1.1, Nat.eq_of_beq_eq_true hc.1.2, Nat.le_of_ble_eq_true hc.2⟩, pl_eq]
        · cases h
      · cases h
    · rename_i n' es' f hx
      split at h
      · rename_i nd' l r hb
        cases hc : (Nat.beq es' es && Nat.beq n' n) <;> rw [hc] at h
        · cases h
        · simp only [cond_true, Option.some.injEq, Prod.mk.injEq] at h
          obtain ⟨rfl, rfl⟩ := h
          simp only [Bool.and_eq_true] at hc
          obtain ⟨h1, h2, h3⟩ := boundsX_con hb hn
          have e1 := Nat.eq_of_beq_eq_true hc.1
          have e2 := Nat.eq_of_beq_eq_true hc.2
          simp only [stepE, he.1, hx, con, hlo, hhi, h1]
          rw [if_pos ⟨e1, e2⟩, slice_tab h2 (by omega)]
      · cases h
    · cases h
  case fadr i off n x =>
    split at h
    · rename_i id path o hx
      simp only [Option.some.injEq, Prod.mk.injEq] at h
      obtain ⟨_, rfl⟩ := h
      simp only [stepE, he, hx, con, pl_eq]
    · rename_i m ts hx
      split at h
      · rename_i u hu
        cases hc : Nat.beq (sizesX (ts.take i)) off <;> rw [hc] at h
        · cases h
        · simp only [cond_true, Option.some.injEq, Prod.mk.injEq] at h
          obtain ⟨_, rfl⟩ := h
          simp only [stepE, he, hx, con, cons_get hu, cons_take, sizes_cons]
          rw [if_pos (Nat.eq_of_beq_eq_true hc)]
      · cases h
    · cases h
  case iadr a es x i =>
    split at h
    · rename_i x' es' n f j hx hj
      cases hc : Nat.beq es' es <;> rw [hc] at h
      · cases h
      · simp only [cond_true, Option.some.injEq, Prod.mk.injEq] at h
        obtain ⟨rfl, rfl⟩ := h
        simp only [allT_cons, decide_eq_true_eq] at hn
        simp only [stepE, he.1, hx, con, he.2, asX_con hj]
        rw [if_pos ⟨hn.1, Nat.eq_of_beq_eq_true hc⟩, tabL_get (by omega)]
    · rename_i id path off k len es' j hx hj
      cases hc : Nat.beq es' es <;> rw [hc] at h
      · cases h
      · simp only [cond_true, Option.some.injEq, Prod.mk.injEq] at h
        obtain ⟨rfl, rfl⟩ := h
        simp only [allT_cons, decide_eq_true_eq] at hn
        simp only [stepE, he.1, hx, con, he.2, asX_con hj]
        rw [if_pos ⟨hn.1, hn.2.1, Nat.eq_of_beq_eq_true hc⟩, pl_eq, pl_eq]
    · rename_i n id path off j hx hj
      simp only [Option.some.injEq, Prod.mk.injEq] at h
      obtain ⟨rfl, rfl⟩ := h
      simp only [allT_cons, decide_eq_true_eq] at hn
      simp only [stepE, he.1, hx, con, he.2, asX_con hj]
      rw [if_pos ⟨hn.1, hn.2.1⟩, pl_eq]
    · rename_i n n' es' f j hx hj
      cases hc : (Nat.beq es' es && Nat.beq n' n) <;> rw [hc] at h
      · cases h
      · simp only [cond_true, Option.some.injEq, Prod.mk.injEq] at h
        obtain ⟨rfl, rfl⟩ := h
        simp only [allT_cons, decide_eq_true_eq] at hn
        simp only [Bool.and_eq_true] at hc
        have e1 := Nat.eq_of_beq_eq_true hc.1
        have e2 := Nat.eq_of_beq_eq_true hc.2
        simp only [stepE, he.1, hx, con, he.2, asX_con hj]
        rw [if_pos ⟨hn.1, e1, e2⟩, tabL_get (by omega)]
    · cases h
  case ext x i =>
    split at h
    · rename_i vs hx
      split at h
      · rename_i u hu
        simp only [Option.some.injEq, Prod.mk.injEq] at h
        obtain ⟨_, rfl⟩ := h
        simp only [stepE, he, hx, con, cons_get hu]
      · cases h
    · cases h
  case mkf f cs =>
    cases hc : capsOkX (cs.map e) <;> rw [hc] at h
    · cases h
    · simp only [cond_true, Option.some.injEq, Prod.mk.injEq] at h
      obtain ⟨_, rfl⟩ := h
      simp only [stepE, map_ev he, capsOkX_con hc, if_true, con]
  case mksf es bytes zero len =>
    split at h
    · rename_i n hx
      cases hc : Nat.blt 0 bytes <;> rw [hc] at h
      · cases h
      · simp only [cond_true, Option.some.injEq, Prod.mk.injEq] at h
        obtain ⟨rfl, rfl⟩ := h
        simp only [allT_cons, decide_eq_true_eq] at hn
        simp only [stepE, he, asX_con hx, con]
        rw [if_pos ⟨hn.1, Nat.le_of_ble_eq_true hc, hn.2.1⟩]
        have : List.replicate n.toNat zero = tabL n.toNat fun _ => con (lift zero) := by
          refine tabL_eq (by simp) fun i hi => ?_
          rw [List.getElem?_replicate, if_pos hi, con_lift]
        rw [this]
    · cases h
  case appf es bytes x =>
    split at h
    · rename_i nd' n f hr
      cases hc : Nat.blt 0 bytes <;> rw [hc] at h
      · cases h
      · simp only [cond_true, Option.some.injEq, Prod.mk.injEq] at h
        obtain ⟨rfl, rfl⟩ := h
        rw [allT_cons, decide_eq_true_eq] at hn
        simp only [stepE, he, rowX_con hH hr hn.2, tabL_len, con]
        rw [if_pos ⟨Nat.le_of_ble_eq_true hc, hn.1⟩]
    · cases h
  case len a x =>
    split at h
    · simp only [Option.some.injEq, Prod.mk.injEq] at h
      obtain ⟨_, rfl⟩ := h
      simp only [stepE, con, I]
    · rename_i hx
      simp only [Option.some.injEq, Prod.mk.injEq] at h
      obtain ⟨_, rfl⟩ := h
      simp only [stepE, he, hx, con, I, tabL_len]
    · rename_i hx
      simp only [Option.some.injEq, Prod.mk.injEq] at h
      obtain ⟨_, rfl⟩ := h
      simp only [stepE, he, hx, con, I]
    · cases h
  case lens x =>
    split at h
    · rename_i n f hx
      simp only [Option.some.injEq, Prod.mk.injEq] at h
      obtain ⟨_, rfl⟩ := h
      simp only [stepE, he, hx, con, I, strB_size]
    · cases h
  case min xs =>
    split at h
    · rename_i u hu
      simp only [Option.some.injEq, Prod.mk.injEq] at h
      obtain ⟨_, rfl⟩ := h
      simp only [stepE, map_ev he, foldX'_con hu]
    · cases h
  case max xs =>
    split at h
    · rename_i u hu
      simp only [Option.some.injEq, Prod.mk.injEq] at h
      obtain ⟨_, rfl⟩ := h
      simp only [stepE, map_ev he, foldX'_con hu]
    · cases h

/-- One row behind another. -/
def catX (n : Nat) (f g : Nat → XV) : Option (Nat → XV) :=
  match f 0 with
  | .unk => bif Nat.beq n 0 then some g else none
  | _ => some fun i => mrg (decide (i < n)) (f i) (g (i - n))

theorem catX_con {n m : Nat} {f g k : Nat → XV} (h : catX n f g = some k) : (tabL (n + m) fun i => con (k i)) = (tabL n fun i => con (f i)) ++ tabL m fun i => con (g i) := by
  have key : ∀ k : Nat → XV, (∀ i, con (k i) = bif decide (i < n) then con (f i) else con (g (i - n))) → (tabL (n + m) fun i => con (k i)) = (tabL n fun i => con (f i)) ++ tabL m fun i => con (g i) := by
    intro k hk
    refine (tabL_eq (by simp [tabL_len]) fun i hi => ?_).symm
    rw [hk]
    by_cases hin : i < n
    · rw [List.getElem?_append_left (by rw [tabL_len]; exact hin), tabL_get hin]
      simp [hin]
    · rw [List.getElem?_append_right (by rw [tabL_len]; omega), tabL_len, tabL_get (by omega)]
      simp [hin]
  unfold catX at h
  split at h
  · cases hc : Nat.beq n 0 <;> rw [hc] at h
    · cases h
    · simp only [cond_true, Option.some.injEq] at h
      subst h
      have := Nat.eq_of_beq_eq_true hc
      subst this
      exact key _ fun i => by simp
  · simp only [Option.some.injEq] at h
    subst h
    exact key _ fun i => con_mrg _ _ _

def XSt.put (σ : XSt) (d : Option Nat) (v : XV) : XSt :=
  match d with
  | some d => ⟨(d, v) :: σ.env, σ.hl, σ.n⟩
  | none => σ
def XSt.new (σ : XSt) (t : XV) : XSt := ⟨σ.env, (σ.n, some t) :: σ.hl, σ.n + 1⟩
def XSt.hput (σ : XSt) (i : Nat) (t : Option XV) : XSt := ⟨σ.env, hsetX σ.hl i t, σ.n⟩
def XSt.back (σ τ : XSt) : XSt := ⟨σ.env, τ.hl, τ.n⟩

theorem put_st (σ : XSt) (d : Option Nat) (v : XV) : (σ.put d v).st = σ.st.put d (con v) := by cases d <;> rfl
theorem new_st (σ : XSt) (t : XV) : (σ.new t).st = σ.st.new (con t) := rfl
theorem hput_st (σ : XSt) (i : Nat) (t : Option XV) : (σ.hput i t).st = σ.st.hput i (t.map con) := by
  simp only [XSt.st, XSt.hput, St.hput, hset_conH]
theorem back_st (σ τ : XSt) : (σ.back τ).st = σ.st.back τ.st := rfl

/-- An operation on memory. -/
def stepW (σ : XSt) (e : AX → XV) : AOp → Option (List Bool × XV × XSt)
  | .box x => bif (e x).stor then some ([], .ptr σ.n [] 0, σ.new (e x)) else none
  | .store n x v =>
    match e x with
    | .ptr id path off =>
      match lookX σ.hl id with
      | some t =>
        match atx t path 0, setx t path (e v) with
        | some (nd, o, u), some (nd', t') => bif (Nat.beq u.size n && Nat.beq (e v).size n && (e v).stor) then some (Nat.beq o off :: (nd ++ nd'), .tup [], σ.hput id (some t')) else none
        | _, _ => none
      | none => none
    | _ => none
  | .mks es bytes zero len =>
    match asX (e len) with
    | some n => bif Nat.blt 0 bytes then some ([decide (0 ≤ n), decide (n.toNat * bytes ≤ 140737488355328)], .sl σ.n [] 0 0 n.toNat es, σ.new (.tab n.toNat es (fun _ => lift zero))) else none
    | none => none
  | .app es bytes s x =>
    match rowX σ.hl es (e x), e s with
    | some (nd, m, g), .row true es' n f =>
      match catX n f g with
      | some k => bif ((Nat.beq es' es || Nat.beq n 0) && Nat.blt 0 bytes) then some (((Nat.beq n 0 || !Nat.beq m 0)) :: decide (pl n m * bytes ≤ 140737488355328) :: nd, .sl σ.n [] 0 0 (pl n m) es, σ.new (.tab (pl n m) es k)) else none
      | none => none
    | some (nd, m, g), .sl id [] off k len es' =>
      match lookX σ.hl id with
      | some (.tab m' es'' f) =>
        match catX len (fun i => f (pl k i)) g with
        | some h => bif (Nat.beq es'' es && Nat.beq es' es && Nat.blt 0 bytes) then
            some (Nat.beq off (k * es) :: decide (pl k len ≤ m') :: decide (pl len m * bytes ≤ 140737488355328) :: nd, .sl σ.n [] 0 0 (pl len m) es, (σ.hput id none).new (.tab (pl len m) es h)) else none
        | none => none
      | _ => none
    | _, _ => none
  | .copy es x y =>
    match e x, rowX σ.hl es (e y) with
    | .sl id [] off k len es', some (nd, m, g) =>
      match lookX σ.hl id with
      | some (.tab n es'' f) => bif (Nat.beq es' es && Nat.beq es'' es && Nat.beq off 0 && Nat.beq k 0) then
          some (Nat.beq len n :: nd, .int .i64 (Nat.min m len : Nat), σ.hput id (some (.tab n es (fun i => mrg (decide (i < m)) (g i) (f i))))) else none
      | _ => none
    | _, _ => none
  | _ => none

theorem stepW_con {σ τ : XSt} {s : St} {e : AX → XV} {o : AOp} {nd : List Bool} {v : XV} (hs : s = σ.st) (he : ∀ x ∈ opnds o, s.ev x = con (e x)) (h : stepW σ e o = some (nd, v, τ)) (hn : allT nd) : stepE o s = some (con v, τ.st) := by
  subst hs
  have hH := st_H σ
  cases o <;> simp only [stepW, reduceCtorEq] at h <;> simp only [opnds, List.mem_cons, List.not_mem_nil, or_false, forall_eq_or_imp, forall_eq] at he
  case box x =>
    cases hc : (e x).stor <;> rw [hc] at h
    · cases h
    · simp only [cond_true, Option.some.injEq, Prod.mk.injEq] at h
      obtain ⟨_, rfl, rfl⟩ := h
      simp only [stepE, he, con_stor, hc, if_true, new_st, con]
      rfl
  case store n x w =>
    split at h
    · rename_i id path off hx
      split at h
      · rename_i t ht
        split at h
        · rename_i nd1 o u nd2 t' h1 h2
          cases hc : (Nat.beq u.size n && Nat.beq (e w).size n && (e w).stor) <;> rw [hc] at h
          · cases h
          · simp only [cond_true, Option.some.injEq, Prod.mk.injEq] at h
            obtain ⟨rfl, rfl, rfl⟩ := h
            rw [allT_cons, allT_app] at hn
            simp only [Bool.and_eq_true] at hc
            obtain ⟨o', h3, h4⟩ := atx_con _ _ _ _ _ _ h1 hn.2.1
            have h5 := setx_con _ _ _ _ _ h2 hn.2.2
            have e1 := Nat.eq_of_beq_eq_true hn.1
            simp only [stepE, he.1, he.2, hx, con, hH, ht, Option.map_some, h3, h5, con_size, con_stor, hput_st]
            rw [if_pos ⟨by omega, Nat.eq_of_beq_eq_true hc.1.1, Nat.eq_of_beq_eq_true hc.1.2, hc.2⟩]
            rfl
        · cases h
      · cases h
    · cases h
  case mks es bytes zero len =>
    split at h
    · rename_i n hx
      cases hc : Nat.blt 0 bytes <;> rw [hc] at h
      · cases h
      · simp only [cond_true, Option.some.injEq, Prod.mk.injEq] at h
        obtain ⟨rfl, rfl, rfl⟩ := h
        simp only [allT_cons, decide_eq_true_eq] at hn
        simp only [stepE, he, asX_con hx, con, new_st]
        rw [if_pos ⟨hn.1, Nat.le_of_ble_eq_true hc, hn.2.1⟩]
        have : List.replicate n.toNat zero = tabL n.toNat fun _ => con (lift zero) := by
          refine tabL_eq (by simp) fun i hi => ?_
          rw [List.getElem?_replicate, if_pos hi, con_lift]
        rw [this]
        rfl
    · cases h
  case app es bytes y x =>
    split at h
    · rename_i nd1 m g es' n f h1 h2
      split at h
      · rename_i k hk
        cases hc : ((Nat.beq es' es || Nat.beq n 0) && Nat.blt 0 bytes) <;> rw [hc] at h
        · cases h
        · simp only [cond_true, Option.some.injEq, Prod.mk.injEq] at h
          obtain ⟨rfl, rfl, rfl⟩ := h
          simp only [allT_cons, decide_eq_true_eq, pl_eq] at hn
          simp only [Bool.and_eq_true, Bool.or_eq_true] at hc
          simp only [pl_eq]
          simp only [stepE, he.1, he.2, rowX_con hH h1 hn.2.2, h2, con, appA, tabL_len]
          have a1 := hc.1.imp Nat.eq_of_beq_eq_true (fun e => (tabL_nil (f := fun i => con (f i))).2 (Nat.eq_of_beq_eq_true e))
          have a2 : (tabL n fun i => con (f i)) = [] ∨ (tabL m fun i => con (g i)) ≠ [] := by
            rw [tabL_nil, ne_eq, tabL_nil]
            have := hn.1
            simp only [Bool.or_eq_true, Bool.not_eq_true'] at this
            exact this.imp Nat.eq_of_beq_eq_true Nat.ne_of_beq_eq_false
          rw [if_pos ⟨a1, a2, Nat.le_of_ble_eq_true hc.2, hn.2.1⟩, new_st]
          simp only [con]
          rw [catX_con hk]
          rfl
      · cases h
    · rename_i nd1 m g id off k len es' h1 h2
      split at h
      · rename_i m' es'' f h3
        split at h
        · rename_i h' hk
          cases hc : (Nat.beq es'' es && Nat.beq es' es && Nat.blt 0 bytes) <;> rw [hc] at h
          · cases h
          · simp only [cond_true, Option.some.injEq, Prod.mk.injEq] at h
            obtain ⟨rfl, rfl, rfl⟩ := h
            simp only [allT_cons, decide_eq_true_eq, pl_eq] at hn
            simp only [Bool.and_eq_true] at hc
            simp only [pl_eq]
            simp only [stepE, he.1, he.2, rowX_con hH h1 hn.2.2.2, h2, con, appA, tabL_len, hH, h3, Option.map_some]
            rw [if_pos ⟨Nat.eq_of_beq_eq_true hc.1.1, Nat.eq_of_beq_eq_true hc.1.2, Nat.eq_of_beq_eq_true hn.1, hn.2.1, Nat.le_of_ble_eq_true hc.2, hn.2.2.1⟩, new_st, hput_st]
            have h4 : ((tabL m' fun i => con (f i)).drop k).take len = tabL len fun i => con (f (pl k i)) := by
              refine tabL_eq (by simp [tabL_len]; omega) fun i hi => ?_
              rw [List.getElem?_take, if_pos hi, List.getElem?_drop, tabL_get (by omega), pl_eq]
            simp only [con]
            rw [h4, catX_con hk]
            rfl
        · cases h
      · cases h
    · cases h
  case copy es x y =>
    split at h
    · rename_i id off k len es' nd1 m g h1 h2
      split at h
      · rename_i n es'' f h3
        cases hc : (Nat.beq es' es && Nat.beq es'' es && Nat.beq off 0 && Nat.beq k 0) <;> rw [hc] at h
        · cases h
        · simp only [cond_true, Option.some.injEq, Prod.mk.injEq] at h
          obtain ⟨rfl, rfl, rfl⟩ := h
          simp only [allT_cons] at hn
          simp only [Bool.and_eq_true] at hc
          have e1 := Nat.eq_of_beq_eq_true hn.1
          simp only [stepE, he.1, he.2, rowX_con hH h2 hn.2, h1, con, tabL_len, hH, h3, Option.map_some]
          rw [if_pos ⟨Nat.eq_of_beq_eq_true hc.1.1.1, Nat.eq_of_beq_eq_true hc.1.1.2, Nat.eq_of_beq_eq_true hc.1.2, Nat.eq_of_beq_eq_true hc.2, e1⟩, hput_st]
          have : (tabL n fun i => con (mrg (decide (i < m)) (g i) (f i))) = (tabL m fun i => con (g i)).take len ++ (tabL n fun i => con (f i)).drop m := by
            refine (tabL_eq (by simp [tabL_len]; omega) fun i hi => ?_).symm
            rw [con_mrg]
            by_cases him : i < m
            · rw [List.getElem?_append_left (by simp [tabL_len]; omega), List.getElem?_take, if_pos (by omega), tabL_get him]
              simp [him]
            · rw [List.getElem?_append_right (by simp [tabL_len]; omega), List.getElem?_drop, List.length_take, tabL_len, tabL_get (by omega)]
              simp only [him, decide_false, cond_false, Option.some.injEq]
              congr 2
              omega
          simp only [Option.map_some, con]
          rw [this]
          rfl
      · cases h
    · cases h
end Go.Ra
