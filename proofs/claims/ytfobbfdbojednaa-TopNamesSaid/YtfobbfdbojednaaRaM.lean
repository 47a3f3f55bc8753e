/- Abstract code is sound. -/
import Derived.Test.YtfobbfdbojednaaRaL
namespace Go.Ra
set_option linter.unusedVariables false
set_option linter.unusedSimpArgs false

section
variable {P : Program} {z : Bool} {q : Nat → Bool} {C : Orc} {nt : Nat} {ops : Array Oper} {l : List AG} {σ : St} {S : Nat → St} {V : Nat → AV} {T : Nat → St}

def Done (listed : Array Bool) : Nat → Prop := fun j => listed.getD j false = true

theorem done_set {listed : Array Bool} {i : Nat} (hi : i < listed.size) : Done (listed.setIfInBounds i true) = fun j => Done listed j ∨ j = i := by
  funext j
  unfold Done
  simp only [Array.getD_eq_getD_getElem?, Array.getElem?_setIfInBounds]
  by_cases h : i = j
  · subst h; simp [hi]
  · rw [if_neg h]
    simp only [eq_iff_iff]
    exact ⟨.inl, fun h1 => h1.resolve_right (fun e => h e.symm)⟩

theorem any_region {B : Nat → Nat → Prop} (hC : OrcOk P C) (hq : Quiet q C) (hm : ops.toList.mapM (trOper z P nt ops) = some l) (hok : OkR q ops l B) (ht : Trail C l σ S V T) {fr : Fr} {G0 : Gh} {w0 : World} {Q : Exit → Act → World → Prop}
    (hQ : ∀ a w, Sim fr G0 w0 nt (S l.length) a w → Q .normal a w) : ∀ (fuel : Nat) (listed : Array Bool) (a : Act) (w : World), listed.size = ops.size → listed.count false ≤ fuel →
      Mid fr G0 w0 nt q ops l σ S V (Done listed) a w → wpAny P .any ops Q fuel listed a w := by
  have hend : ∀ (listed : Array Bool) (a : Act) (w : World), listed.size = ops.size → Mid fr G0 w0 nt q ops l σ S V (Done listed) a w → Region.ready .any ops listed = [] → Q .normal a w := by
    intro listed a w hsz hmid hr
    refine hQ a w (hmid.done hq hm ht ?_)
    intro k
    induction k using Nat.strongRecOn with
    | _ k ih =>
      intro hk
      cases hl : listed.getD k true with
      | true =>
        unfold Done
        simp only [Array.getD_eq_getD_getElem?] at hl ⊢
        rw [Array.getElem?_eq_getElem (by omega)] at hl ⊢
        simpa using hl
      | false =>
        have hmem : k ∈ Region.ready .any ops listed := mem_ready.2 ⟨hl, ops[k], Array.getElem?_eq_getElem hk, fun e he hb => by
          have hee : e.on ∈ edgesOf ops[k] := by
            unfold edgesOf
            exact List.mem_map.2 ⟨e, List.mem_filter.2 ⟨by simpa using he, hb⟩, rfl⟩
          have hlt := hok.edge k _ (Array.getElem?_eq_getElem hk) e.on hee
          exact ih e.on hlt (by omega)⟩
        rw [hr] at hmem
        cases hmem
  intro fuel
  induction fuel with
  | zero =>
    intro listed a w hsz hcnt hmid
    have hr : Region.ready .any ops listed = [] := by
      refine List.eq_nil_iff_forall_not_mem.2 fun k hk => ?_
      obtain ⟨h1, o, h2, _⟩ := mem_ready.1 hk
      have hlt : k < listed.size := by rw [hsz]; exact (Array.getElem?_eq_some_iff.1 h2).1
      have h3 : Array.count false listed = 0 := by omega
      rw [Array.count_eq_zero] at h3
      refine h3 ?_
      rw [Array.getD_eq_getD_getElem?, Array.getElem?_eq_getElem hlt] at h1
      simp only [Option.getD_some] at h1
      rw [← h1]; exact Array.getElem_mem hlt
    exact ⟨hr, hend listed a w hsz hmid hr⟩
  | succ fuel ih =>
    intro listed a w hsz hcnt hmid
    refine ⟨hend listed a w hsz hmid, fun i hi => ?_⟩
    obtain ⟨h1, o, h2, h3⟩ := mem_ready.1 hi
    have hlt : i < listed.size := by rw [hsz]; exact (Array.getElem?_eq_some_iff.1 h2).1
    have hf : listed[i] = false := by
      rw [Array.getD_eq_getD_getElem?, Array.getElem?_eq_getElem hlt] at h1
      simpa using h1
    have hcnt2 : (listed.setIfInBounds i true).count false ≤ fuel := by
      rw [Array.setIfInBounds, dif_pos hlt, Array.count_set hlt, hf]
      simp
      omega
    have hnD : ¬ Done listed i := by
      unfold Done
      rw [Array.getD_eq_getD_getElem?, Array.getElem?_eq_getElem hlt, hf]
      simp
    have := hmid.step hC hq hm hok ht h2 hnD (fun e he => by
      unfold edgesOf at he
      obtain ⟨e', he1, rfl⟩ := List.mem_map.1 he
      obtain ⟨he2, he3⟩ := List.mem_filter.1 he1
      exact h3 e' (by simpa using he2) he3) (fun j hj => by
        unfold Done at hj
        rcases Nat.lt_or_ge j listed.size with h | h
        · omega
        · rw [Array.getD_eq_getD_getElem?, Array.getElem?_eq_none h] at hj
          cases hj) (K := wpAny P .any ops Q fuel (listed.setIfInBounds i true)) (Q := Q) (fun a' w' hmid' => ih _ a' w' (by simpa using hsz) hcnt2 (by rw [done_set hlt]; exact hmid'))
    unfold wpOp
    rw [h2]
    simp only
    split
    · rename_i hw
      rw [if_pos hw] at this
      exact .inl this
    · rename_i hw
      rw [if_neg hw] at this
      exact this

theorem region_sound (hmix : P.follows .mixedOrders = true) (hC : OrcOk P C) (hq : Quiet q C) {id : Nat} {draw : Bool} (hm : ops.toList.mapM (trOper z P nt ops) = some l) (hok : draw = true → okR q ops l = true) {fr : Fr} {G0 : Gh} {w0 : World} {a : Act} {w : World} {KA : St → Prop}
    {Q : Exit → Act → World → Prop} (hs : Sim fr G0 w0 nt σ a w) (h : wpOps C l σ KA) (hQ : ∀ σ a w, Sim fr G0 w0 nt σ a w → KA σ → Q .normal a w) : (Code.region id ops draw).wp P Q a w := by
  cases draw with
  | false => exact wp_region_list (text_list hC hQ _ _ hm σ a w hs h)
  | true =>
    obtain ⟨B, hB⟩ := okR_spec (hok rfl)
    obtain ⟨S, V, T, ht, hK⟩ := trail_of h
    refine wp_region_any hmix (any_region hC hq hm hB ht (fun a w hs => hQ _ a w hs hK) ops.size _ a _ (by simp) (by simp [Array.count_replicate]) ?_)
    obtain ⟨G, s1, s2, s3, s4⟩ := hs
    have hno : ∀ j, ¬ Done (Array.replicate ops.size false) j := fun j hj => by
      unfold Done at hj
      simp only [Array.getD_eq_getD_getElem?, Array.getElem?_replicate] at hj
      split at hj <;> simp at hj
    refine ⟨⟨G, 0, Nat.zero_le _, fun j hj i hi => by { have hj0 : j = 0 := by { omega }; subst hj0; rw [ht.zero] at hi ⊢; exact (s1.wf.free i hi).1 }, fun j g _ _ => ⟨fun h => absurd h (hno j), fun h => by omega⟩, ?_, fun k g t _ hd => absurd hd (hno k), fun t _ => ?_⟩, fun k o _ hd => absurd hd (hno k), s3, s4⟩
    · rw [ht.zero]
      exact s1.drew ⟨rfl, rfl, rfl, rfl⟩
    · exact (Own.goto (fr := fr) (σ := σ) s1.own |>.drew (w' := { w with drawn := w.drawn + 1 }) ⟨rfl, rfl, rfl, rfl⟩).mono (s2 t)
end

theorem Wf.weak {G : Gh} {w : World} {σ τ : St} (h : Wf G w σ.H (fun i => σ.n ≤ i)) (hk : Weak σ τ) : Wf G w τ.H (fun i => τ.n ≤ i) := by
  obtain ⟨_, h1, h2⟩ := hk
  have live : ∀ i, τ.H i ≠ none → τ.H i = σ.H i := fun i hi => (h1 i).resolve_left hi
  refine ⟨fun i hi => ?_, h.fsz, fun i t hi => ?_, fun i j b o o' hi hj => ?_⟩
  · have := h.free i (Nat.le_trans h2 hi)
    refine ⟨?_, this.2⟩
    rcases h1 i with h3 | h3
    · exact h3
    · rw [h3]; exact this.1
  · exact h.blk i t (by rw [← live i (by rw [hi]; simp)]; exact hi)
  · exact h.dis i j b o o' (by rw [← live i hi]; exact hi) (by rw [← live j hj]; exact hj)

theorem FrOk.weak {fr : Fr} {G : Gh} {w : World} {σ τ : St} (h : FrOk fr G w σ.H) (hk : Weak σ τ) : FrOk fr G w τ.H :=
  ⟨h.os, h.tape, h.output, h.size, h.same, h.ext, h.f0, h.fnew, fun i b o hi => h.loc i b o (by
    rcases hk.2.1 i with h3 | h3
    · exact absurd h3 hi
    · rw [← h3]; exact hi)⟩

theorem leA_rel {w : World} {F : Nat → Prop} {ρ : Nat → Option Loc} {a b : AV} {v : Value} (h : leA a b) (hr : RelV w F ρ a v) : RelV w F ρ b v := by
  rcases h with rfl | rfl | ⟨x, es, es', ts, rfl, rfl, h7⟩
  · exact .unk
  · exact hr
  · cases hr with
    | agg _ h => simp [AV.isAgg] at h
    | one h8 _ =>
      cases h8 with
      | fro0 _ => exact .one (.fro0 (fun h => by cases h)) rfl
      | fro g1 g2 g3 g4 g5 =>
        rcases h7 with rfl | rfl
        · exact .one (.fro g1 g2 g3 (fun h => by cases h) g5) rfl
        · exact .one (.fro0 (fun h => by cases h)) rfl

theorem Sim.weak {fr : Fr} {G0 : Gh} {w0 : World} {nt : Nat} {σ τ : St} {a : Act} {w : World} (h : Sim fr G0 w0 nt σ a w) (hk : Weak σ τ) : Sim fr G0 w0 nt τ a w := by
  obtain ⟨G, h1, h2, h3, h4⟩ := h
  refine ⟨G, ⟨h1.wf.weak hk, h1.fr.weak hk, h1.ext, h1.leF, h1.leR⟩, fun t => ?_, h3, h4⟩
  exact leA_rel (hk.1 t) (h2 t)

/-- What is asked behind code. -/
def post (fr : Fr) (G0 : Gh) (w0 : World) (nt : Nat) (Φ : AE → St → Prop) : Exit → Act → World → Prop
  | .normal, a, w => ∃ σ, Sim fr G0 w0 nt σ a w ∧ Φ .normal σ
  | .exit id, a, w => ∃ σ, Sim fr G0 w0 nt σ a w ∧ Φ (.exit id) σ
  | .ret, a, w => ∃ σ, Sim fr G0 w0 nt σ a w ∧ Φ .ret σ
  | _, _, _ => False

theorem least (p : Nat → Prop) (h : ∃ n, p n) : ∃ n, p n ∧ ∀ m, p m → n ≤ m := by
  obtain ⟨n, hn⟩ := h
  induction n using Nat.strongRecOn with
  | _ n ih =>
    by_cases hm : ∃ m, m < n ∧ p m
    · obtain ⟨m, hm, hp⟩ := hm
      exact ih m hm hp
    · exact ⟨n, hn, fun m hp => Nat.le_of_not_lt fun hlt => hm ⟨m, hlt, hp⟩⟩

section
variable {P : Program} {q : Nat → Bool} {C : Orc} {nt : Nat}
theorem wpC_sound (hmix : P.follows .mixedOrders = true) (hC : OrcOk P C) (hq : Quiet q C) {z0 : Bool} {fr : Fr} {G0 : Gh} {w0 : World} : ∀ (c : Code) (ac : AC) (σ : St) (a : Act) (w : World) (Φ : AE → St → Prop),
    trC P nt (okR q) z0 c = some ac → Sim fr G0 w0 nt σ a w → wpC C ac σ Φ → c.wp P (post fr G0 w0 nt Φ) a w
  | .skip, ac, σ, a, w, Φ, htr, hs, h => by
    simp only [trC, Option.some.injEq] at htr
    subst htr
    exact wp_skip ⟨σ, hs, h⟩
  | .region id ops draw, ac, σ, a, w, Φ, htr, hs, h => by
    simp only [trC] at htr
    split at htr
    · rename_i l hl
      split at htr
      · split at htr
        · rename_i l2 hl2
          split at htr
          · rename_i hd
            simp only [Option.some.injEq] at htr
            subst htr
            exact region_sound hmix hC hq hl2 (fun _ => hd) hs h fun σ a w hs hk => ⟨σ, hs, hk⟩
          · cases htr
        · cases htr
      · rename_i hd
        simp only [Option.some.injEq] at htr
        subst htr
        refine region_sound hmix hC hq hl (fun hdr => ?_) hs h fun σ a w hs hk => ⟨σ, hs, hk⟩
        subst hdr
        simpa using hd
    · simp only [Option.some.injEq] at htr
      subst htr
      exact absurd h (by simp [badC, wpC, wpOps, stepE, St.ev])
  | .seq x y, ac, σ, a, w, Φ, htr, hs, h => by
    simp only [trC] at htr
    split at htr
    · rename_i ax ay hx hy
      simp only [Option.some.injEq] at htr
      subst htr
      refine wp_seq (wp_mono (wpC_sound hmix hC hq x ax σ a w _ hx hs h) fun e a w he => ?_)
      cases e <;> simp only [post] at he
      case normal =>
        obtain ⟨τ, hs, hk⟩ := he
        exact wpC_sound hmix hC hq y ay τ a w _ hy hs hk
      case exit id => exact he
      case ret => exact he
    · cases htr
  | .cond c x y, ac, σ, a, w, Φ, htr, hs, h => by
    simp only [trC] at htr
    split at htr
    · rename_i c' ax ay hc hx hy
      simp only [Option.some.injEq] at htr
      subst htr
      obtain ⟨G, s1, s2, s3, s4⟩ := hs
      have hr := trX_rel (w := w) (G := G) (σ := σ) (a := a) hc fun t _ => s2 t
      unfold wpC at h
      split at h
      · rename_i b hb
        rw [hb] at hr
        obtain ⟨h1, _⟩ := hr.sc_inv
        refine wp_cond h1 ?_
        cases b with
        | true => exact wpC_sound hmix hC hq x ax σ a w _ hx ⟨G, s1, s2, s3, s4⟩ (h.1 rfl)
        | false => exact wpC_sound hmix hC hq y ay σ a w _ hy ⟨G, s1, s2, s3, s4⟩ (h.2 rfl)
      · rename_i hb
        rw [hb] at hr
        obtain ⟨b, h1⟩ := hr.anyb_inv
        refine wp_cond h1 ?_
        cases b with
        | true => exact wpC_sound hmix hC hq x ax σ a w _ hx ⟨G, s1, s2, s3, s4⟩ h.1
        | false => exact wpC_sound hmix hC hq y ay σ a w _ hy ⟨G, s1, s2, s3, s4⟩ h.2
      · cases h
    · cases htr
  | .block id c, ac, σ, a, w, Φ, htr, hs, h => by
    simp only [trC] at htr
    obtain ⟨ax, hx, rfl⟩ := some_map htr
    refine wp_block (wp_mono (wpC_sound hmix hC hq c ax σ a w _ hx hs h) fun e a w he => ?_)
    cases e <;> simp only [post] at he
    case normal => exact he
    case exit i =>
      obtain ⟨τ, hs, hk⟩ := he
      simp only [AE.inBlock] at hk
      simp only [Exit.inBlock]
      split at hk
      · rename_i hid
        rw [if_pos hid]; exact ⟨τ, hs, hk⟩
      · rename_i hid
        rw [if_neg hid]; exact ⟨τ, hs, hk⟩
    case ret => exact he
  | .loop c, ac, σ, a, w, Φ, htr, hs, h => by
    simp only [trC] at htr
    obtain ⟨ax, hx, rfl⟩ := some_map htr
    unfold wpC at h
    obtain ⟨Inv, μ, ⟨τ0, hk0, hI0⟩, hround⟩ := h
    let p : Act → World → Nat → Prop := fun a w n => ∃ τ, Sim fr G0 w0 nt τ a w ∧ Inv τ ∧ μ τ = n
    have hmin : ∀ a w, ∃ m : Nat, (∃ n, p a w n) → p a w m ∧ ∀ n, p a w n → m ≤ n := fun a w => by
      by_cases hex : ∃ n, p a w n
      · obtain ⟨m, h1, h2⟩ := least _ hex
        exact ⟨m, fun _ => ⟨h1, h2⟩⟩
      · exact ⟨0, fun h => absurd h hex⟩
    have hch : ∃ M : Act → World → Nat, ∀ a w, (∃ n, p a w n) → p a w (M a w) ∧ ∀ n, p a w n → M a w ≤ n :=
      ⟨fun a w => Classical.choose (hmin a w), fun a w => Classical.choose_spec (hmin a w)⟩
    obtain ⟨M, hM⟩ := hch
    refine wp_loop (fun a w => ∃ n, p a w n) M ⟨_, τ0, hs.weak hk0, hI0, rfl⟩ fun a w hI => ?_
    obtain ⟨⟨τ, hsτ, hIτ, hμ⟩, _⟩ := hM a w hI
    refine wp_mono (wpC_sound hmix hC hq c ax τ a w _ hx hsτ (hround τ hIτ)) fun e a' w' he => ?_
    cases e <;> simp only [post] at he
    case normal =>
      obtain ⟨τ', hs', τ'', hk, hI', hlt⟩ := he
      have hp : p a' w' (μ τ'') := ⟨τ'', hs'.weak hk, hI', rfl⟩
      refine ⟨⟨_, hp⟩, ?_⟩
      have := (hM a' w' ⟨_, hp⟩).2 _ hp
      omega
    case exit i => exact he
    case ret => exact he
  | .exit id, ac, σ, a, w, Φ, htr, hs, h => by
    simp only [trC, Option.some.injEq] at htr
    subst htr
    exact wp_exit ⟨σ, hs, h⟩
  | .ret, ac, σ, a, w, Φ, htr, hs, h => by
    simp only [trC, Option.some.injEq] at htr
    subst htr
    exact wp_ret ⟨σ, hs, h⟩
  | .rangeFunc .., ac, σ, a, w, Φ, htr, hs, h => by simp [trC] at htr
  | .scope _, ac, σ, a, w, Φ, htr, hs, h => by simp [trC] at htr
  | .label _, ac, σ, a, w, Φ, htr, hs, h => by simp [trC] at htr
  | .goto _, ac, σ, a, w, Φ, htr, hs, h => by simp [trC] at htr
end
end Go.Ra
