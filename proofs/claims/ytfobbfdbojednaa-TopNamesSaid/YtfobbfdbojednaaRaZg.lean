/- What comes in, read by its type. -/
import Derived.Test.YtfobbfdbojednaaRaZf
import Derived.Test.YtfobbfdbojednaaRaQ
namespace Go.Ra
set_option linter.unusedVariables false
set_option linter.unusedSimpArgs false
def avs : AV → List AV
  | .agg _ ts => ts
  | .arr _ _ ts => ts
  | .fro _ _ ts => ts
  | _ => []
def avI : AV → Int
  | .sc (.int _ n) => n
  | _ => 0
def avB : AV → Bool
  | .sc (.bool b) => b
  | _ => false
def avN (a : AV) : Nat := (avs a).length
def avAt (a : AV) (i : Nat) : AV := (avs a).getD i .unk
mutual
/-- A value of a type. -/
def rd : Ty → AV → XV
  | .int k, a => .int k (avI a)
  | .bool, a => .bool (avB a)
  | .str, a => .raw a
  | .slice es _ T, a => .row false es (avN a) (fun i => rd T (avAt a i))
  | .agg n l, a => .agg n (rdL l a 0)
  | .arr n es T, a => .tab n es (fun i => rd T (avAt a i))
def rdL : List Ty → AV → Nat → List XV
  | [], _, _ => []
  | T :: l, a, j => rd T (avAt a j) :: rdL l a (j + 1)
end

theorem avAt_mem {a : AV} {i : Nat} (h : i < avN a) : avAt a i ∈ avs a := by
  unfold avAt
  rw [List.getD_eq_getElem?_getD, List.getElem?_eq_getElem h]
  exact List.getElem_mem h

mutual
theorem con_rd : ∀ (T : Ty) (a : AV), T.has a → con (rd T a) = a
  | .int k, a, h => by
    simp only [Ty.has] at h
    obtain ⟨n, rfl, _⟩ := h; rfl
  | .bool, a, h => by
    simp only [Ty.has] at h
    obtain ⟨b, rfl⟩ := h; rfl
  | .str, a, h => rfl
  | .slice es bytes T, a, h => by
    simp only [Ty.has] at h
    obtain ⟨ts, rfl, _, h2⟩ := h
    simp only [rd, con]
    congr 1
    refine (tabL_eq rfl fun i hi => ?_).symm
    have hi : i < ts.length := hi
    show ts[i]? = _
    rw [List.getElem?_eq_getElem hi]
    have h3 : avAt (.fro false es ts) i = ts[i] := by
      show (ts.getD i .unk) = _
      rw [List.getD_eq_getElem?_getD, List.getElem?_eq_getElem hi]; rfl
    rw [h3, con_rd T _ (h2 _ (List.getElem_mem hi))]
  | .agg n l, a, h => by
    simp only [Ty.has] at h
    obtain ⟨ts, rfl, h2⟩ := h
    simp only [rd, con]
    have h3 := cons_rdL l [] ts n h2
    simp only [List.nil_append, List.length_nil] at h3
    rw [h3]
  | .arr n es T, a, h => by
    simp only [Ty.has] at h
    obtain ⟨ts, rfl, h1, h2⟩ := h
    simp only [rd, con]
    congr 1
    refine (tabL_eq h1 fun i hi => ?_).symm
    rw [List.getElem?_eq_getElem (by omega)]
    have h3 : avAt (.arr n es ts) i = ts[i] := by
      show (ts.getD i .unk) = _
      rw [List.getD_eq_getElem?_getD, List.getElem?_eq_getElem (by omega)]; rfl
    rw [h3, con_rd T _ (h2 _ (List.getElem_mem (by omega)))]
theorem cons_rdL : ∀ (l : List Ty) (pre ts : List AV) (n : Nat), Ty.hasL l ts → cons (rdL l (.agg n (pre ++ ts)) pre.length) = ts
  | [], pre, ts, n, h => by
    simp only [Ty.hasL] at h
    subst h; rfl
  | T :: l, pre, ts, n, h => by
    simp only [Ty.hasL] at h
    obtain ⟨t, r, rfl, h1, h2⟩ := h
    have h3 : avAt (.agg n (pre ++ t :: r)) pre.length = t := by
      show ((pre ++ t :: r).getD pre.length .unk) = t
      rw [List.getD_eq_getElem?_getD, List.getElem?_append_right (Nat.le_refl _), Nat.sub_self]; rfl
    have h4 := cons_rdL l (pre ++ [t]) r n h2
    simp only [List.length_append, List.length_cons, List.length_nil, List.append_assoc, List.cons_append, List.nil_append] at h4
    simp only [rdL, cons, h3, con_rd T t h1]
    rw [show pre.length + 1 = pre.length + (0 + 1) from rfl, h4]
end

/-- The elements of a row that comes in. -/
def o_el (T : Ty) (a : AV) (i : Nat) : XV := rd T (avAt a i)
/-- All that comes in. -/
def rdA : List Ty → List AV → List XV
  | T :: l, a :: r => rd T a :: rdA l r
  | _, _ => []
theorem cons_rdA : ∀ (l : List Ty) (as : List AV), Ty.hasL l as → cons (rdA l as) = as
  | [], as, h => by
    simp only [Ty.hasL] at h
    subst h; rfl
  | T :: l, as, h => by
    simp only [Ty.hasL] at h
    obtain ⟨t, r, rfl, h1, h2⟩ := h
    simp only [rdA, cons, con_rd T t h1, cons_rdA l r h2]
theorem lawX {P : Program} {f : Nat} {Ts : List Ty} {as : List AV} (h : Ty.hasL Ts as) (hp : Pure P f (cons (rdA Ts as)) (con (.bool true))) : Pure P f as (.sc (.bool true)) := by
  rw [cons_rdA Ts as h] at hp
  exact hp
theorem has_nat {es bytes : Nat} {T : Ty} {a : AV} (h : (Ty.slice es bytes T).has a) : avN a * bytes ≤ 140737488351232 := by
  simp only [Ty.has] at h
  obtain ⟨ts, rfl, h1, _⟩ := h
  exact h1
theorem has_at {es bytes : Nat} {T : Ty} {a : AV} (h : (Ty.slice es bytes T).has a) {i : Nat} (hi : i < avN a) : T.has (avAt a i) := by
  simp only [Ty.has] at h
  obtain ⟨ts, rfl, _, h2⟩ := h
  exact h2 _ (avAt_mem hi)
theorem has_arr {n es : Nat} {T : Ty} {a : AV} (h : (Ty.arr n es T).has a) {i : Nat} (hi : i < n) : T.has (avAt a i) := by
  simp only [Ty.has] at h
  obtain ⟨ts, rfl, h1, h2⟩ := h
  exact h2 _ (avAt_mem (by show i < ts.length; omega))
theorem has_u32 {a : AV} (h : (Ty.int .u32).has a) : 0 ≤ avI a ∧ avI a ≤ 4294967295 := by
  simp only [Ty.has] at h
  obtain ⟨n, rfl, h1⟩ := h
  simpa [Lit.wf, IntKind.min, IntKind.max, IntKind.signed, IntKind.bits, avI] using h1
theorem has_i64 {a : AV} (h : (Ty.int .i64).has a) : -9223372036854775808 ≤ avI a ∧ avI a ≤ 9223372036854775807 := by
  simp only [Ty.has] at h
  obtain ⟨n, rfl, h1⟩ := h
  simpa [Lit.wf, IntKind.min, IntKind.max, IntKind.signed, IntKind.bits, avI] using h1
theorem has_u8 {a : AV} (h : (Ty.int .u8).has a) : 0 ≤ avI a ∧ avI a ≤ 255 := by
  simp only [Ty.has] at h
  obtain ⟨n, rfl, h1⟩ := h
  simpa [Lit.wf, IntKind.min, IntKind.max, IntKind.signed, IntKind.bits, avI] using h1
theorem strEq_self (n : Nat) (f : Nat → Int) : strEq n f n f = true := by
  unfold strEq
  rw [Nat.beq_refl, cond_true, allN_iff]
  exact fun i _ => by simp
theorem rng_el {a : AV} {bytes : Nat} {T : Ty} (h : (Ty.slice 1 bytes (.int .u8)).has a) (hT : T = .int .u8) : rngB (avN a) (o_el T a) = true := by
  subst hT
  refine rngB_iff.2 fun i hi => ?_
  exact has_u8 (has_at h hi)
end Go.Ra
