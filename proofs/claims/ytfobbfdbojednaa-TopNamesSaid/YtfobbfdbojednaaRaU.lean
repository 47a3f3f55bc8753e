/- Values whose rows are functions of the place, and what they stand for. -/
import Derived.Test.YtfobbfdbojednaaRaO
namespace Go.Ra
set_option linter.unusedVariables false
set_option linter.unusedSimpArgs false

inductive XV where
  | int (k : IntKind) (n : Int)
  | bool (b : Bool)
  | str (n : Nat) (f : Nat → Int)
  | agg (n : Nat) (ts : List XV)
  | tab (n es : Nat) (f : Nat → XV)
  | row (x : Bool) (es n : Nat) (f : Nat → XV)
  | fptr (t : XV)
  | sl (id : Nat) (path : List Nat) (off k len es : Nat)
  | ptr (id : Nat) (path : List Nat) (off : Nat)
  | clo (f : Nat) (caps : List XV)
  | tup (vs : List XV)
  | anyb
  | tri (z b : Bool)
  | unk
  | opt (g : Bool) (v : XV)
  | raw (v : AV)
  deriving Inhabited

/-- A list of so many, by place. -/
def tabL {α : Type} (n : Nat) (f : Nat → α) : List α := (List.range n).map f
def byt (n : Int) : UInt8 := UInt8.ofNat n.toNat
def strB (n : Nat) (f : Nat → Int) : ByteArray := ⟨(tabL n fun i => byt (f i)).toArray⟩

mutual
/-- What it stands for. -/
def con : XV → AV
  | .int k n => .sc (.int k n)
  | .bool b => .sc (.bool b)
  | .str n f => .sc (.string (strB n f))
  | .agg n ts => .agg n (cons ts)
  | .tab n es f => .arr n es (tabL n fun i => con (f i))
  | .row x es n f => .fro x es (tabL n fun i => con (f i))
  | .fptr t => .fptr (con t)
  | .sl id p off k len es => .sl id p off k len es
  | .ptr id p off => .ptr id p off
  | .clo f cs => .clo f (cons cs)
  | .tup vs => .tup (cons vs)
  | .anyb => .anyb
  | .tri z b => bif z then .anyb else B b
  | .unk => .unk
  | .opt g v => bif g then con v else .tup []
  | .raw v => v
def cons : List XV → List AV
  | [] => []
  | t :: ts => con t :: cons ts
end

theorem cons_map : ∀ ts : List XV, cons ts = ts.map con
  | [] => rfl
  | t :: ts => by simp [cons, cons_map ts]

theorem tabL_len {α : Type} {n : Nat} {f : Nat → α} : (tabL n f).length = n := by simp [tabL]
theorem tabL_get {α : Type} {n i : Nat} {f : Nat → α} (h : i < n) : (tabL n f)[i]? = some (f i) := by simp [tabL, h]
theorem tabL_none {α : Type} {n i : Nat} {f : Nat → α} (h : ¬ i < n) : (tabL n f)[i]? = none := by simp [tabL]; omega
theorem tabL_congr {α : Type} {n : Nat} {f g : Nat → α} (h : ∀ i, i < n → f i = g i) : tabL n f = tabL n g := by
  refine List.map_congr_left fun i hi => h i (List.mem_range.1 hi)
theorem tabL_eq {α : Type} {n : Nat} {f : Nat → α} {l : List α} (h : l.length = n) (hg : ∀ i, i < n → l[i]? = some (f i)) : l = tabL n f := by
  refine List.ext_getElem? fun i => ?_
  by_cases hi : i < n
  · rw [hg i hi, tabL_get hi]
  · rw [tabL_none hi, List.getElem?_eq_none (by omega)]
theorem tabL_nil {α : Type} {n : Nat} {f : Nat → α} : tabL n f = [] ↔ n = 0 := by
  constructor
  · intro h; rw [← tabL_len (n := n) (f := f), h]; rfl
  · rintro rfl; rfl

def XV.size : XV → Nat
  | .agg n _ => n
  | .tab n es _ => n * es
  | .opt g v => bif g then v.size else 1
  | .raw v => v.size
  | _ => 1
def XV.isAgg : XV → Bool
  | .agg _ _ => true
  | .tab _ _ _ => true
  | .opt g v => bif g then v.isAgg else false
  | .raw v => v.isAgg
  | _ => false
def XV.stor : XV → Bool
  | .tup _ => false
  | .anyb => false
  | .tri z _ => !z
  | .unk => false
  | .opt g v => bif g then v.stor else false
  | .raw v => v.storable
  | _ => true
mutual
def XV.idf : XV → Bool
  | .agg _ ts => XV.idfs ts
  | .clo _ cs => XV.idfs cs
  | .sl .. => false
  | .ptr .. => false
  | .tup _ => false
  | .opt g v => bif g then v.idf else false
  | .raw v => v.idfree
  | _ => true
def XV.idfs : List XV → Bool
  | [] => true
  | t :: ts => bif t.idf then XV.idfs ts else false
end
mutual
def XV.sol : XV → Bool
  | .agg _ ts => XV.sols ts
  | .tab n _ f => allN (fun i => (f i).sol) n
  | .tup ts => XV.sols ts
  | .row _ _ n _ => Nat.beq n 0
  | .opt g v => bif g then v.sol else false
  | .raw v => v.solid
  | .fptr _ => false
  | .sl .. => false
  | .ptr .. => false
  | .clo .. => false
  | _ => true
def XV.sols : List XV → Bool
  | [] => true
  | t :: ts => bif t.sol then XV.sols ts else false
end

theorem con_size : ∀ t : XV, (con t).size = t.size
  | .opt g v => by cases g; rfl; exact con_size v
  | .tri z b => by cases z <;> rfl
  | .int .. => rfl
  | .bool _ => rfl
  | .str .. => rfl
  | .agg .. => rfl
  | .tab .. => rfl
  | .row .. => rfl
  | .fptr _ => rfl
  | .sl .. => rfl
  | .ptr .. => rfl
  | .clo .. => rfl
  | .tup _ => rfl
  | .anyb => rfl
  | .unk => rfl
  | .raw _ => rfl
theorem con_isAgg : ∀ t : XV, (con t).isAgg = t.isAgg
  | .opt g v => by cases g; rfl; exact con_isAgg v
  | .tri z b => by cases z <;> rfl
  | .int .. => rfl
  | .bool _ => rfl
  | .str .. => rfl
  | .agg .. => rfl
  | .tab .. => rfl
  | .row .. => rfl
  | .fptr _ => rfl
  | .sl .. => rfl
  | .ptr .. => rfl
  | .clo .. => rfl
  | .tup _ => rfl
  | .anyb => rfl
  | .unk => rfl
  | .raw _ => rfl
theorem con_stor : ∀ t : XV, (con t).storable = t.stor
  | .opt g v => by cases g; rfl; exact con_stor v
  | .tri z b => by cases z <;> rfl
  | .int .. => rfl
  | .bool _ => rfl
  | .str .. => rfl
  | .agg .. => rfl
  | .tab .. => rfl
  | .row .. => rfl
  | .fptr _ => rfl
  | .sl .. => rfl
  | .ptr .. => rfl
  | .clo .. => rfl
  | .tup _ => rfl
  | .anyb => rfl
  | .unk => rfl
  | .raw _ => rfl
mutual
theorem con_idf : ∀ t : XV, (con t).idfree = t.idf
  | .opt g v => by cases g; rfl; exact con_idf v
  | .tri z b => by cases z <;> rfl
  | .int .. => rfl
  | .bool _ => rfl
  | .str .. => rfl
  | .agg n ts => by simp [con, AV.idfree, XV.idf, cons_idf ts]
  | .tab .. => rfl
  | .row .. => rfl
  | .fptr _ => rfl
  | .sl .. => rfl
  | .ptr .. => rfl
  | .clo f cs => by simp [con, AV.idfree, XV.idf, cons_idf cs]
  | .tup _ => rfl
  | .anyb => rfl
  | .unk => rfl
  | .raw _ => rfl
theorem cons_idf : ∀ ts : List XV, AV.idfrees (cons ts) = XV.idfs ts
  | [] => rfl
  | t :: ts => by simp only [cons, AV.idfrees, XV.idfs, con_idf t, cons_idf ts]; cases t.idf <;> rfl
end

theorem allN_iff {f : Nat → Bool} : ∀ {n : Nat}, allN f n = true ↔ ∀ i, i < n → f i = true
  | 0 => by simp [allN]
  | n + 1 => by
    simp only [allN, Bool.and_eq_true, allN_iff (n := n)]
    constructor
    · rintro ⟨h1, h2⟩ i hi
      by_cases e : i = n
      · subst e; exact h1
      · exact h2 i (by omega)
    · intro h; exact ⟨h n (by omega), fun i hi => h i (by omega)⟩

theorem solids_iff : ∀ {ts : List AV}, AV.solids ts = true ↔ ∀ t ∈ ts, t.solid = true
  | [] => by simp [AV.solids]
  | t :: ts => by simp [AV.solids, solids_iff (ts := ts)]

mutual
theorem con_sol : ∀ t : XV, t.sol = true → (con t).solid = true
  | .opt g v, h => by cases g <;> simp [con, XV.sol, AV.solid] at h ⊢; exact con_sol v h
  | .tri z b, h => by cases z <;> rfl
  | .int .., h => rfl
  | .bool _, h => rfl
  | .str .., h => rfl
  | .agg n ts, h => by simp only [con, AV.solid]; exact cons_sol ts (by simpa [XV.sol] using h)
  | .tab n es f, h => by
    simp only [con, AV.solid, solids_iff, tabL, List.mem_map, List.mem_range]
    rintro t ⟨i, hi, rfl⟩
    simp only [XV.sol, allN_iff] at h
    exact con_sol (f i) (h i hi)
  | .row x es n f, h => by
    simp only [XV.sol] at h
    have : n = 0 := Nat.eq_of_beq_eq_true h
    subst this
    rfl
  | .fptr _, h => by simp [XV.sol] at h
  | .sl .., h => by simp [XV.sol] at h
  | .ptr .., h => by simp [XV.sol] at h
  | .clo f cs, h => by simp [XV.sol] at h
  | .tup ts, h => by simp only [con, AV.solid]; exact cons_sol ts (by simpa [XV.sol] using h)
  | .anyb, h => rfl
  | .unk, h => rfl
  | .raw _, h => h
theorem cons_sol : ∀ ts : List XV, XV.sols ts = true → AV.solids (cons ts) = true
  | [], h => rfl
  | t :: ts, h => by
    simp only [XV.sols] at h
    cases ht : t.sol <;> rw [ht] at h
    · cases h
    · simp only [cons, AV.solids, con_sol t ht, cons_sol ts h, Bool.and_self]
end

mutual
/-- One of two. -/
def mrg (b : Bool) : XV → XV → XV
  | .int k x, .int k' y => if k = k' then .int k (bif b then x else y) else .raw (bif b then .sc (.int k x) else .sc (.int k' y))
  | .bool x, .bool y => .bool (bif b then x else y)
  | .agg n ts, .agg n' us => bif (Nat.beq n n' && Nat.beq ts.length us.length) then .agg n (mrgs b ts us) else .raw (bif b then .agg n (cons ts) else .agg n' (cons us))
  | .tab n es f, .tab n' es' f' => bif (Nat.beq n n' && Nat.beq es es') then .tab n es (fun i => mrg b (f i) (f' i)) else .raw (bif b then con (.tab n es f) else con (.tab n' es' f'))
  | .row x es n f, .row x' es' n' f' => bif Nat.beq es es' then .row (bif b then x else x') es (bif b then n else n') (fun i => mrg b (f i) (f' i)) else .raw (bif b then con (.row x es n f) else con (.row x' es' n' f'))
  | .str n f, .str n' f' => .str (bif b then n else n') (fun i => bif b then f i else f' i)
  | .fptr t, .fptr u => .fptr (mrg b t u)
  | t, u => .raw (bif b then con t else con u)
def mrgs (b : Bool) : List XV → List XV → List XV
  | t :: ts, u :: us => mrg b t u :: mrgs b ts us
  | _, _ => []
end

mutual
theorem con_mrg (b : Bool) : ∀ t u : XV, con (mrg b t u) = bif b then con t else con u
  | .int k x, .int k' y => by
    simp only [mrg]
    split
    · rename_i h; subst h; cases b <;> rfl
    · cases b <;> rfl
  | .bool x, .bool y => by cases b <;> rfl
  | .agg n ts, .agg n' us => by
    simp only [mrg]
    cases h : (Nat.beq n n' && Nat.beq ts.length us.length)
    · cases b <;> rfl
    · simp only [Bool.and_eq_true] at h
      have h1 := Nat.eq_of_beq_eq_true h.1
      have h2 := Nat.eq_of_beq_eq_true h.2
      subst h1
      simp only [cond_true, con, cons_mrgs b ts us h2]
      cases b <;> rfl
  | .tab n es f, .tab n' es' f' => by
    simp only [mrg]
    cases h : (Nat.beq n n' && Nat.beq es es')
    · cases b <;> rfl
    · simp only [Bool.and_eq_true] at h
      have h1 := Nat.eq_of_beq_eq_true h.1
      have h2 := Nat.eq_of_beq_eq_true h.2
      subst h1 h2
      simp only [cond_true, con]
      have : (fun i => con (mrg b (f i) (f' i))) = fun i => bif b then con (f i) else con (f' i) := funext fun i => con_mrg b (f i) (f' i)
      rw [this]
      cases b <;> rfl
  | .row x es n f, .row x' es' n' f' => by
    simp only [mrg]
    cases h : Nat.beq es es'
    · cases b <;> rfl
    · have h2 := Nat.eq_of_beq_eq_true h
      subst h2
      simp only [cond_true, con]
      have : (fun i => con (mrg b (f i) (f' i))) = fun i => bif b then con (f i) else con (f' i) := funext fun i => con_mrg b (f i) (f' i)
      rw [this]
      cases b <;> rfl
  | .str n f, .str n' f' => by cases b <;> rfl
  | .fptr t, .fptr u => by
    simp only [mrg, con, con_mrg b t u]
    cases b <;> rfl
  | .int .., .bool _ | .int .., .str .. | .int .., .agg .. | .int .., .tab .. | .int .., .row .. | .int .., .fptr _ | .int .., .sl .. | .int .., .ptr .. | .int .., .clo .. | .int .., .tup _ | .int .., .anyb | .int .., .tri .. | .int .., .unk | .int .., .opt .. | .int .., .raw _ => by cases b <;> rfl
  | .bool _, .int .. | .bool _, .str .. | .bool _, .agg .. | .bool _, .tab .. | .bool _, .row .. | .bool _, .fptr _ | .bool _, .sl .. | .bool _, .ptr .. | .bool _, .clo .. | .bool _, .tup _ | .bool _, .anyb | .bool _, .tri .. | .bool _, .unk | .bool _, .opt .. | .bool _, .raw _ => by cases b <;> rfl
  | .str .., .int .. | .str .., .bool _ | .str .., .agg .. | .str .., .tab .. | .str .., .row .. | .str .., .fptr _ | .str .., .sl .. | .str .., .ptr .. | .str .., .clo .. | .str .., .tup _ | .str .., .anyb | .str .., .tri .. | .str .., .unk | .str .., .opt .. | .str .., .raw _ => by cases b <;> rfl
  | .agg .., .int .. | .agg .., .bool _ | .agg .., .str .. | .agg .., .tab .. | .agg .., .row .. | .agg .., .fptr _ | .agg .., .sl .. | .agg .., .ptr .. | .agg .., .clo .. | .agg .., .tup _ | .agg .., .anyb | .agg .., .tri .. | .agg .., .unk | .agg .., .opt .. | .agg .., .raw _ => by cases b <;> rfl
  | .tab .., .int .. | .tab .., .bool _ | .tab .., .str .. | .tab .., .agg .. | .tab .., .row .. | .tab .., .fptr _ | .tab .., .sl .. | .tab .., .ptr .. | .tab .., .clo .. | .tab .., .tup _ | .tab .., .anyb | .tab .., .tri .. | .tab .., .unk | .tab .., .opt .. | .tab .., .raw _ => by cases b <;> rfl
  | .row .., .int .. | .row .., .bool _ | .row .., .str .. | .row .., .agg .. | .row .., .tab .. | .row .., .fptr _ | .row .., .sl .. | .row .., .ptr .. | .row .., .clo .. | .row .., .tup _ | .row .., .anyb | .row .., .tri .. | .row .., .unk | .row .., .opt .. | .row .., .raw _ => by cases b <;> rfl
  | .fptr _, .int .. | .fptr _, .bool _ | .fptr _, .str .. | .fptr _, .agg .. | .fptr _, .tab .. | .fptr _, .row .. | .fptr _, .sl .. | .fptr _, .ptr .. | .fptr _, .clo .. | .fptr _, .tup _ | .fptr _, .anyb | .fptr _, .tri .. | .fptr _, .unk | .fptr _, .opt .. | .fptr _, .raw _ => by cases b <;> rfl
  | .sl .., u => by cases b <;> cases u <;> rfl
  | .ptr .., u => by cases b <;> cases u <;> rfl
  | .clo .., u => by cases b <;> cases u <;> rfl
  | .tup _, u => by cases b <;> cases u <;> rfl
  | .anyb, u => by cases b <;> cases u <;> rfl
  | .tri .., u => by cases b <;> cases u <;> rfl
  | .unk, u => by cases b <;> cases u <;> rfl
  | .opt .., u => by cases b <;> cases u <;> rfl
  | .raw _, u => by cases b <;> cases u <;> rfl
theorem cons_mrgs (b : Bool) : ∀ ts us : List XV, ts.length = us.length → cons (mrgs b ts us) = bif b then cons ts else cons us
  | [], [], _ => by cases b <;> rfl
  | t :: ts, u :: us, h => by
    simp only [mrgs, cons, con_mrg b t u, cons_mrgs b ts us (by simpa using h)]
    cases b <;> rfl
  | [], u :: us, h => by simp at h
  | t :: ts, [], h => by simp at h
end

/-- The element at a place of a list. -/
def sel : List XV → Nat → XV
  | [], _ => .unk
  | [a], _ => a
  | a :: b :: r, i => mrg (Nat.beq i 0) a (sel (b :: r) (i - 1))

theorem con_sel : ∀ (l : List XV) (i : Nat) (a : XV), l[i]? = some a → con (sel l i) = con a
  | [], i, a, h => by simp at h
  | [x], i, a, h => by
    cases i with
    | zero => simp only [List.getElem?_cons_zero, Option.some.injEq] at h; subst h; rfl
    | succ i => simp at h
  | x :: y :: r, 0, a, h => by
    simp only [List.getElem?_cons_zero, Option.some.injEq] at h
    subst h
    simp only [sel, con_mrg]
    rfl
  | x :: y :: r, i + 1, a, h => by
    simp only [sel, con_mrg]
    have := con_sel (y :: r) i a (by simpa using h)
    rw [show Nat.beq (i + 1) 0 = false from rfl, cond_false, Nat.add_sub_cancel]
    exact this

theorem con_selL (l : List XV) : cons l = tabL l.length fun i => con (sel l i) := by
  rw [cons_map]
  refine tabL_eq (by simp) fun i hi => ?_
  rw [List.getElem?_map, List.getElem?_eq_getElem hi, Option.map_some, con_sel l i l[i] (List.getElem?_eq_getElem hi)]

def sameV : Value → Value → Bool
  | .int k n, .int k' n' => decide (k = k') && decide (n = n')
  | .bool b, .bool b' => b == b'
  | _, _ => false
theorem sameV_eq {v w : Value} (h : sameV v w = true) : v = w := by
  unfold sameV at h
  split at h
  · simp only [Bool.and_eq_true, decide_eq_true_eq] at h
    rw [h.1, h.2]
  · simp only [beq_iff_eq] at h
    rw [h]
  · cases h
def nilL {α : Type} : List α → Bool
  | [] => true
  | _ => false
mutual
/-- Constants that are plainly one. -/
def sameC : AV → AV → Bool
  | .sc v, .sc w => sameV v w
  | .agg n ts, .agg n' us => Nat.beq n n' && sameCs ts us
  | .fro x es ts, .fro x' es' us => (x == x') && Nat.beq es es' && nilL ts && nilL us
  | .arr n es ts, .arr n' es' us => Nat.beq n n' && Nat.beq es es' && sameCs ts us
  | _, _ => false
def sameCs : List AV → List AV → Bool
  | [], [] => true
  | t :: ts, u :: us => sameC t u && sameCs ts us
  | _, _ => false
end
mutual
theorem sameC_eq : ∀ t u : AV, sameC t u = true → t = u
  | .sc v, u, h => by
    cases u <;> first | (simp only [sameC] at h; rw [sameV_eq h]) | (simp [sameC] at h)
  | .agg n ts, u, h => by
    cases u <;> first | (simp only [sameC, Bool.and_eq_true] at h; rw [Nat.eq_of_beq_eq_true h.1, sameCs_eq ts _ h.2]) | (simp [sameC] at h)
  | .fro x es ts, u, h => by
    cases u <;> first | (simp only [sameC, Bool.and_eq_true, beq_iff_eq] at h; cases ts <;> rename_i ts' <;> cases ts' <;> first | (rw [h.1.1.1, Nat.eq_of_beq_eq_true h.1.1.2]; done) | (simp [nilL] at h)) | (simp [sameC] at h)
  | .arr n es ts, u, h => by
    cases u <;> first | (simp only [sameC, Bool.and_eq_true] at h; rw [Nat.eq_of_beq_eq_true h.1.1, Nat.eq_of_beq_eq_true h.1.2, sameCs_eq ts _ h.2]) | (simp [sameC] at h)
  | .fptr _, u, h => by cases u <;> simp [sameC] at h
  | .sl .., u, h => by cases u <;> simp [sameC] at h
  | .ptr .., u, h => by cases u <;> simp [sameC] at h
  | .clo .., u, h => by cases u <;> simp [sameC] at h
  | .tup _, u, h => by cases u <;> simp [sameC] at h
  | .anyb, u, h => by cases u <;> simp [sameC] at h
  | .unk, u, h => by cases u <;> simp [sameC] at h
theorem sameCs_eq : ∀ ts us : List AV, sameCs ts us = true → ts = us
  | [], [], _ => rfl
  | t :: ts, u :: us, h => by
    simp only [sameCs, Bool.and_eq_true] at h
    rw [sameC_eq t u h.1, sameCs_eq ts us h.2]
  | [], _ :: _, h => by simp [sameCs] at h
  | _ :: _, [], h => by simp [sameCs] at h
end

def sameAll : List AV → Bool
  | [] => true
  | t :: ts => ts.all (sameC t)

mutual
/-- A constant. -/
def lift : AV → XV
  | .sc (.int k n) => .int k n
  | .sc (.bool b) => .bool b
  | .agg n ts => .agg n (lifts ts)
  | .arr n es ts => bif Nat.beq ts.length n then (bif sameAll ts then .tab n es (fun _ => sel (lifts ts) 0) else .tab n es (sel (lifts ts))) else .raw (.arr n es ts)
  | .fro x es ts => bif nilL ts then .row x es 0 (fun _ => .unk) else .row x es ts.length (sel (lifts ts))
  | .clo f cs => .clo f (lifts cs)
  | .tup ts => .tup (lifts ts)
  | v => .raw v
def lifts : List AV → List XV
  | [] => []
  | t :: ts => lift t :: lifts ts
end

theorem lifts_len : ∀ ts : List AV, (lifts ts).length = ts.length
  | [] => rfl
  | t :: ts => by simp [lifts, lifts_len ts]

mutual
theorem con_lift : ∀ v : AV, con (lift v) = v
  | .sc v => by cases v <;> rfl
  | .agg n ts => by simp [lift, con, cons_lifts ts]
  | .arr n es ts => by
    simp only [lift]
    cases h : Nat.beq ts.length n
    · rfl
    · have h1 := Nat.eq_of_beq_eq_true h
      subst h1
      have h2 := con_selL (lifts ts)
      rw [cons_lifts ts, lifts_len] at h2
      cases h3 : sameAll ts
      · simp only [cond_true, cond_false, con]
        rw [← h2]
      · simp only [cond_true, con]
        congr 1
        refine (tabL_eq rfl fun i hi => ?_).symm
        rw [List.getElem?_eq_getElem hi]
        cases ts with
        | nil => simp at hi
        | cons t r =>
          have h4 : (t :: r)[i] = t := by
            cases i with
            | zero => rfl
            | succ i =>
              simp only [sameAll, List.all_eq_true] at h3
              exact (sameC_eq t _ (h3 _ (List.getElem_mem (by simpa using hi)))).symm
          rw [h4]
          have h5 := con_sel (lifts (t :: r)) 0 (lift t) rfl
          rw [h5, con_lift t]
  | .fro x es ts => by
    simp only [lift]
    cases h : nilL ts
    · simp only [cond_false, con]
      have h2 := con_selL (lifts ts)
      rw [cons_lifts ts, lifts_len] at h2
      rw [← h2]
    · cases ts with
      | nil => rfl
      | cons t r => cases h
  | .clo f cs => by simp [lift, con, cons_lifts cs]
  | .tup ts => by simp [lift, con, cons_lifts ts]
  | .fptr _ => rfl
  | .sl .. => rfl
  | .ptr .. => rfl
  | .anyb => rfl
  | .unk => rfl
theorem cons_lifts : ∀ ts : List AV, cons (lifts ts) = ts
  | [] => rfl
  | t :: ts => by simp [lifts, cons, con_lift t, cons_lifts ts]
end
end Go.Ra
