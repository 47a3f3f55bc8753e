/- Rewriting rules for walks over abstract code. -/
import Derived.Test.YtfobbfdbojednaaRaA
import Derived.IntWalk
namespace Go.Ra
set_option linter.unusedVariables false

def wpE (C : Orc) (e : Option (AV × St)) (d : Option Nat) (r : List AG) (K : St → Prop) : Prop :=
  match e with
  | some (v, σ) => wpOps C r (σ.put d v) K
  | none => False

def wpG (v : AV) (b : Bool) (p q : Prop) : Prop :=
  match v with
  | .sc (.bool b') => (b' = b → p) ∧ (b' ≠ b → q)
  | .tup [] => q
  | _ => False

def wpGd (C : Orc) (v : AV) (b : Bool) (d : Option Nat) (o : AOp) (r : List AG) (σ : St) (K : St → Prop) : Prop :=
  wpG v b (wpOps C (⟨d, o, none⟩ :: r) σ K) (wpOps C r (σ.put d (.tup [])) K)

section
variable {C : Orc} {d : Option Nat} {r : List AG} {σ : St} {K : St → Prop}
theorem wpE_some (v : AV) (σ : St) : wpE C (some (v, σ)) d r K = wpOps C r (σ.put d v) K := rfl
theorem wpE_if {c : Prop} [Decidable c] {x : Option (AV × St)} (hc : c) (h : wpE C x d r K) : wpE C (if c then x else none) d r K := by rw [if_pos hc]; exact h
theorem wpOps_nil : wpOps C [] σ K = K σ := rfl
theorem wpOps_mv (x : AX) : wpOps C (⟨d, .mv x, none⟩ :: r) σ K = wpOps C r (σ.put d (σ.ev x)) K := rfl
theorem wpOps_pick (c a b : AX) : wpOps C (⟨d, .pick c a b, none⟩ :: r) σ K = wpE C (stepE (.pick c a b) σ) d r K := rfl
theorem wpOps_box (x : AX) : wpOps C (⟨d, .box x, none⟩ :: r) σ K = wpE C (stepE (.box x) σ) d r K := rfl
theorem wpOps_build (n : Nat) (z : List AV) (p : List (Nat × AX)) : wpOps C (⟨d, .build n z p, none⟩ :: r) σ K = wpE C (stepE (.build n z p) σ) d r K := rfl
theorem wpOps_barr (m n : Nat) (xs : List AX) : wpOps C (⟨d, .barr m n xs, none⟩ :: r) σ K = wpE C (stepE (.barr m n xs) σ) d r K := rfl
theorem wpOps_bsl (n : Nat) (xs : List AX) : wpOps C (⟨d, .bsl n xs, none⟩ :: r) σ K = wpE C (stepE (.bsl n xs) σ) d r K := rfl
theorem wpOps_load (a : Bool) (n : Nat) (x : AX) : wpOps C (⟨d, .load a n x, none⟩ :: r) σ K = wpE C (stepE (.load a n x) σ) d r K := rfl
theorem wpOps_store (n : Nat) (x v : AX) : wpOps C (⟨d, .store n x v, none⟩ :: r) σ K = wpE C (stepE (.store n x v) σ) d r K := rfl
theorem wpOps_nilck (x : AX) : wpOps C (⟨d, .nilck x, none⟩ :: r) σ K = wpE C (stepE (.nilck x) σ) d r K := rfl
theorem wpOps_bin (op : BinOp) (x y : AX) : wpOps C (⟨d, .bin op x y, none⟩ :: r) σ K = wpE C (stepE (.bin op x y) σ) d r K := rfl
theorem wpOps_eqn (b : Bool) (x : AX) : wpOps C (⟨d, .eqn b x, none⟩ :: r) σ K = wpE C (stepE (.eqn b x) σ) d r K := rfl
theorem wpOps_eqs (b : Bool) (t : TS) (x y : AX) : wpOps C (⟨d, .eqs b t x y, none⟩ :: r) σ K = wpE C (stepE (.eqs b t x y) σ) d r K := rfl
theorem wpOps_un (op : UnOp) (x : AX) : wpOps C (⟨d, .un op x, none⟩ :: r) σ K = wpE C (stepE (.un op x) σ) d r K := rfl
theorem wpOps_conv (k : IntKind) (x : AX) : wpOps C (⟨d, .conv k x, none⟩ :: r) σ K = wpE C (stepE (.conv k x) σ) d r K := rfl
theorem wpOps_b2s (x : AX) : wpOps C (⟨d, .b2s x, none⟩ :: r) σ K = wpE C (stepE (.b2s x) σ) d r K := rfl
theorem wpOps_slice (n : Nat) (x : AX) (a b : Option AX) : wpOps C (⟨d, .slice n x a b, none⟩ :: r) σ K = wpE C (stepE (.slice n x a b) σ) d r K := rfl
theorem wpOps_aslice (m n : Nat) (x : AX) (a b : Option AX) : wpOps C (⟨d, .aslice m n x a b, none⟩ :: r) σ K = wpE C (stepE (.aslice m n x a b) σ) d r K := rfl
theorem wpOps_fadr (i o n : Nat) (x : AX) : wpOps C (⟨d, .fadr i o n x, none⟩ :: r) σ K = wpE C (stepE (.fadr i o n x) σ) d r K := rfl
theorem wpOps_iadr (a : Option Nat) (n : Nat) (x i : AX) : wpOps C (⟨d, .iadr a n x i, none⟩ :: r) σ K = wpE C (stepE (.iadr a n x i) σ) d r K := rfl
theorem wpOps_ext (x : AX) (i : Nat) : wpOps C (⟨d, .ext x i, none⟩ :: r) σ K = wpE C (stepE (.ext x i) σ) d r K := rfl
theorem wpOps_mkf (f : Nat) (xs : List AX) : wpOps C (⟨d, .mkf f xs, none⟩ :: r) σ K = wpE C (stepE (.mkf f xs) σ) d r K := rfl
theorem wpOps_mks (a b : Nat) (z : AV) (x : AX) : wpOps C (⟨d, .mks a b z x, none⟩ :: r) σ K = wpE C (stepE (.mks a b z x) σ) d r K := rfl
theorem wpOps_app (a b : Nat) (x y : AX) : wpOps C (⟨d, .app a b x y, none⟩ :: r) σ K = wpE C (stepE (.app a b x y) σ) d r K := rfl
theorem wpOps_appf (a b : Nat) (x : AX) : wpOps C (⟨d, .appf a b x, none⟩ :: r) σ K = wpE C (stepE (.appf a b x) σ) d r K := rfl
theorem wpOps_mksf (a b : Nat) (z : AV) (x : AX) : wpOps C (⟨d, .mksf a b z x, none⟩ :: r) σ K = wpE C (stepE (.mksf a b z x) σ) d r K := rfl
theorem wpOps_len (a : Option Nat) (x : AX) : wpOps C (⟨d, .len a x, none⟩ :: r) σ K = wpE C (stepE (.len a x) σ) d r K := rfl
theorem wpOps_lens (x : AX) : wpOps C (⟨d, .lens x, none⟩ :: r) σ K = wpE C (stepE (.lens x) σ) d r K := rfl
theorem wpOps_copy (n : Nat) (x y : AX) : wpOps C (⟨d, .copy n x y, none⟩ :: r) σ K = wpE C (stepE (.copy n x y) σ) d r K := rfl
theorem wpOps_min (xs : List AX) : wpOps C (⟨d, .min xs, none⟩ :: r) σ K = wpE C (stepE (.min xs) σ) d r K := rfl
theorem wpOps_max (xs : List AX) : wpOps C (⟨d, .max xs, none⟩ :: r) σ K = wpE C (stepE (.max xs) σ) d r K := rfl
theorem wpOps_guard (o : AOp) (t : Nat) (b : Bool) : wpOps C (⟨d, o, some (t, b)⟩ :: r) σ K = wpGd C (get σ.env t) b d o r σ K := rfl
theorem wpG_tt (o : AOp) : wpGd C (.sc (.bool true)) true d o r σ K = wpOps C (⟨d, o, none⟩ :: r) σ K := by simp [wpGd, wpG]
theorem wpG_ff (o : AOp) : wpGd C (.sc (.bool false)) false d o r σ K = wpOps C (⟨d, o, none⟩ :: r) σ K := by simp [wpGd, wpG]
theorem wpG_tf (o : AOp) : wpGd C (.sc (.bool true)) false d o r σ K = wpOps C r (σ.put d (.tup [])) K := by simp [wpGd, wpG]
theorem wpG_ft (o : AOp) : wpGd C (.sc (.bool false)) true d o r σ K = wpOps C r (σ.put d (.tup [])) K := by simp [wpGd, wpG]
theorem wpG_n (b : Bool) (o : AOp) : wpGd C (.tup []) b d o r σ K = wpOps C r (σ.put d (.tup [])) K := rfl
theorem wpG_true {b' : Bool} {o : AOp} (h1 : b' = true → wpOps C (⟨d, o, none⟩ :: r) σ K) (h2 : b' = false → wpOps C r (σ.put d (.tup [])) K) : wpGd C (.sc (.bool b')) true d o r σ K :=
  ⟨h1, fun h => h2 (by simpa using h)⟩
theorem wpG_false {b' : Bool} {o : AOp} (h1 : b' = true → wpOps C r (σ.put d (.tup [])) K) (h2 : b' = false → wpOps C (⟨d, o, none⟩ :: r) σ K) : wpGd C (.sc (.bool b')) false d o r σ K :=
  ⟨h2, fun h => h1 (by simpa using h)⟩

variable {e : List (Nat × AV)} {hl : List (Nat × Option AV)} {hb : Nat → Option AV} {n : Nat}
theorem put_some (i : Nat) (v : AV) : St.put ⟨e, hl, hb, n⟩ (some i) v = ⟨(i, v) :: e, hl, hb, n⟩ := rfl
theorem put_none (v : AV) : St.put ⟨e, hl, hb, n⟩ none v = ⟨e, hl, hb, n⟩ := rfl
theorem ev_t (i : Nat) : St.ev ⟨e, hl, hb, n⟩ (.t i) = get e i := rfl
theorem ev_c (v : AV) : St.ev ⟨e, hl, hb, n⟩ (.c v) = v := rfl
theorem St_H : St.H ⟨e, hl, hb, n⟩ = look hl hb := rfl
theorem hput_mk (i : Nat) (t : Option AV) : St.hput ⟨e, hl, hb, n⟩ i t = ⟨e, hset hl i t, hb, n⟩ := rfl
theorem new_mk (t : AV) : St.new ⟨e, hl, hb, n⟩ t = ⟨e, (n, some t) :: hl, hb, n + 1⟩ := rfl
theorem get_self (i : Nat) (v : AV) : get ((i, v) :: e) i = v := by simp [get]
theorem get_ne (i k : Nat) (v : AV) (h : ¬ i = k) : get ((k, v) :: e) i = get e i := by simp [get, h]
theorem get_cons (i k : Nat) (v : AV) : get ((k, v) :: e) i = if i = k then v else get e i := rfl
theorem look_cons (i k : Nat) (v : Option AV) : look ((k, v) :: hl) hb i = if i = k then v else look hl hb i := rfl
theorem look_nil (i : Nat) : look [] hb i = hb i := rfl
theorem hset_nil (i : Nat) (t : Option AV) : hset [] i t = [(i, t)] := rfl
theorem hset_cons (i k : Nat) (v t : Option AV) : hset ((k, v) :: hl) i t = if i = k then (k, t) :: hl else (k, v) :: hset hl i t := rfl
end

/-- What stands behind, out of the sight of simp. -/
structure KK (K P : St → Prop) : Prop where
  out : ∀ σ, P σ → K σ

def cnd (v : AV) (p q : Prop) : Prop :=
  match v with
  | .sc (.bool b) => (b = true → p) ∧ (b = false → q)
  | .anyb => p ∧ q
  | _ => False

def cndd (C : Orc) (v : AV) (x y : AC) (σ : St) (Φ : AE → St → Prop) : Prop := cnd v (wpC C x σ Φ) (wpC C y σ Φ)

section
variable {C : Orc} {σ : St} {Φ : AE → St → Prop}
theorem cnd_t (x y : AC) : cndd C (.sc (.bool true)) x y σ Φ = wpC C x σ Φ := by simp [cndd, cnd]
theorem cnd_f (x y : AC) : cndd C (.sc (.bool false)) x y σ Φ = wpC C y σ Φ := by simp [cndd, cnd]
theorem cnd_any {x y : AC} (hp : wpC C x σ Φ) (hq : wpC C y σ Φ) : cndd C .anyb x y σ Φ := ⟨hp, hq⟩
theorem cnd_split {b : Bool} {x y : AC} (hp : b = true → wpC C x σ Φ) (hq : b = false → wpC C y σ Φ) : cndd C (.sc (.bool b)) x y σ Φ := ⟨hp, hq⟩
theorem wpC_skip (h : Φ .normal σ) : wpC C .skip σ Φ := h
theorem wpC_ops {l : List AG} (h : wpOps C l σ (Φ .normal)) : wpC C (.ops l) σ Φ := h
theorem wpC_ret (h : Φ .ret σ) : wpC C .ret σ Φ := h
theorem wpC_exit {i : Nat} (h : Φ (.exit i) σ) : wpC C (.exit i) σ Φ := h
theorem wpC_block {i : Nat} {c : AC} (h : wpC C c σ (AE.inBlock i Φ)) : wpC C (.block i c) σ Φ := h
theorem wpC_cond (c : AX) (x y : AC) : wpC C (.cond c x y) σ Φ = cndd C (σ.ev c) x y σ Φ := rfl
theorem wpC_seq {a b : AC} (h : ∀ K : St → Prop, KK K (fun σ => wpC C b σ Φ) → wpC C a σ (AE.then K Φ)) : wpC C (.seq a b) σ Φ := h _ ⟨fun _ h => h⟩
theorem then_normal {K : St → Prop} (h : K σ) : AE.then K Φ .normal σ := h
theorem then_ret {K : St → Prop} (h : Φ .ret σ) : AE.then K Φ .ret σ := h
theorem then_exit {K : St → Prop} {i : Nat} (h : Φ (.exit i) σ) : AE.then K Φ (.exit i) σ := h
theorem inBlock_normal {i : Nat} (h : Φ .normal σ) : AE.inBlock i Φ .normal σ := h
theorem inBlock_ret {i : Nat} (h : Φ .ret σ) : AE.inBlock i Φ .ret σ := h
theorem inBlock_self {i : Nat} (h : Φ .normal σ) : AE.inBlock i Φ (.exit i) σ := by simp [AE.inBlock]; exact h
theorem inBlock_other {i j : Nat} (hj : ¬ j = i) (h : Φ (.exit j) σ) : AE.inBlock i Φ (.exit j) σ := by simp [AE.inBlock, hj]; exact h
end
section
variable {k : IntKind} {a b : Int}
theorem intBin_add : intBin .add k a b = some (.int k (k.wrap (a + b))) := rfl
theorem intBin_sub : intBin .sub k a b = some (.int k (k.wrap (a - b))) := rfl
theorem intBin_mul : intBin .mul k a b = some (.int k (k.wrap (a * b))) := rfl
theorem intBin_quo (h : ¬ b = 0) : intBin .quo k a b = some (.int k (k.wrap (a.tdiv b))) := by simp [intBin, h]
theorem intBin_rem (h : ¬ b = 0) : intBin .rem k a b = some (.int k (a.tmod b)) := by simp [intBin, h]
theorem intBin_and : intBin .and k a b = some (.int k (bitsI .and k a b)) := rfl
theorem intBin_or : intBin .or k a b = some (.int k (bitsI .or k a b)) := rfl
theorem intBin_xor : intBin .xor k a b = some (.int k (bitsI .xor k a b)) := rfl
theorem intBin_eql : intBin .eql k a b = some (.bool (decide (a = b))) := rfl
theorem intBin_neq : intBin .neq k a b = some (.bool (decide (¬ a = b))) := rfl
theorem intBin_lss : intBin .lss k a b = some (.bool (decide (a < b))) := rfl
theorem intBin_leq : intBin .leq k a b = some (.bool (decide (a ≤ b))) := rfl
theorem intBin_gtr : intBin .gtr k a b = some (.bool (decide (a > b))) := rfl
theorem intBin_geq : intBin .geq k a b = some (.bool (decide (a ≥ b))) := rfl
theorem wrap_i64 {x : Int} (h1 : -9223372036854775808 ≤ x) (h2 : x ≤ 9223372036854775807) : IntKind.i64.wrap x = x := IntWalk.i64_in x ⟨h1, h2⟩
theorem wrap_u32 {x : Int} (h1 : 0 ≤ x) (h2 : x ≤ 4294967295) : IntKind.u32.wrap x = x := IntWalk.u32_in x ⟨h1, h2⟩
theorem wrap_u8 {x : Int} (h1 : 0 ≤ x) (h2 : x ≤ 255) : IntKind.u8.wrap x = x := IntWalk.u8_in x ⟨h1, h2⟩
theorem tmod_nn (h1 : 0 ≤ a) : a.tmod b = a % b := Int.tmod_eq_emod_of_nonneg h1
theorem tdiv_nn (h1 : 0 ≤ a) : a.tdiv b = a / b := Int.tdiv_eq_ediv_of_nonneg h1
end
section
theorem isAgg_sc (v : Value) : AV.isAgg (.sc v) = false := rfl
theorem size_sc (v : Value) : AV.size (.sc v) = 1 := rfl
theorem storable_sc (v : Value) : AV.storable (.sc v) = true := rfl
theorem isAgg_agg (n : Nat) (ts : List AV) : AV.isAgg (.agg n ts) = true := rfl
theorem size_agg (n : Nat) (ts : List AV) : AV.size (.agg n ts) = n := rfl
theorem storable_agg (n : Nat) (ts : List AV) : AV.storable (.agg n ts) = true := rfl
theorem isAgg_arr (n es : Nat) (ts : List AV) : AV.isAgg (.arr n es ts) = true := rfl
theorem size_arr (n es : Nat) (ts : List AV) : AV.size (.arr n es ts) = n * es := rfl
theorem storable_arr (n es : Nat) (ts : List AV) : AV.storable (.arr n es ts) = true := rfl
theorem isAgg_fro (x : Bool) (es : Nat) (ts : List AV) : AV.isAgg (.fro x es ts) = false := rfl
theorem size_fro (x : Bool) (es : Nat) (ts : List AV) : AV.size (.fro x es ts) = 1 := rfl
theorem storable_fro (x : Bool) (es : Nat) (ts : List AV) : AV.storable (.fro x es ts) = true := rfl
theorem isAgg_fptr (t : AV) : AV.isAgg (.fptr t) = false := rfl
theorem size_fptr (t : AV) : AV.size (.fptr t) = 1 := rfl
theorem storable_fptr (t : AV) : AV.storable (.fptr t) = true := rfl
theorem isAgg_sl (id : Nat) (path : List Nat) (off k len es : Nat) : AV.isAgg (.sl id path off k len es) = false := rfl
theorem size_sl (id : Nat) (path : List Nat) (off k len es : Nat) : AV.size (.sl id path off k len es) = 1 := rfl
theorem storable_sl (id : Nat) (path : List Nat) (off k len es : Nat) : AV.storable (.sl id path off k len es) = true := rfl
theorem isAgg_ptr (id : Nat) (path : List Nat) (off : Nat) : AV.isAgg (.ptr id path off) = false := rfl
theorem size_ptr (id : Nat) (path : List Nat) (off : Nat) : AV.size (.ptr id path off) = 1 := rfl
theorem storable_ptr (id : Nat) (path : List Nat) (off : Nat) : AV.storable (.ptr id path off) = true := rfl
theorem isAgg_clo (f : Nat) (caps : List AV) : AV.isAgg (.clo f caps) = false := rfl
theorem size_clo (f : Nat) (caps : List AV) : AV.size (.clo f caps) = 1 := rfl
theorem storable_clo (f : Nat) (caps : List AV) : AV.storable (.clo f caps) = true := rfl
end
end Go.Ra
