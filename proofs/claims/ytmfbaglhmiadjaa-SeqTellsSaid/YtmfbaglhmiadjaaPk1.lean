/- Texts put together. -/
import GoSem.Dispatch
import GoSem.Core.Region
import GoSem.Core.Layout
import Derived.Laws.AppendOwn
import Derived.Laws.IdiomCopy
import Derived.Laws.Rows
import Derived.Still
import Derived.Below
import Derived.WalkKit
import Derived.Laws.Bits
import Derived.Laws.MakeOwn
import Derived.IntWalk
import Derived.Tactics
import Derived.Orders
/- Abstract values, abstract code and its step function: no theorem on Go here. -/
namespace Go.Ra
set_option linter.unusedVariables false

/-- Abstract values. -/
inductive AV where
  | sc (v : Value)
  | agg (n : Nat) (ts : List AV)
  | arr (n es : Nat) (ts : List AV)
  | fro (x : Bool) (es : Nat) (ts : List AV)
  | fptr (t : AV)
  | sl (id : Nat) (path : List Nat) (off k len es : Nat)
  | ptr (id : Nat) (path : List Nat) (off : Nat)
  | clo (f : Nat) (caps : List AV)
  | tup (vs : List AV)
  | anyb
  | unk
  deriving Inhabited

def AV.size : AV → Nat
  | .agg n _ => n
  | .arr n es _ => n * es
  | _ => 1

def AV.isAgg : AV → Bool
  | .agg _ _ => true
  | .arr _ _ _ => true
  | _ => false

def I (n : Int) : AV := .sc (.int .i64 n)
def U32 (n : Int) : AV := .sc (.int .u32 n)
def U8 (n : Int) : AV := .sc (.int .u8 n)
def B (b : Bool) : AV := .sc (.bool b)

/-- Operands of abstract code. -/
inductive AX where
  | t (i : Nat)
  | c (v : AV)
  deriving Inhabited

/-- Shapes of types whose values can be compared. -/
inductive TS where
  | int
  | bool
  | agg (l : List (Nat × TS))
  | arr (n es : Nat) (e : TS)
  deriving Inhabited

/-- Abstract operations: all that hangs on types is resolved. -/
inductive AOp where
  | mv (x : AX)
  | pick (c a b : AX)
  | box (x : AX)                                          -- a new variable
  | build (n : Nat) (zero : List AV) (parts : List (Nat × AX))      -- a struct
  | bsl (es : Nat) (xs : List AX)                         -- a slice literal without gaps
  | barr (n es : Nat) (xs : List AX)                      -- an array literal without gaps
  | load (ag : Bool) (n : Nat) (x : AX)
  | store (n : Nat) (x v : AX)
  | nilck (x : AX)
  | bin (op : BinOp) (x y : AX)
  | eqs (neg : Bool) (ts : TS) (x y : AX)                 -- == and != of bools, structs and arrays
  | eqn (neg : Bool) (x : AX)                             -- == and != of a slice and nil
  | un (op : UnOp) (x : AX)
  | conv (k : IntKind) (x : AX)
  | b2s (x : AX)                                          -- []byte to string
  | slice (es : Nat) (x : AX) (lo hi : Option AX)         -- of a slice
  | aslice (n es : Nat) (x : AX) (lo hi : Option AX)      -- of an array behind a pointer
  | fadr (i off n : Nat) (x : AX)
  | iadr (arr : Option Nat) (es : Nat) (x i : AX)
  | ext (x : AX) (i : Nat)
  | mkf (f : Nat) (caps : List AX)
  | mks (es bytes : Nat) (zero : AV) (len : AX)           -- make([]T, len)
  | app (es bytes : Nat) (s x : AX)
  | appf (es bytes : Nat) (x : AX)                        -- append([]T(nil), x...), for reading
  | mksf (es bytes : Nat) (zero : AV) (len : AX)          -- make([]T, len), for reading
  | len (arr : Option Nat) (x : AX)
  | lens (x : AX)
  | copy (es : Nat) (x y : AX)
  | min (xs : List AX)
  | max (xs : List AX)
  | call (f : Nat) (args : List AX)
  | callv (f : AX) (args : List AX)
  | callq (f : Nat) (args : List AX)                     -- a call that leaves memory alone, by its contract
  deriving Inhabited

structure AG where
  d : Option Nat
  o : AOp
  g : Option (Nat × Bool) := none
  deriving Inhabited

inductive AC where
  | skip
  | ops (l : List AG)
  | opsD (l : List AG) (ps : List (Nat × Nat))   -- the same, where the addresses in these names must lie apart
  | seq (a b : AC)
  | cond (c : AX) (x y : AC)
  | block (id : Nat) (c : AC)
  | loop (c : AC)
  | exit (id : Nat)
  | ret
  | frz                                          -- own rows are not written any more
  deriving Inhabited

/-- Abstract states. -/
structure St where
  env : List (Nat × AV)
  hl : List (Nat × Option AV)
  hb : Nat → Option AV
  n : Nat

def get : List (Nat × AV) → Nat → AV
  | [], _ => .unk
  | (k, v) :: l, i => if i = k then v else get l i

def look : List (Nat × Option AV) → (Nat → Option AV) → Nat → Option AV
  | [], h, i => h i
  | (k, v) :: l, h, i => if i = k then v else look l h i

def hset : List (Nat × Option AV) → Nat → Option AV → List (Nat × Option AV)
  | [], i, t => [(i, t)]
  | (k, v) :: l, i, t => if i = k then (k, t) :: l else (k, v) :: hset l i t

def St.ev (σ : St) : AX → AV
  | .t i => get σ.env i
  | .c v => v
def St.H (σ : St) : Nat → Option AV := look σ.hl σ.hb
def St.put (σ : St) (d : Option Nat) (v : AV) : St :=
  match d with
  | some d => ⟨(d, v) :: σ.env, σ.hl, σ.hb, σ.n⟩
  | none => σ
def St.hput (σ : St) (i : Nat) (t : Option AV) : St := ⟨σ.env, hset σ.hl i t, σ.hb, σ.n⟩
def St.new (σ : St) (t : AV) : St := ⟨σ.env, (σ.n, some t) :: σ.hl, σ.hb, σ.n + 1⟩

def sizes : List AV → Nat
  | [] => 0
  | t :: ts => t.size + sizes ts

/-- The part at a path, and how many cells lie ahead of it. -/
def AV.at? : AV → List Nat → Option (Nat × AV)
  | t, [] => some (0, t)
  | .agg _ ts, i :: p =>
    match ts[i]? with
    | some t =>
      match AV.at? t p with
      | some (o, u) => some (sizes (ts.take i) + o, u)
      | none => none
    | none => none
  | .arr _ es ts, i :: p =>
    match ts[i]? with
    | some t =>
      match AV.at? t p with
      | some (o, u) => some (i * es + o, u)
      | none => none
    | none => none
  | _, _ :: _ => none
  termination_by t p => p.length

mutual
/-- No name of own memory stands in it. -/
def AV.idfree : AV → Bool
  | .agg _ ts => AV.idfrees ts
  | .clo _ cs => AV.idfrees cs
  | .sl .. => false
  | .ptr .. => false
  | .tup _ => false
  | _ => true
def AV.idfrees : List AV → Bool
  | [] => true
  | t :: ts => t.idfree && AV.idfrees ts
end

def AV.set? : AV → List Nat → AV → Option AV
  | _, [], v => some v
  | .agg n ts, i :: p, v =>
    match ts[i]? with
    | some t =>
      match AV.set? t p v with
      | some u => some (.agg n (ts.set i u))
      | none => none
    | none => none
  | .arr n es ts, i :: p, v =>
    match ts[i]? with
    | some t =>
      match AV.set? t p v with
      | some u => if v.idfree then some (.arr n es (ts.set i u)) else none
      | none => none
    | none => none
  | _, _ :: _, _ => none
  termination_by t p _ => p.length

def AV.storable : AV → Bool
  | .tup _ => false
  | .anyb => false
  | .unk => false
  | _ => true

/-- The elements of a slice. -/
def St.row (σ : St) (es : Nat) : AV → Option (List AV)
  | .fro _ es' ts => if es' = es ∨ ts = [] then some ts else none
  | .sl id path off k len es2 => if len = 0 then some [] else
    match σ.H id with
    | some t =>
      match t.at? path with
      | some (o, .arr _ es' ts) => if es2 = es ∧ es' = es ∧ off = o + k * es ∧ k + len ≤ ts.length then some ((ts.drop k).take len) else none
      | _ => none
    | none => none
  | _ => none

def St.loadA (σ : St) : AV → Option AV
  | .fptr t => some t
  | .ptr id path off =>
    match σ.H id with
    | some t =>
      match t.at? path with
      | some (o, u) => if o = off then some u else none
      | none => none
    | none => none
  | _ => none

def bitsI (op : BinOp) (k : IntKind) (a b : Int) : Int :=
  match op with
  | .and => k.wrap (BitVec.ofInt k.bits a &&& BitVec.ofInt k.bits b).toNat
  | .or => k.wrap (BitVec.ofInt k.bits a ||| BitVec.ofInt k.bits b).toNat
  | .xor => k.wrap (BitVec.ofInt k.bits a ^^^ BitVec.ofInt k.bits b).toNat
  | _ => k.wrap (BitVec.ofInt k.bits a &&& ~~~ BitVec.ofInt k.bits b).toNat

def intBin (op : BinOp) (k : IntKind) (a b : Int) : Option Value :=
  match op with
  | .add => some (.int k (k.wrap (a + b)))
  | .sub => some (.int k (k.wrap (a - b)))
  | .mul => some (.int k (k.wrap (a * b)))
  | .quo => if b = 0 then none else some (.int k (k.wrap (a.tdiv b)))
  | .rem => if b = 0 then none else some (.int k (a.tmod b))
  | .and => some (.int k (bitsI .and k a b))
  | .or => some (.int k (bitsI .or k a b))
  | .xor => some (.int k (bitsI .xor k a b))
  | .andNot => some (.int k (bitsI .andNot k a b))
  | .eql => some (.bool (decide (a = b)))
  | .neq => some (.bool (decide (¬ a = b)))
  | .lss => some (.bool (decide (a < b)))
  | .leq => some (.bool (decide (a ≤ b)))
  | .gtr => some (.bool (decide (a > b)))
  | .geq => some (.bool (decide (a ≥ b)))
  | _ => none

def shI (op : BinOp) (k : IntKind) (a b : Int) : Option Value :=
  if b < 0 then none else
  match op with
  | .shl => some (.int k (k.wrap (a * 2 ^ (Nat.min b.toNat k.bits))))
  | .shr => some (.int k (a.fdiv (2 ^ (Nat.min b.toNat k.bits))))
  | _ => none

def isShift : BinOp → Bool
  | .shl => true
  | .shr => true
  | _ => false

def binV (op : BinOp) (x y : Value) : Option Value :=
  match x, y with
  | .int k a, .int k' b => if isShift op then shI op k a b else if k = k' then intBin op k a b else none
  | .string a, .string b =>
    match op with
    | .eql => some (.bool (decide (a.toList = b.toList)))
    | .neq => some (.bool (!decide (a.toList = b.toList)))
    | .add => if a.size + b.size ≤ 140737488351232 then some (.string (a ++ b)) else none
    | _ => none
  | _, _ => none

mutual
/-- == of two values of a shape. -/
def eqT : TS → AV → AV → Option Bool
  | .int, .sc (.int k a), .sc (.int k' b) => if k = k' then some (decide (a = b)) else none
  | .bool, .sc (.bool a), .sc (.bool b) => some (a == b)
  | .agg l, .agg _ ts, .agg _ us => eqTs l ts us
  | .arr n es e, .arr _ es' ts, .arr _ es'' us => if es' = es ∧ es'' = es ∧ ts.length = n ∧ us.length = n then eqTe e ts us else none
  | _, _, _ => none
def eqTs : List (Nat × TS) → List AV → List AV → Option Bool
  | [], [], [] => some true
  | (n, e) :: l, t :: ts, u :: us =>
    if t.size = n ∧ u.size = n then
      match eqT e t u, eqTs l ts us with
      | some a, some b => some (a && b)
      | _, _ => none
    else none
  | _, _, _ => none
def eqTe (e : TS) : List AV → List AV → Option Bool
  | [], [] => some true
  | t :: ts, u :: us =>
    match eqT e t u, eqTe e ts us with
    | some a, some b => some (a && b)
    | _, _ => none
  | _, _ => none
end

def eqnV (neg : Bool) : AV → Option AV
  | .fro _ _ ts => some (if ts.isEmpty then .anyb else B neg)
  | .sl _ _ _ _ len _ => some (if len = 0 then .anyb else B neg)
  | _ => none

def notV : AV → Option AV
  | .sc (.bool b) => some (B (!b))
  | .anyb => some .anyb
  | _ => none

def bytesOf : List AV → Option (List UInt8)
  | [] => some []
  | .sc (.int .u8 n) :: l =>
    match bytesOf l with
    | some r => some (UInt8.ofNat n.toNat :: r)
    | none => none
  | _ :: _ => none

def asI : AV → Option Int
  | .sc (.int _ n) => some n
  | _ => none

def boundsA (len : Nat) (lo hi : Option AV) : Option (Nat × Nat) :=
  match (match lo with | some v => asI v | none => some 0), (match hi with | some v => asI v | none => some (len : Int)) with
  | some l, some h => if 0 ≤ l ∧ l ≤ h ∧ h ≤ len then some (l.toNat, h.toNat) else none
  | _, _ => none

def partsA (zero : List AV) : List (Nat × AV) → Option (List AV)
  | [] => some zero
  | (i, v) :: r =>
    match zero[i]? with
    | some z => if v.size = z.size ∧ v.storable = true ∧ v.isAgg = z.isAgg then partsA (zero.set i v) r else none
    | none => none

def allOk (es : Nat) : List AV → Bool
  | [] => true
  | v :: r => v.size == es && v.storable && v.idfree && allOk es r

def capsOk : List AV → Bool
  | [] => true
  | v :: r => v.storable && !v.isAgg && capsOk r

def appA (σ : St) (es bytes : Nat) (s : AV) (xs : List AV) : Option (AV × St) :=
  match s with
  | .fro true es' ts => if (es' = es ∨ ts = []) ∧ (ts = [] ∨ xs ≠ []) ∧ 0 < bytes ∧ (ts.length + xs.length) * bytes ≤ 140737488355328 then
      some (.sl σ.n [] 0 0 (ts.length + xs.length) es, σ.new (.arr (ts.length + xs.length) es (ts ++ xs))) else none
  | .sl id [] off k len es' =>
    match σ.H id with
    | some (.arr _ es'' ts) => if es'' = es ∧ es' = es ∧ off = k * es ∧ k + len ≤ ts.length ∧ 0 < bytes ∧ (len + xs.length) * bytes ≤ 140737488355328 then
        some (.sl σ.n [] 0 0 (len + xs.length) es, (σ.hput id none).new (.arr (len + xs.length) es ((ts.drop k).take len ++ xs))) else none
    | _ => none
  | _ => none

def foldJ (f : Int → Int → Int) (k : IntKind) (a : Int) : List AV → Option AV
  | [] => some (.sc (.int k a))
  | .sc (.int k' b) :: l => if k = k' then foldJ f k (f a b) l else none
  | _ => none

def foldI (f : Int → Int → Int) : List AV → Option AV
  | .sc (.int k a) :: l => foldJ f k a l
  | _ => none

def stepE (o : AOp) (σ : St) : Option (AV × St) :=
  match o with
  | .mv x => some (σ.ev x, σ)
  | .pick c a b =>
    match σ.ev c with
    | .sc (.bool b') => some (if b' then σ.ev a else σ.ev b, σ)
    | _ => none
  | .box x => if (σ.ev x).storable then some (.ptr σ.n [] 0, σ.new (σ.ev x)) else none
  | .build n zero parts =>
    match partsA zero (parts.map fun p => (p.1, σ.ev p.2)) with
    | some ts => some (.agg n ts, σ)
    | none => none
  | .barr n es xs => if allOk es (xs.map σ.ev) ∧ xs.length = n then some (.arr n es (xs.map σ.ev), σ) else none
  | .bsl es xs => if allOk es (xs.map σ.ev) then some (.fro true es (xs.map σ.ev), σ) else none
  | .load ag n x =>
    match σ.loadA (σ.ev x) with
    | some u => if u.isAgg = ag ∧ u.size = n then some (u, σ) else none
    | none => none
  | .store n x v =>
    match σ.ev x with
    | .ptr id path off =>
      match σ.H id with
      | some t =>
        match t.at? path, t.set? path (σ.ev v) with
        | some (o, u), some t' => if o = off ∧ u.size = n ∧ (σ.ev v).size = n ∧ (σ.ev v).storable = true then some (.tup [], σ.hput id (some t')) else none
        | _, _ => none
      | none => none
    | _ => none
  | .nilck x =>
    match σ.ev x with
    | .ptr id p o => some (.ptr id p o, σ)
    | .fptr t => some (.fptr t, σ)
    | .clo f c => some (.clo f c, σ)
    | _ => none
  | .bin op x y =>
    match σ.ev x, σ.ev y with
    | .sc a, .sc b =>
      match binV op a b with
      | some v => some (.sc v, σ)
      | none => none
    | _, _ => none
  | .eqs neg ts x y =>
    match eqT ts (σ.ev x) (σ.ev y) with
    | some b => some (B (if neg then !b else b), σ)
    | none => none
  | .eqn neg x =>
    match eqnV neg (σ.ev x) with
    | some v => some (v, σ)
    | none => none
  | .un op x =>
    match op, σ.ev x with
    | .not, v =>
      match notV v with
      | some v => some (v, σ)
      | none => none
    | .neg, .sc (.int k a) => some (.sc (.int k (k.wrap (0 - a))), σ)
    | .xor, .sc (.int k a) => some (.sc (.int k (bitsI .xor k (if k.signed then -1 else k.max) a)), σ)
    | _, _ => none
  | .conv k x =>
    match σ.ev x with
    | .sc (.int _ a) => some (.sc (.int k (k.wrap a)), σ)
    | _ => none
  | .b2s x =>
    match σ.row 1 (σ.ev x) with
    | some ts =>
      match bytesOf ts with
      | some l => some (.sc (.string ⟨l.toArray⟩), σ)
      | none => none
    | none => none
  | .slice es x lo hi =>
    match σ.ev x with
    | .fro _ es' ts =>
      match boundsA ts.length (lo.map σ.ev) (hi.map σ.ev) with
      | some (l, h) => if es' = es then some (.fro false es ((ts.take h).drop l), σ) else none
      | none => none
    | .sl id path off k len es' =>
      match boundsA len (lo.map σ.ev) (hi.map σ.ev) with
      | some (l, h) => if es' = es then some (.sl id path (off + l * es) (k + l) (h - l) es, σ) else none
      | none => none
    | _ => none
  | .aslice n es x lo hi =>
    match σ.ev x with
    | .ptr id path off =>
      match boundsA n (lo.map σ.ev) (hi.map σ.ev), σ.H id with
      | some (l, h), some t =>
        match t.at? path with
        | some (o, .arr n' es' _) => if o = off ∧ n' = n ∧ es' = es ∧ 0 < es then some (.sl id path (off + l * es) l (h - l) es, σ) else none
        | _ => none
      | _, _ => none
    | .fptr (.arr n' es' ts) =>
      match boundsA n (lo.map σ.ev) (hi.map σ.ev) with
      | some (l, h) => if es' = es ∧ n' = n then some (.fro false es ((ts.take h).drop l), σ) else none
      | none => none
    | _ => none
  | .fadr i off n x =>
    match σ.ev x with
    | .ptr id path o => some (.ptr id (path ++ [i]) (o + off), σ)
    | .fptr (.agg _ ts) =>
      match ts[i]? with
      | some u => if sizes (ts.take i) = off then some (.fptr u, σ) else none
      | none => none
    | _ => none
  | .iadr a es x i =>
    match a, σ.ev x, asI (σ.ev i) with
    | none, .fro _ es' ts, some j => if 0 ≤ j ∧ es' = es then
        match ts[j.toNat]? with
        | some t => some (.fptr t, σ)
        | none => none
      else none
    | none, .sl id path off k len es', some j => if 0 ≤ j ∧ j < len ∧ es' = es then some (.ptr id (path ++ [k + j.toNat]) (off + j.toNat * es), σ) else none
    | some n, .ptr id path off, some j => if 0 ≤ j ∧ j < n then some (.ptr id (path ++ [j.toNat]) (off + j.toNat * es), σ) else none
    | some n, .fptr (.arr n' es' ts), some j => if 0 ≤ j ∧ es' = es ∧ n' = n then
        match ts[j.toNat]? with
        | some t => some (.fptr t, σ)
        | none => none
      else none
    | _, _, _ => none
  | .ext x i =>
    match σ.ev x with
    | .tup vs =>
      match vs[i]? with
      | some v => some (v, σ)
      | none => none
    | _ => none
  | .mkf f caps => if capsOk (caps.map σ.ev) then some (.clo f (caps.map σ.ev), σ) else none
  | .mks es bytes zero len =>
    match asI (σ.ev len) with
    | some n => if 0 ≤ n ∧ 0 < bytes ∧ n.toNat * bytes ≤ 140737488355328 then
        some (.sl σ.n [] 0 0 n.toNat es, σ.new (.arr n.toNat es (List.replicate n.toNat zero))) else none
    | none => none
  | .app es bytes s x =>
    match σ.row es (σ.ev x) with
    | some xs => appA σ es bytes (σ.ev s) xs
    | none => none
  | .mksf es bytes zero len =>
    match asI (σ.ev len) with
    | some n => if 0 ≤ n ∧ 0 < bytes ∧ n.toNat * bytes ≤ 140737488355328 then some (.fro false es (List.replicate n.toNat zero), σ) else none
    | none => none
  | .appf es bytes x =>
    match σ.row es (σ.ev x) with
    | some xs => if 0 < bytes ∧ xs.length * bytes ≤ 140737488355328 then some (.fro false es xs, σ) else none
    | none => none
  | .len a x =>
    match a, σ.ev x with
    | some n, _ => some (I n, σ)
    | none, .fro _ _ ts => some (I ts.length, σ)
    | none, .sl _ _ _ _ len _ => some (I len, σ)
    | _, _ => none
  | .lens x =>
    match σ.ev x with
    | .sc (.string s) => some (I s.size, σ)
    | _ => none
  | .copy es x y =>
    match σ.ev x, σ.row es (σ.ev y) with
    | .sl id [] off k len es', some xs =>
      match σ.H id with
      | some (.arr n es'' ts) => if es' = es ∧ es'' = es ∧ off = 0 ∧ k = 0 ∧ len = ts.length then
          some (I (Nat.min xs.length len), σ.hput id (some (.arr n es (xs.take len ++ ts.drop xs.length)))) else none
      | _ => none
    | _, _ => none
  | .min xs =>
    match foldI (fun a b => if b < a then b else a) (xs.map σ.ev) with
    | some v => some (v, σ)
    | none => none
  | .max xs =>
    match foldI (fun a b => if b > a then b else a) (xs.map σ.ev) with
    | some v => some (v, σ)
    | none => none
  | .call .. => none
  | .callv .. => none
  | .callq .. => none

/-- What is known of calls: of a function, arguments and a state: the result, and the memory behind it. -/
abbrev Orc := Nat → List AV → St → AV → St → Prop

/-- The temporaries of the one, the memory of the other. -/
def St.back (σ τ : St) : St := ⟨σ.env, τ.hl, τ.hb, τ.n⟩

def wpOps (C : Orc) : List AG → St → (St → Prop) → Prop
  | [], σ, K => K σ
  | ⟨d, o, g⟩ :: r, σ, K =>
    let run := match o with
      | .call f args => ∃ v τ, C f (args.map σ.ev) σ v τ ∧ wpOps C r ((σ.back τ).put d v) K
      | .callv x args =>
        match σ.ev x with
        | .clo f caps => ∃ v τ, C f (args.map σ.ev ++ caps) σ v τ ∧ (τ.hl = σ.hl ∧ τ.hb = σ.hb ∧ τ.n = σ.n) ∧ wpOps C r ((σ.back τ).put d v) K
        | _ => False
      | .callq f args => ∃ v, (∀ σ', C f (args.map σ.ev) σ' v σ') ∧ wpOps C r (σ.put d v) K
      | o =>
        match stepE o σ with
        | some (v, σ') => wpOps C r (σ'.put d v) K
        | none => False
    match g with
    | none => run
    | some (t, b) =>
      match get σ.env t with
      | .sc (.bool b') => (b' = b → run) ∧ (b' ≠ b → wpOps C r (σ.put d (.tup [])) K)
      | .tup [] => wpOps C r (σ.put d (.tup [])) K
      | _ => False

/-- The own memory that an address lies in. -/
def idOf : AV → Option Nat
  | .ptr id _ _ => some id
  | .sl id _ _ _ _ _ => some id
  | _ => none
def sepV (a b : AV) : Prop := ∀ i, idOf a = some i → idOf b ≠ some i
def sepAll (σ : St) : List (Nat × Nat) → Prop
  | [] => True
  | (t, u) :: r => sepV (get σ.env t) (get σ.env u) ∧ sepAll σ r

inductive AE where
  | normal
  | exit (id : Nat)
  | ret

def AE.then (next : St → Prop) (Φ : AE → St → Prop) : AE → St → Prop
  | .normal, σ => next σ
  | e, σ => Φ e σ

def AE.inBlock (id : Nat) (Φ : AE → St → Prop) : AE → St → Prop
  | .exit i, σ => if i = id then Φ .normal σ else Φ (.exit i) σ
  | e, σ => Φ e σ

/-- Less is said by the second value. -/
def leA (a b : AV) : Prop := b = .unk ∨ b = a ∨ ∃ x es es' ts, a = .fro x es ts ∧ b = .fro false es' ts ∧ (es' = es ∨ ts = [])
/-- Less is known of the second state. -/
def Weak (σ τ : St) : Prop :=
  (∀ i, leA (get σ.env i) (get τ.env i)) ∧ (∀ i, τ.H i = none ∨ τ.H i = σ.H i) ∧ σ.n ≤ τ.n

mutual
/-- Of the second value the same is said, own rows of these names taken as rows that nobody writes. -/
inductive leF (L : List Nat) (σ : St) : AV → AV → Prop
  | same {a : AV} : leF L σ a a
  | fz {id off k len es : Nat} {path : List Nat} {ts : List AV} : id ∈ L → σ.row es (.sl id path off k len es) = some ts → leF L σ (.sl id path off k len es) (.fro false es ts)
  | agg {n : Nat} {ts us : List AV} : leFs L σ ts us → leF L σ (.agg n ts) (.agg n us)
inductive leFs (L : List Nat) (σ : St) : List AV → List AV → Prop
  | nil : leFs L σ [] []
  | cons {a b : AV} {l r : List AV} : leF L σ a b → leFs L σ l r → leFs L σ (a :: l) (b :: r)
end
def FrzS (σ τ : St) : Prop := ∃ L : List Nat, τ.n = σ.n ∧ (∀ t, leF L σ (get σ.env t) (get τ.env t)) ∧ ∀ j, τ.H j = none ∨ (j ∉ L ∧ ∃ t t', σ.H j = some t ∧ τ.H j = some t' ∧ leF L σ t t')

mutual
/-- Names of own memory that stand in it are less than n. -/
def AV.lowA (n : Nat) : AV → Bool
  | .agg _ ts => AV.lowAs n ts
  | .clo _ cs => AV.lowAs n cs
  | .tup ts => AV.lowAs n ts
  | .sl id _ _ _ _ _ => Nat.blt id n
  | .ptr id _ _ => Nat.blt id n
  | _ => true
def AV.lowAs (n : Nat) : List AV → Bool
  | [] => true
  | t :: ts => t.lowA n && AV.lowAs n ts
end
/-- New names may begin at m again, if nothing with a higher one is spoken of. -/
def LowN (m : Nat) (σ τ : St) : Prop := σ.n ≤ τ.n ∨ (m ≤ τ.n ∧ (∀ i, (get τ.env i).lowA τ.n = true) ∧ (∀ i, τ.n ≤ i → τ.H i = none) ∧ ∀ i t, τ.H i = some t → t.lowA τ.n = true)
def WeakL (m : Nat) (σ τ : St) : Prop := (∀ i, leA (get σ.env i) (get τ.env i)) ∧ (∀ i, τ.H i = none ∨ τ.H i = σ.H i) ∧ LowN m σ τ

mutual
/-- Of the second value less is said, or the same, of names that κ tells back. -/
inductive leK (κ : Nat → Option Nat) : AV → AV → Prop
  | same {a : AV} : a.lowA 0 = true → leK κ a a
  | sl {i j off k len es : Nat} {path : List Nat} : κ j = some i → leK κ (.sl i path off k len es) (.sl j path off k len es)
  | ptr {i j off : Nat} {path path' : List Nat} : κ j = some i → leK κ (.ptr i path off) (.ptr j path' off)
  | agg {n : Nat} {ts us : List AV} : leKs κ ts us → leK κ (.agg n ts) (.agg n us)
  | split {n es : Nat} {pre post : List AV} {t u : AV} : n = pre.length + (1 + post.length) → leK κ t u → leK κ (.arr n es (pre ++ t :: post)) (.agg (n * es) [.arr pre.length es pre, u, .arr post.length es post])
  | join {m a b es : Nat} {pre post : List AV} {t u : AV} : u.idfree = true → u.size = es → leK κ t u → leK κ (.agg m [.arr a es pre, t, .arr b es post]) (.arr (a + (1 + b)) es (pre ++ u :: post))
  | clo {f : Nat} {ts us : List AV} : leKs κ ts us → leK κ (.clo f ts) (.clo f us)
  | fro {x : Bool} {es es' : Nat} {ts : List AV} : (es' = es ∨ ts = []) → leK κ (.fro x es ts) (.fro false es' ts)
  | nil {es es' j off k : Nat} {path : List Nat} : leK κ (.fro true es []) (.sl j path off k 0 es')
inductive leKs (κ : Nat → Option Nat) : List AV → List AV → Prop
  | nil : leKs κ [] []
  | cons {a b : AV} {l r : List AV} : leK κ a b → leKs κ l r → leKs κ (a :: l) (b :: r)
end
/-- The same, under other names of own memory, and maybe less of it. -/
def WeakK (m : Nat) (σ τ : St) : Prop := ∃ κ : Nat → Option Nat, (∀ j, j < m → κ j = some j) ∧ (∀ j, τ.n ≤ j → τ.H j = none ∧ κ j = none) ∧ m ≤ τ.n ∧ (∀ i j j', τ.H j ≠ none → τ.H j' ≠ none → κ j = some i → κ j' = some i → j = j') ∧
  (∀ t, get τ.env t = .unk ∨ leK κ (get σ.env t) (get τ.env t)) ∧ ∀ j t', τ.H j = some t' → (∃ i t, κ j = some i ∧ σ.H i = some t ∧ leK κ t t') ∨ (κ j = none ∧ ∃ es, t' = .arr 0 es [])
end Go.Ra

/- From the loaded program's code to abstract code: all by computation. -/
namespace Go.Ra
set_option linter.unusedVariables false

def eqPlain : Value → Value → Bool
  | .bool a, .bool b => a == b
  | .int k a, .int l b => decide (k = l) && decide (a = b)
  | .string a, .string b => a.data.toList == b.data.toList
  | .pointer none, .pointer none => true
  | _, _ => false

mutual
/-- Takes the cells of a zero value off a list. -/
def matchZ : AV → List Value → Option (List Value)
  | .sc v, u :: r => if eqPlain v u then some r else none
  | .fro _ _ [], .slice none 0 0 :: r => some r
  | .agg n ts, cs =>
    match matchZs ts cs with
    | some r => if cs.length = n + r.length then some r else none
    | none => none
  | .arr n es ts, cs => if ts.length = n then matchZe es ts cs else none
  | _, _ => none
def matchZs : List AV → List Value → Option (List Value)
  | [], cs => some cs
  | t :: ts, cs =>
    match matchZ t cs with
    | some r => matchZs ts r
    | none => none
def matchZe (es : Nat) : List AV → List Value → Option (List Value)
  | [], cs => some cs
  | t :: ts, cs =>
    match matchZ t cs with
    | some r => if t.size = es then matchZe es ts r else none
    | none => none
end

/-- The zero value of a type, as far as its shape goes. -/
def zeroS (P : Program) : Nat → TypeId → Option AV
  | 0, _ => none
  | d + 1, t =>
    match P.underlying t, P.info? t with
    | some (.int k), _ => some (.sc (.int k 0))
    | some .bool, _ => some (.sc (.bool false))
    | some .string, _ => some (.sc (.string ByteArray.empty))
    | some (.slice _), _ => some (.fro true 0 [])
    | some (.pointer _), _ => some (.sc (.pointer none))
    | some (.array n e), _ =>
      match zeroS P d e, P.info? e with
      | some z, some i => some (.arr n i.size (List.replicate n z))
      | _, _ => none
    | some (.struct fs), some i =>
      match fs.toList.mapM fun f => zeroS P d f.type with
      | some ts => some (.agg i.size ts)
      | none => none
    | _, _ => none

def aggV : Value → Bool
  | .agg _ => true
  | _ => false

/-- The zero value, held against the program's own. -/
def zeroT (P : Program) (t : TypeId) : Option AV :=
  match zeroS P 20 t, P.info? t with
  | some z, some i =>
    match i.zero with
    | some v =>
      match matchZ z v.cells.toList with
      | some [] => if z.isAgg == aggV v && z.idfree then some z else none
      | _ => none
    | none => none
  | _, _ => none

/-- Do a struct's fields lie one behind the other, each of the size of its zero value? -/
def fieldsOk (P : Program) : Nat → List Field → List AV → Bool
  | _, [], [] => true
  | o, f :: fs, z :: zs => decide (f.offset = o) && (match P.info? f.type with | some i => decide (i.size = z.size) | none => false) && fieldsOk P (o + z.size) fs zs
  | _, _, _ => false

def isAggT (P : Program) (t : TypeId) : Option Bool :=
  match P.underlying t with
  | some (.struct _) => some true
  | some (.array _ _) => some true
  | some _ => some false
  | none => none

def szT (P : Program) (t : TypeId) : Option Nat := (P.info? t).map (·.size)

def trV (v : Value) : Option AV :=
  match v with
  | .int k n => some (.sc (.int k n))
  | .bool b => some (.sc (.bool b))
  | .string s => some (.sc (.string s))
  | .slice none 0 0 => some (.fro true 0 [])
  | .pointer none => some (.sc (.pointer none))
  | _ => none

def trX (x : Operand) : Option AX :=
  match x with
  | .tmp i => some (.t i)
  | .const v =>
    match trV v with
    | some a => some (.c a)
    | none => none
  | .func f => some (.c (.clo f []))
  | .global _ => none

def trXs : List Operand → Option (List AX)
  | [] => some []
  | x :: xs =>
    match trX x, trXs xs with
    | some a, some b => some (a :: b)
    | _, _ => none

def trParts : List (Nat × Operand) → Option (List (Nat × AX))
  | [] => some []
  | p :: ps =>
    match trX p.2, trParts ps with
    | some a, some b => some ((p.1, a) :: b)
    | _, _ => none

def trXo (x : Option Operand) : Option (Option AX) :=
  match x with
  | none => some none
  | some x => (trX x).map some

def inOrder : Nat → List (Nat × Operand) → Bool
  | _, [] => true
  | k, p :: r => p.1 == k && inOrder (k + 1) r

def plainT (P : Program) (t : TypeId) : Bool :=
  match P.underlying t with
  | some (.int _) => true
  | some .string => true
  | _ => false

mutual
/-- The shape of a type whose values can be compared. -/
def shapeT (P : Program) : Nat → TypeId → Option TS
  | 0, _ => none
  | d + 1, t =>
    match P.underlying t with
    | some (.int _) => some .int
    | some .bool => some .bool
    | some (.struct fs) =>
      if P.stoodInHeld t then none else
      match shapeFs P d 0 fs.toList with
      | some l => some (.agg l)
      | none => none
    | some (.array n e) =>
      match shapeT P d e, szT P e with
      | some s, some es => some (.arr n es s)
      | _, _ => none
    | _ => none
def shapeFs (P : Program) : Nat → Nat → List Field → Option (List (Nat × TS))
  | _, _, [] => some []
  | 0, _, _ :: _ => none
  | d + 1, o, f :: fs =>
    if f.name = "_" ∨ f.offset ≠ o then none else
    match shapeT P d f.type, szT P f.type with
    | some s, some n =>
      match shapeFs P d (o + n) fs with
      | some l => some ((n, s) :: l)
      | none => none
    | _, _ => none
end

def isNilX : AX → Bool
  | .c (.fro true 0 []) => true
  | _ => false

def trEq (P : Program) (op : BinOp) (t : TypeId) (x y : AX) : Option AOp :=
  let neg := match op with | .eql => some false | .neq => some true | _ => none
  match neg with
  | none => none
  | some neg =>
    match P.underlying t with
    | some (.slice _) => if isNilX y then some (.eqn neg x) else none
    | _ =>
      if P.eqGuardType P.depth t then none else
      match shapeT P 60 t with
      | some s => some (.eqs neg s x y)
      | none => none

def sameLen : Operand → Operand → Bool
  | .tmp a, .tmp b => decide (a = b)
  | .const (.int j a), .const (.int k b) => decide (a = b) && decide (j = .i64) && decide (k = .i64)
  | _, _ => false

/-- The element type's size, bytes and zero value, of a slice type. -/
def elemT (P : Program) (t : TypeId) : Option (TypeId × TypeInfo) :=
  match P.underlying t with
  | some (.slice e) => (P.info? e).map fun i => (e, i)
  | _ => none

def arrT (P : Program) (t : TypeId) : Option (Nat × TypeInfo) :=
  match P.underlying t with
  | some (.array n e) => (P.info? e).map fun i => (n, i)
  | _ => none

def trApp (P : Program) (t : TypeId) (s x : AX) : Option AOp :=
  match elemT P t with
  | some (_, i) =>
    match i.zero with
    | some z => if z.cells.size = i.size then some (.app i.size i.bytes s x) else none
    | none => none
  | none => none

def trOp (P : Program) (o : Op) : Option AOp :=
  match o with
  | .move x => (trX x).map .mv
  | .assign x => (trX x).map .mv
  | .pick c a b =>
    match trX c, trX a, trX b with
    | some c, some a, some b => some (.pick c a b)
    | _, _, _ => none
  | .alloc t => (zeroT P t).map fun z => .box (.c z)
  | .box _ x => (trX x).map .box
  | .build t parts =>
    match P.underlying t, zeroT P t with
    | some (.struct fs), some (.agg n zs) =>
      match trParts parts.toList with
      | some ps => if fieldsOk P 0 fs.toList zs then some (.build n zs ps) else none
      | none => none
    | some (.array _ el), some (.arr n es zs) =>
      match trXs (parts.toList.map (·.2)), P.info? el with
      | some xs, some i => if inOrder 0 parts.toList ∧ parts.size = n ∧ i.size = es ∧ zs.length = n then some (.barr n es xs) else none
      | _, _ => none
    | _, _ => none
  | .buildSlice t len parts =>
    match elemT P t with
    | some (e, i) =>
      match trXs (parts.toList.map (·.2)), i.zero with
      | some xs, some _ => if inOrder 0 parts.toList ∧ parts.size = len ∧ len * i.size ≤ 16777216 then some (.bsl i.size xs) else none
      | _, _ => none
    | none => none
  | .load t x =>
    match isAggT P t, szT P t, trX x with
    | some a, some n, some x => some (.load a n x)
    | _, _, _ => none
  | .store t a x =>
    match szT P t, trX a, trX x with
    | some n, some a, some x => if n = 0 then none else some (.store n a x)
    | _, _, _ => none
  | .nilCheck x => (trX x).map .nilck
  | .binOp op t x y _ =>
    match trX x, trX y with
    | some x, some y =>
      if plainT P t then some (.bin op x y) else trEq P op t x y
    | _, _ => none
  | .unOp op _ x => (trX x).map fun x => .un op x
  | .convert src dst x =>
    match P.underlying src, P.underlying dst, trX x with
    | some (.int _), some (.int k), some x => some (.conv k x)
    | some (.slice e), some .string, some x =>
      match P.underlying e with
      | some (.int .u8) => some (.b2s x)
      | _ => none
    | _, _, _ => none
  | .slice t x lo hi none =>
    match elemT P t, arrT P t, trX x, trXo lo, trXo hi with
    | some (_, i), _, some x, some lo, some hi => some (.slice i.size x lo hi)
    | _, some (n, i), some x, some lo, some hi => some (.aslice n i.size x lo hi)
    | _, _, _, _, _ => none
  | .fieldAddr s x i =>
    match P.underlying s, trX x with
    | some (.struct fs), some x =>
      match fs[i]? with
      | some f =>
        match szT P f.type with
        | some n => if n = 0 then none else some (.fadr i f.offset n x)
        | none => none
      | none => none
    | _, _ => none
  | .indexAddr t x i =>
    match elemT P t, arrT P t, trX x, trX i with
    | some (_, e), _, some x, some i => some (.iadr none e.size x i)
    | _, some (n, e), some x, some i => some (.iadr (some n) e.size x i)
    | _, _, _, _ => none
  | .extract x i => (trX x).map fun x => .ext x i
  | .makeFunc (.func f) first caps =>
    match trXs caps.toList with
    | some cs => if first.isEmpty then some (.mkf f cs) else none
    | none => none
  | .makeSlice t l c =>
    match elemT P t, trX l with
    | some (e, i), some l' =>
      match zeroT P e with
      | some z => if sameLen l c ∧ z.size = i.size then some (.mks i.size i.bytes z l') else none
      | none => none
    | _, _ => none
  | .call c =>
    match c.callee, trXs c.args.toList with
    | .value (.func f), some xs => some (.call f xs)
    | .value x, some xs => (trX x).map fun x => .callv x xs
    | .builtin .append, some [s, x] =>
      match c.argTypes.toList with
      | [t, u] => if t = u then trApp P t s x else none
      | _ => none
    | .builtin .len, some [x] =>
      match c.argTypes.toList with
      | [t] =>
        match P.underlying t with
        | some (.slice _) => some (.len none x)
        | some .string => some (.lens x)
        | some (.array n _) => some (.len (some n) x)
        | some (.pointer a) =>
          match P.underlying a with
          | some (.array n _) => some (.len (some n) x)
          | _ => none
        | _ => none
      | _ => none
    | .builtin .copy, some [x, y] =>
      match c.argTypes.toList with
      | [t, u] =>
        match elemT P t, elemT P u with
        | some (_, i), some (_, i') => if i'.size = i.size then some (.copy i.size x y) else none
        | _, _ => none
      | _ => none
    | .builtin .min, some xs => some (.min xs)
    | .builtin .max, some xs => some (.max xs)
    | _, _ => none
  | _ => none

def trG (ops : Array Oper) (g : Option (Nat × Bool)) : Option (Option (Nat × Bool)) :=
  match g with
  | none => some none
  | some (j, b) =>
    match (ops[j]?).bind (·.dst) with
    | some t => some (some (t, b))
    | none => none

/-- An append onto nil whose result is only read. -/
def softO : AOp → AOp
  | .app es b (.c (.fro true 0 [])) x => .appf es b x
  | .mks es b z l => .mksf es b z l
  | o => o

/-- How a function's operations are taken: are appends onto nil only read, and which functions' calls leave memory alone, whatever is said of these functions elsewhere. -/
structure ZM where
  soft : Bool
  dl : Nat → Bool
def dualO (dl : Nat → Bool) : AOp → AOp
  | .call f args => if dl f then .callq f args else .call f args
  | o => o
def zmO (z : ZM) (o : AOp) : AOp := dualO z.dl (if z.soft then softO o else o)

def trOper (z : ZM) (P : Program) (nt : Nat) (ops : Array Oper) (o : Oper) : Option AG :=
  match trOp P o.op, trG ops o.guard with
  | some ao, some g => if (match o.dst with | some d => decide (d < nt) | none => true) then some ⟨o.dst, zmO z ao, g⟩ else none
  | _, _ => none

/-- Code that nothing is known of. -/
def badC : AC := .ops [⟨none, .nilck (.c .unk), none⟩]

/-- A region. -/
def regC (P : Program) (nt : Nat) (ok : Array Oper → List AG → Option (List (Nat × Nat))) (z0 : ZM) (ops : Array Oper) (draw : Bool) : Option AC :=
  match ops.toList.mapM (trOper z0 P nt ops) with
  | some l =>
    if draw then
      match ok ops l with
      | some [] => some (.ops l)
      | o =>
        match ops.toList.mapM (trOper ⟨true, z0.dl⟩ P nt ops) with
        | some l2 =>
          match ok ops l2 with
          | some [] => some (.ops l2)
          | o2 =>
            match o, o2 with
            | some ps, _ => some (.opsD l ps)
            | none, some ps => some (.opsD l2 ps)
            | none, none => none
        | none => none
    else some (.ops l)
  | none => some badC

def trC (P : Program) (nt : Nat) (ok : Array Oper → List AG → Option (List (Nat × Nat))) (fz : Nat → Bool) (z0 : ZM) : Code → Option AC
  | .skip => some .skip
  | .region id ops draw =>
    match regC P nt ok z0 ops draw with
    | some ac => some (if fz id then .seq .frz ac else ac)
    | none => none
  | .seq a b =>
    match trC P nt ok fz z0 a, trC P nt ok fz z0 b with
    | some x, some y => some (.seq x y)
    | _, _ => none
  | .cond c a b =>
    match trX c, trC P nt ok fz z0 a, trC P nt ok fz z0 b with
    | some c, some x, some y => some (.cond c x y)
    | _, _, _ => none
  | .block id c => (trC P nt ok fz z0 c).map (.block id)
  | .loop c => (trC P nt ok fz z0 c).map .loop
  | .exit id => some (.exit id)
  | .ret => some .ret
  | _ => none
end Go.Ra

/- What abstract values mean in a world. -/
namespace Go.Ra
set_option linter.unusedVariables false

def Reads (w : World) (b o : Nat) (cs : List Value) : Prop := ∀ j v, cs[j]? = some v → w.cell? ⟨b, o + j, none⟩ = some v

def plainV : Value → Bool
  | .bool _ => true
  | .int _ _ => true
  | .string _ => true
  | .pointer none => true
  | .nilFunc => true
  | _ => false

abbrev Loc := Nat × Nat
def noIds : Nat → Option Loc := fun _ => none

mutual
/-- The cells that an abstract value stands for. -/
inductive RelC (w : World) (F : Nat → Prop) : (Nat → Option Loc) → AV → List Value → Prop
  | sc {ρ : Nat → Option Loc} {v : Value} : plainV v = true → RelC w F ρ (.sc v) [v]
  | agg {ρ : Nat → Option Loc} {n : Nat} {ts : List AV} {cs : List Value} : RelL w F ρ ts cs → cs.length = n → RelC w F ρ (.agg n ts) cs
  | arr {ρ : Nat → Option Loc} {n es : Nat} {ts : List AV} {cs : List Value} : RelE w F es ts cs → ts.length = n → RelC w F ρ (.arr n es ts) cs
  | fro0 {ρ : Nat → Option Loc} {x : Bool} {es : Nat} {a : Option Addr} {cap : Nat} : (x = true → cap = 0) → RelC w F ρ (.fro x es []) [.slice a 0 cap]
  | fro {ρ : Nat → Option Loc} {x : Bool} {es : Nat} {ts : List AV} {cs : List Value} {b o cap : Nat} : RelE w F es ts cs → Reads w b o cs → F b →
      (x = true → cap = ts.length) → ts.length ≤ cap → RelC w F ρ (.fro x es ts) [.slice (some ⟨b, o, none⟩) ts.length cap]
  | fptr {ρ : Nat → Option Loc} {t : AV} {cs : List Value} {b o : Nat} : RelC w F noIds t cs → Reads w b o cs → F b → RelC w F ρ (.fptr t) [.pointer (some ⟨b, o, none⟩)]
  | sl0 {ρ : Nat → Option Loc} {id off k es : Nat} {path : List Nat} {a : Option Addr} : RelC w F ρ (.sl id path off k 0 es) [.slice a 0 0]
  | sl {ρ : Nat → Option Loc} {id off k len es b o cap : Nat} {path : List Nat} {cur : Array Value} {e : TypeId} : ρ id = some (b, o) → len ≤ cap →
      w.heap[b]? = some (.cells cur e (0, 0)) → o + off + cap * es ≤ cur.size → RelC w F ρ (.sl id path off k len es) [.slice (some ⟨b, o + off, none⟩) len cap]
  | ptr {ρ : Nat → Option Loc} {id off b o : Nat} {path : List Nat} : ρ id = some (b, o) → RelC w F ρ (.ptr id path off) [.pointer (some ⟨b, o + off, none⟩)]
  | clo {ρ : Nat → Option Loc} {f : Nat} {caps : List AV} {cs : List Value} : RelO w F ρ caps cs → RelC w F ρ (.clo f caps) [.func (.func f) #[] cs.toArray]
/-- One behind the other. -/
inductive RelL (w : World) (F : Nat → Prop) : (Nat → Option Loc) → List AV → List Value → Prop
  | nil {ρ : Nat → Option Loc} : RelL w F ρ [] []
  | cons {ρ : Nat → Option Loc} {t : AV} {ts : List AV} {c cs : List Value} : RelC w F ρ t c → RelL w F ρ ts cs → RelL w F ρ (t :: ts) (c ++ cs)
/-- Elements of one size, without names of own memory. -/
inductive RelE (w : World) (F : Nat → Prop) : Nat → List AV → List Value → Prop
  | nil {es : Nat} : RelE w F es [] []
  | cons {es : Nat} {t : AV} {ts : List AV} {c cs : List Value} : RelC w F noIds t c → c.length = es → RelE w F es ts cs → RelE w F es (t :: ts) (c ++ cs)
/-- Each of one cell. -/
inductive RelO (w : World) (F : Nat → Prop) : (Nat → Option Loc) → List AV → List Value → Prop
  | nil {ρ : Nat → Option Loc} : RelO w F ρ [] []
  | cons {ρ : Nat → Option Loc} {t : AV} {ts : List AV} {v : Value} {cs : List Value} : RelC w F ρ t [v] → t.isAgg = false → RelO w F ρ ts cs → RelO w F ρ (t :: ts) (v :: cs)
end

mutual
/-- The value that an abstract value stands for. -/
inductive RelV (w : World) (F : Nat → Prop) (ρ : Nat → Option Loc) : AV → Value → Prop
  | one {t : AV} {v : Value} : RelC w F ρ t [v] → t.isAgg = false → RelV w F ρ t v
  | agg {t : AV} {cs : List Value} : RelC w F ρ t cs → t.isAgg = true → RelV w F ρ t (.agg cs.toArray)
  | tup {ts : List AV} {vs : List Value} : RelVs w F ρ ts vs → RelV w F ρ (.tup ts) (.tuple vs.toArray)
  | anyb {b : Bool} : RelV w F ρ .anyb (.bool b)
  | unk {v : Value} : RelV w F ρ .unk v
inductive RelVs (w : World) (F : Nat → Prop) (ρ : Nat → Option Loc) : List AV → List Value → Prop
  | nil : RelVs w F ρ [] []
  | cons {t : AV} {ts : List AV} {v : Value} {vs : List Value} : RelV w F ρ t v → RelVs w F ρ ts vs → RelVs w F ρ (t :: ts) (v :: vs)
end

/-- Frozen blocks stay as they are; rows of cells keep their sizes. -/
structure Ext (F : Nat → Prop) (w w' : World) : Prop where
  same : ∀ b, F b → w'.heap[b]? = w.heap[b]?
  rows : ∀ (b : Nat) (cur : Array Value) (e : TypeId), w.heap[b]? = some (Obj.cells cur e (0, 0)) → ∃ cur' : Array Value, w'.heap[b]? = some (Obj.cells cur' e (0, 0)) ∧ cur'.size = cur.size

theorem Reads.ext {F : Nat → Prop} {w w' : World} {b o : Nat} {cs : List Value} (h : Reads w b o cs) (hx : Ext F w w') (hb : F b) : Reads w' b o cs := by
  intro j v hj
  rw [World.cell?_of_block (a := ⟨b, o + j, none⟩) (hx.same b hb)]
  exact h j v hj

section mono
variable {w w' : World} {F F' : Nat → Prop}
mutual
theorem RelC.mono (hx : Ext F w w') (hF : ∀ b, F b → F' b) : ∀ {ρ ρ' : Nat → Option Loc} {t : AV} {cs : List Value}, (∀ i l, ρ i = some l → ρ' i = some l) → RelC w F ρ t cs → RelC w' F' ρ' t cs
  | _, _, _, _, _, .sc h => .sc h
  | _, _, _, _, hr, .agg h hn => .agg (RelL.mono hx hF hr h) hn
  | _, _, _, _, _, .arr h hn => .arr (RelE.mono hx hF h) hn
  | _, _, _, _, _, .fro0 h => .fro0 h
  | _, _, _, _, _, .fro h hrd hb hc hl => .fro (RelE.mono hx hF h) (hrd.ext hx hb) (hF _ hb) hc hl
  | _, _, _, _, _, .fptr h hrd hb => .fptr (RelC.mono hx hF (fun _ _ h => h) h) (hrd.ext hx hb) (hF _ hb)
  | _, _, _, _, _, .sl0 => .sl0
  | _, _, _, _, hr, .sl h1 h2 h3 h4 => by
    obtain ⟨cur', h5, h6⟩ := hx.rows _ _ _ h3
    exact .sl (hr _ _ h1) h2 h5 (by rw [h6]; exact h4)
  | _, _, _, _, hr, .ptr h => .ptr (hr _ _ h)
  | _, _, _, _, hr, .clo h => .clo (RelO.mono hx hF hr h)
theorem RelL.mono (hx : Ext F w w') (hF : ∀ b, F b → F' b) : ∀ {ρ ρ' : Nat → Option Loc} {ts : List AV} {cs : List Value}, (∀ i l, ρ i = some l → ρ' i = some l) → RelL w F ρ ts cs → RelL w' F' ρ' ts cs
  | _, _, _, _, _, .nil => .nil
  | _, _, _, _, hr, .cons h1 h2 => .cons (RelC.mono hx hF hr h1) (RelL.mono hx hF hr h2)
theorem RelE.mono (hx : Ext F w w') (hF : ∀ b, F b → F' b) : ∀ {es : Nat} {ts : List AV} {cs : List Value}, RelE w F es ts cs → RelE w' F' es ts cs
  | _, _, _, .nil => .nil
  | _, _, _, .cons h1 h2 h3 => .cons (RelC.mono hx hF (fun _ _ h => h) h1) h2 (RelE.mono hx hF h3)
theorem RelO.mono (hx : Ext F w w') (hF : ∀ b, F b → F' b) : ∀ {ρ ρ' : Nat → Option Loc} {ts : List AV} {cs : List Value}, (∀ i l, ρ i = some l → ρ' i = some l) → RelO w F ρ ts cs → RelO w' F' ρ' ts cs
  | _, _, _, _, _, .nil => .nil
  | _, _, _, _, hr, .cons h1 h2 h3 => .cons (RelC.mono hx hF hr h1) h2 (RelO.mono hx hF hr h3)
end
mutual
theorem RelV.mono (hx : Ext F w w') (hF : ∀ b, F b → F' b) {ρ ρ' : Nat → Option Loc} (hr : ∀ i l, ρ i = some l → ρ' i = some l) : ∀ {t : AV} {v : Value}, RelV w F ρ t v → RelV w' F' ρ' t v
  | _, _, .one h ha => .one (h.mono hx hF hr) ha
  | _, _, .agg h ha => .agg (h.mono hx hF hr) ha
  | _, _, .tup h => .tup (RelVs.mono hx hF hr h)
  | _, _, .anyb => .anyb
  | _, _, .unk => .unk
theorem RelVs.mono (hx : Ext F w w') (hF : ∀ b, F b → F' b) {ρ ρ' : Nat → Option Loc} (hr : ∀ i l, ρ i = some l → ρ' i = some l) : ∀ {ts : List AV} {vs : List Value}, RelVs w F ρ ts vs → RelVs w' F' ρ' ts vs
  | _, _, .nil => .nil
  | _, _, .cons h1 h2 => .cons (RelV.mono hx hF hr h1) (RelVs.mono hx hF hr h2)
end
end mono

section shape
variable {w : World} {F : Nat → Prop}
mutual
theorem RelC.size : ∀ {ρ : Nat → Option Loc} {t : AV} {cs : List Value}, RelC w F ρ t cs → cs.length = t.size
  | _, _, _, .sc h => rfl
  | _, _, _, .agg h hn => hn
  | _, _, _, .arr h hn => by rw [RelE.size h, hn]; rfl
  | _, _, _, .fro0 h => rfl
  | _, _, _, .fro h hrd hb hc hl => rfl
  | _, _, _, .fptr h hrd hb => rfl
  | _, _, _, .sl0 => rfl
  | _, _, _, .sl h1 h2 h3 h4 => rfl
  | _, _, _, .ptr h => rfl
  | _, _, _, .clo h => rfl
theorem RelE.size : ∀ {es : Nat} {ts : List AV} {cs : List Value}, RelE w F es ts cs → cs.length = ts.length * es
  | _, _, _, .nil => by simp
  | es, _, _, .cons h1 h2 h3 => by
    have := RelE.size h3
    simp only [List.length_append, List.length_cons, h2, this, Nat.add_mul, Nat.one_mul]
    omega
end
theorem RelL.size : ∀ {ρ : Nat → Option Loc} {ts : List AV} {cs : List Value}, RelL w F ρ ts cs → cs.length = sizes ts
  | _, _, _, .nil => rfl
  | _, _, _, .cons h1 h2 => by simp only [List.length_append, sizes, h1.size, RelL.size h2]

theorem oneCell_plain {v : Value} (h : plainV v = true) : v.oneCell' = true := by
  cases v <;> first | rfl | simp [plainV] at h

mutual
theorem RelC.ones : ∀ {ρ : Nat → Option Loc} {t : AV} {cs : List Value}, RelC w F ρ t cs → ∀ v ∈ cs, v.oneCell' = true
  | _, _, _, .sc h => fun v hv => by simp only [List.mem_singleton] at hv; subst hv; exact oneCell_plain h
  | _, _, _, .agg h hn => RelL.ones h
  | _, _, _, .arr h hn => RelE.ones h
  | _, _, _, .fro0 h => fun v hv => by simp only [List.mem_singleton] at hv; subst hv; rfl
  | _, _, _, .fro h hrd hb hc hl => fun v hv => by simp only [List.mem_singleton] at hv; subst hv; rfl
  | _, _, _, .fptr h hrd hb => fun v hv => by simp only [List.mem_singleton] at hv; subst hv; rfl
  | _, _, _, .sl0 => fun v hv => by simp only [List.mem_singleton] at hv; subst hv; rfl
  | _, _, _, .sl h1 h2 h3 h4 => fun v hv => by simp only [List.mem_singleton] at hv; subst hv; rfl
  | _, _, _, .ptr h => fun v hv => by simp only [List.mem_singleton] at hv; subst hv; rfl
  | _, _, _, .clo h => fun v hv => by simp only [List.mem_singleton] at hv; subst hv; rfl
theorem RelL.ones : ∀ {ρ : Nat → Option Loc} {ts : List AV} {cs : List Value}, RelL w F ρ ts cs → ∀ v ∈ cs, v.oneCell' = true
  | _, _, _, .nil => fun v hv => by cases hv
  | _, _, _, .cons h1 h2 => fun v hv => by
    rcases List.mem_append.1 hv with h | h
    · exact RelC.ones h1 v h
    · exact RelL.ones h2 v h
theorem RelE.ones : ∀ {es : Nat} {ts : List AV} {cs : List Value}, RelE w F es ts cs → ∀ v ∈ cs, v.oneCell' = true
  | _, _, _, .nil => fun v hv => by cases hv
  | _, _, _, .cons h1 h2 h3 => fun v hv => by
    rcases List.mem_append.1 hv with h | h
    · exact RelC.ones h1 v h
    · exact RelE.ones h3 v h
end

theorem RelC.single {ρ : Nat → Option Loc} {t : AV} {cs : List Value} (h : RelC w F ρ t cs) (ha : t.isAgg = false) : ∃ v, cs = [v] := by
  cases h <;> first | exact ⟨_, rfl⟩ | simp [AV.isAgg] at ha

theorem RelC.storable {ρ : Nat → Option Loc} {t : AV} {cs : List Value} (h : RelC w F ρ t cs) : t.storable = true := by
  cases h <;> rfl

mutual
theorem RelC.free : ∀ {ρ ρ' : Nat → Option Loc} {t : AV} {cs : List Value}, t.idfree = true → RelC w F ρ t cs → RelC w F ρ' t cs
  | _, _, _, _, _, .sc h => .sc h
  | _, _, _, _, hi, .agg h hn => .agg (RelL.free (by simpa [AV.idfree] using hi) h) hn
  | _, _, _, _, _, .arr h hn => .arr h hn
  | _, _, _, _, _, .fro0 h => .fro0 h
  | _, _, _, _, _, .fro h hrd hb hc hl => .fro h hrd hb hc hl
  | _, _, _, _, _, .fptr h hrd hb => .fptr h hrd hb
  | _, _, _, _, hi, .sl0 => .sl0
  | _, _, _, _, hi, .sl h1 h2 h3 h4 => by simp [AV.idfree] at hi
  | _, _, _, _, hi, .ptr h => by simp [AV.idfree] at hi
  | _, _, _, _, hi, .clo h => .clo (RelO.free (by simpa [AV.idfree] using hi) h)
theorem RelL.free : ∀ {ρ ρ' : Nat → Option Loc} {ts : List AV} {cs : List Value}, AV.idfrees ts = true → RelL w F ρ ts cs → RelL w F ρ' ts cs
  | _, _, _, _, _, .nil => .nil
  | _, _, _, _, hi, .cons h1 h2 => by
    simp only [AV.idfrees, Bool.and_eq_true] at hi
    exact .cons (RelC.free hi.1 h1) (RelL.free hi.2 h2)
theorem RelO.free : ∀ {ρ ρ' : Nat → Option Loc} {ts : List AV} {cs : List Value}, AV.idfrees ts = true → RelO w F ρ ts cs → RelO w F ρ' ts cs
  | _, _, _, _, _, .nil => .nil
  | _, _, _, _, hi, .cons h1 h2 h3 => by
    simp only [AV.idfrees, Bool.and_eq_true] at hi
    exact .cons (RelC.free hi.1 h1) h2 (RelO.free hi.2 h3)
end

/-- Names from n on stand for nothing. -/
def cutR (n : Nat) (ρ : Nat → Option Loc) : Nat → Option Loc := fun i => if i < n then ρ i else none
theorem cutR_lt {n i : Nat} {ρ : Nat → Option Loc} (h : Nat.blt i n = true) : cutR n ρ i = ρ i := by
  have : i < n := Nat.le_of_ble_eq_true h
  simp [cutR, this]
mutual
theorem RelC.cut {n : Nat} : ∀ {ρ : Nat → Option Loc} {t : AV} {cs : List Value}, t.lowA n = true → RelC w F ρ t cs → RelC w F (cutR n ρ) t cs
  | _, _, _, _, .sc h => .sc h
  | _, _, _, hi, .agg h hn => .agg (RelL.cut (by simpa [AV.lowA] using hi) h) hn
  | _, _, _, _, .arr h hn => .arr h hn
  | _, _, _, _, .fro0 h => .fro0 h
  | _, _, _, _, .fro h hrd hb hc hl => .fro h hrd hb hc hl
  | _, _, _, _, .fptr h hrd hb => .fptr h hrd hb
  | _, _, _, _, .sl0 => .sl0
  | _, _, _, hi, .sl h1 h2 h3 h4 => .sl (by rw [cutR_lt (by simpa [AV.lowA] using hi)]; exact h1) h2 h3 h4
  | _, _, _, hi, .ptr h => .ptr (by rw [cutR_lt (by simpa [AV.lowA] using hi)]; exact h)
  | _, _, _, hi, .clo h => .clo (RelO.cut (by simpa [AV.lowA] using hi) h)
theorem RelL.cut {n : Nat} : ∀ {ρ : Nat → Option Loc} {ts : List AV} {cs : List Value}, AV.lowAs n ts = true → RelL w F ρ ts cs → RelL w F (cutR n ρ) ts cs
  | _, _, _, _, .nil => .nil
  | _, _, _, hi, .cons h1 h2 => by
    simp only [AV.lowAs, Bool.and_eq_true] at hi
    exact .cons (RelC.cut hi.1 h1) (RelL.cut hi.2 h2)
theorem RelO.cut {n : Nat} : ∀ {ρ : Nat → Option Loc} {ts : List AV} {cs : List Value}, AV.lowAs n ts = true → RelO w F ρ ts cs → RelO w F (cutR n ρ) ts cs
  | _, _, _, _, .nil => .nil
  | _, _, _, hi, .cons h1 h2 h3 => by
    simp only [AV.lowAs, Bool.and_eq_true] at hi
    exact .cons (RelC.cut hi.1 h1) h2 (RelO.cut hi.2 h3)
end
mutual
theorem RelV.cut {n : Nat} : ∀ {ρ : Nat → Option Loc} {t : AV} {v : Value}, t.lowA n = true → RelV w F ρ t v → RelV w F (cutR n ρ) t v
  | _, _, _, hi, .one h ha => .one (h.cut hi) ha
  | _, _, _, hi, .agg h ha => .agg (h.cut hi) ha
  | _, _, _, hi, .tup h => .tup (RelVs.cut (by simpa [AV.lowA] using hi) h)
  | _, _, _, _, .anyb => .anyb
  | _, _, _, _, .unk => .unk
theorem RelVs.cut {n : Nat} : ∀ {ρ : Nat → Option Loc} {ts : List AV} {vs : List Value}, AV.lowAs n ts = true → RelVs w F ρ ts vs → RelVs w F (cutR n ρ) ts vs
  | _, _, _, _, .nil => .nil
  | _, _, _, hi, .cons h1 h2 => by
    simp only [AV.lowAs, Bool.and_eq_true] at hi
    exact .cons (RelV.cut hi.1 h1) (RelVs.cut hi.2 h2)
end

theorem Ext.refl (F : Nat → Prop) (w : World) : Ext F w w := ⟨fun _ _ => rfl, fun b cur e h => ⟨cur, h, rfl⟩⟩

theorem RelC.up {ρ : Nat → Option Loc} {t : AV} {cs : List Value} (h : RelC w F noIds t cs) : RelC w F ρ t cs :=
  h.mono (Ext.refl F w) (fun _ h => h) (fun i l hi => by simp [noIds] at hi)

/-- The i-th of some parts. -/
theorem RelL.nth : ∀ {ρ : Nat → Option Loc} {ts : List AV} {cs : List Value} {i : Nat} {t : AV}, RelL w F ρ ts cs → ts[i]? = some t →
    ∃ pre mid post, cs = pre ++ (mid ++ post) ∧ pre.length = sizes (ts.take i) ∧ RelC w F ρ t mid ∧ RelL w F ρ (ts.take i) pre ∧ RelL w F ρ (ts.drop (i + 1)) post
  | _, _, _, i, _, .nil, ht => by simp at ht
  | _, _, _, 0, _, .cons h1 h2, ht => by
    simp only [List.getElem?_cons_zero, Option.some.injEq] at ht
    subst ht
    exact ⟨[], _, _, rfl, rfl, h1, .nil, by simpa using h2⟩
  | _, _, _, i + 1, _, .cons h1 h2, ht => by
    simp only [List.getElem?_cons_succ] at ht
    obtain ⟨pre, mid, post, rfl, hp, hm, hl, hr⟩ := RelL.nth h2 ht
    exact ⟨_ ++ pre, mid, post, by simp, by simp [sizes, h1.size, hp], hm, .cons h1 hl, by simpa using hr⟩
theorem RelE.nth : ∀ {es : Nat} {ts : List AV} {cs : List Value} {i : Nat} {t : AV}, RelE w F es ts cs → ts[i]? = some t →
    ∃ pre mid post, cs = pre ++ (mid ++ post) ∧ pre.length = i * es ∧ RelC w F noIds t mid ∧ mid.length = es ∧ RelE w F es (ts.take i) pre ∧ RelE w F es (ts.drop (i + 1)) post
  | _, _, _, i, _, .nil, ht => by simp at ht
  | _, _, _, 0, _, .cons h1 h0 h2, ht => by
    simp only [List.getElem?_cons_zero, Option.some.injEq] at ht
    subst ht
    exact ⟨[], _, _, rfl, by simp, h1, h0, .nil, by simpa using h2⟩
  | es, _, _, i + 1, _, .cons h1 h0 h2, ht => by
    simp only [List.getElem?_cons_succ] at ht
    obtain ⟨pre, mid, post, rfl, hp, hm, hs, hl, hr⟩ := RelE.nth h2 ht
    exact ⟨_ ++ pre, mid, post, by simp, by simp [h0, hp, Nat.add_mul]; omega, hm, hs, .cons h1 h0 hl, by simpa using hr⟩
theorem RelL.append : ∀ {ρ : Nat → Option Loc} {ts us : List AV} {cs ds : List Value}, RelL w F ρ ts cs → RelL w F ρ us ds → RelL w F ρ (ts ++ us) (cs ++ ds)
  | _, _, _, _, _, .nil, h => h
  | _, _, _, _, _, .cons h1 h2, h => by simp only [List.cons_append, List.append_assoc]; exact .cons h1 (RelL.append h2 h)
theorem RelE.append : ∀ {es : Nat} {ts us : List AV} {cs ds : List Value}, RelE w F es ts cs → RelE w F es us ds → RelE w F es (ts ++ us) (cs ++ ds)
  | _, _, _, _, _, .nil, h => h
  | _, _, _, _, _, .cons h1 h0 h2, h => by simp only [List.cons_append, List.append_assoc]; exact .cons h1 h0 (RelE.append h2 h)
theorem RelE.take : ∀ {es : Nat} {ts : List AV} {cs : List Value} (n : Nat), RelE w F es ts cs → RelE w F es (ts.take n) (cs.take (n * es))
  | _, _, _, 0, _ => by simp; exact .nil
  | _, _, _, n + 1, .nil => by simp; exact .nil
  | es, _, _, n + 1, .cons (c := c) h1 h0 h2 => by
    have := RelE.take n h2
    have e : c.take ((n + 1) * es) = c := List.take_of_length_le (by rw [h0, Nat.add_mul]; omega)
    rw [List.take_succ_cons, List.take_append, h0, show (n + 1) * es - es = n * es by rw [Nat.add_mul]; omega, e]
    exact .cons h1 h0 this
theorem RelE.drop : ∀ {es : Nat} {ts : List AV} {cs : List Value} (n : Nat), RelE w F es ts cs → RelE w F es (ts.drop n) (cs.drop (n * es))
  | _, _, _, 0, h => by simpa using h
  | _, _, _, n + 1, .nil => by simp; exact .nil
  | es, _, _, n + 1, .cons (c := c) h1 h0 h2 => by
    have := RelE.drop n h2
    have e : c.drop ((n + 1) * es) = [] := List.drop_of_length_le (by rw [h0, Nat.add_mul]; omega)
    rw [List.drop_succ_cons, List.drop_append, h0, show (n + 1) * es - es = n * es by rw [Nat.add_mul]; omega, e]
    simpa using this

theorem set_split {α : Type} {ts : List α} {i : Nat} {t u : α} (h : ts[i]? = some t) : ts.set i u = ts.take i ++ (u :: ts.drop (i + 1)) := by
  have hi : i < ts.length := (List.getElem?_eq_some_iff.1 h).1
  rw [List.set_eq_take_append_cons_drop]; simp [hi]

/-- What stands at a path, and what a store there makes of the whole. -/
theorem RelC.at : ∀ (p : List Nat) {ρ : Nat → Option Loc} {t u : AV} {cs : List Value} {o : Nat}, RelC w F ρ t cs → t.at? p = some (o, u) →
    ∃ pre mid post, cs = pre ++ (mid ++ post) ∧ pre.length = o ∧ RelC w F ρ u mid ∧
      ∀ v t' mid', t.set? p v = some t' → RelC w F ρ v mid' → mid'.length = mid.length → RelC w F ρ t' (pre ++ (mid' ++ post))
  | [], ρ, t, u, cs, o, h, hat => by
    simp only [AV.at?, Option.some.injEq, Prod.mk.injEq] at hat
    obtain ⟨rfl, rfl⟩ := hat
    refine ⟨[], cs, [], by simp, rfl, h, fun v t' mid' hs hv _ => ?_⟩
    simp only [AV.set?, Option.some.injEq] at hs
    subst hs
    simpa using hv
  | i :: p, ρ, t, u, cs, o, h, hat => by
    cases h with
    | agg hl hn =>
      simp only [AV.at?] at hat
      split at hat
      · rename_i t1 ht1
        split at hat
        · rename_i o1 u1 hat1
          simp only [Option.some.injEq, Prod.mk.injEq] at hat
          obtain ⟨rfl, rfl⟩ := hat
          obtain ⟨pre, mid, post, rfl, hp, hm, hl1, hl2⟩ := hl.nth ht1
          obtain ⟨pre2, mid2, post2, rfl, hp2, hm2, hset⟩ := RelC.at p hm hat1
          refine ⟨pre ++ pre2, mid2, post2 ++ post, by simp, by simp [hp, hp2], hm2, fun v t' mid' hs hv hlen => ?_⟩
          simp only [AV.set?, ht1] at hs
          split at hs
          · rename_i u2 hu2
            simp only [Option.some.injEq] at hs
            subst hs
            have := hset v u2 mid' hu2 hv hlen
            have e : pre ++ pre2 ++ (mid' ++ (post2 ++ post)) = pre ++ ((pre2 ++ (mid' ++ post2)) ++ post) := by simp
            rw [e]
            refine .agg ?_ (by simp at hn ⊢; omega)
            rw [set_split ht1]
            exact hl1.append (.cons this hl2)
          · cases hs
        · cases hat
      · cases hat
    | arr hl hn =>
      simp only [AV.at?] at hat
      split at hat
      · rename_i t1 ht1
        split at hat
        · rename_i o1 u1 hat1
          simp only [Option.some.injEq, Prod.mk.injEq] at hat
          obtain ⟨rfl, rfl⟩ := hat
          obtain ⟨pre, mid, post, rfl, hp, hm, hms, hl1, hl2⟩ := hl.nth ht1
          obtain ⟨pre2, mid2, post2, rfl, hp2, hm2, hset⟩ := RelC.at p hm hat1
          refine ⟨pre ++ pre2, mid2, post2 ++ post, by simp, by simp [hp, hp2], hm2.up, fun v t' mid' hs hv hlen => ?_⟩
          simp only [AV.set?, ht1] at hs
          split at hs
          · rename_i u2 hu2
            split at hs
            · rename_i hfree
              simp only [Option.some.injEq] at hs
              subst hs
              have := hset v u2 mid' hu2 (hv.free hfree) hlen
              have e : pre ++ pre2 ++ (mid' ++ (post2 ++ post)) = pre ++ ((pre2 ++ (mid' ++ post2)) ++ post) := by simp
              rw [e]
              refine .arr ?_ (by simp [hn])
              rw [set_split ht1]
              exact hl1.append (.cons this (by simp at hms ⊢; omega) hl2)
            · cases hs
          · cases hs
        · cases hat
      · cases hat
    | _ => simp [AV.at?] at hat
end shape
end Go.Ra

/- Heaps of abstract values in worlds; how a world may go on. -/
namespace Go.Ra
set_option linter.unusedVariables false

structure Gh where
  ρ : Nat → Option Loc
  F : Nat → Prop

def upd {α : Type} (f : Nat → α) (i : Nat) (x : α) : Nat → α := fun j => if j = i then x else f j
theorem upd_self {α : Type} (f : Nat → α) (i : Nat) (x : α) : upd f i x i = x := by simp [upd]
theorem upd_ne {α : Type} (f : Nat → α) {i j : Nat} (x : α) (h : j ≠ i) : upd f i x j = f j := by simp [upd, h]

structure Wf (G : Gh) (w : World) (H : Nat → Option AV) (U : Nat → Prop) : Prop where
  free : ∀ i, U i → H i = none ∧ G.ρ i = none
  fsz : ∀ b, G.F b → b < w.heap.size
  blk : ∀ i t, H i = some t →
    (∃ (b o : Nat) (cs : List Value) (cur : Array Value) (e : TypeId), G.ρ i = some (b, o) ∧ RelC w G.F G.ρ t cs ∧ w.heap[b]? = some (Obj.cells cur e (0, 0)) ∧ Reads w b o cs ∧ ¬ G.F b) ∨
    (G.ρ i = none ∧ ∃ es, t = .arr 0 es [])
  dis : ∀ (i j b o o' : Nat), H i ≠ none → H j ≠ none → G.ρ i = some (b, o) → G.ρ j = some (b, o') → i = j

structure Fr where
  w0 : World
  S : Nat → Prop
  F0 : Nat → Prop
  nt : Nat

structure FrOk (fr : Fr) (G : Gh) (w : World) (H : Nat → Option AV) : Prop where
  os : w.os = fr.w0.os
  tape : w.tape = fr.w0.tape
  output : w.output = fr.w0.output
  size : fr.w0.heap.size ≤ w.heap.size
  same : ∀ b, b < fr.w0.heap.size → ¬ fr.S b → w.heap[b]? = fr.w0.heap[b]?
  ext : Ext fr.F0 fr.w0 w
  f0 : ∀ b, fr.F0 b → G.F b
  fnew : ∀ b, G.F b → fr.F0 b ∨ fr.S b ∨ fr.w0.heap.size ≤ b
  loc : ∀ (i b o : Nat), H i ≠ none → G.ρ i = some (b, o) → fr.S b ∨ fr.w0.heap.size ≤ b

/-- From one world to a later one. -/
structure Nxt (fr : Fr) (G : Gh) (w : World) (G' : Gh) (w' : World) (H' : Nat → Option AV) (U' : Nat → Prop) : Prop where
  wf : Wf G' w' H' U'
  fr : FrOk fr G' w' H'
  ext : Ext G.F w w'
  leF : ∀ b, G.F b → G'.F b
  leR : ∀ i l, G.ρ i = some l → G'.ρ i = some l

theorem Ext.trans {F F' : Nat → Prop} {a b c : World} (h : Ext F a b) (k : Ext F' b c) (hF : ∀ x, F x → F' x) : Ext F a c :=
  ⟨fun x hx => (k.same x (hF x hx)).trans (h.same x hx), fun x cur e hx => by
    obtain ⟨c1, h1, h2⟩ := h.rows x cur e hx
    obtain ⟨c2, h3, h4⟩ := k.rows x c1 e h1
    exact ⟨c2, h3, h4.trans h2⟩⟩

theorem Reads.of_block {w w' : World} {b o : Nat} {cs : List Value} (h : Reads w b o cs) (hb : w'.heap[b]? = w.heap[b]?) : Reads w' b o cs := by
  intro j v hj
  rw [World.cell?_of_block (a := ⟨b, o + j, none⟩) hb]
  exact h j v hj

/-- Another world with the same heap. -/
structure SameHeap (w w' : World) : Prop where
  heap : w'.heap = w.heap
  os : w'.os = w.os
  tape : w'.tape = w.tape
  output : w'.output = w.output
theorem SameHeap.refl (w : World) : SameHeap w w := ⟨rfl, rfl, rfl, rfl⟩

/-- One block more. -/
structure Pushed (w w' : World) (o : Obj) : Prop where
  heap : w'.heap = w.heap.push o
  os : w'.os = w.os
  tape : w'.tape = w.tape
  output : w'.output = w.output

/-- One row with other cells. -/
structure Rowed (w w' : World) (b : Nat) (cur cur' : Array Value) (e : TypeId) : Prop where
  old : w.heap[b]? = some (Obj.cells cur e (0, 0))
  new : w'.heap[b]? = some (Obj.cells cur' e (0, 0))
  other : ∀ k, k ≠ b → w'.heap[k]? = w.heap[k]?
  size : cur'.size = cur.size
  hsz : w'.heap.size = w.heap.size
  os : w'.os = w.os
  tape : w'.tape = w.tape
  output : w'.output = w.output

section
variable {fr : Fr} {G : Gh} {w w' : World} {H : Nat → Option AV} {U : Nat → Prop}

theorem lt_of_block {w : World} {b : Nat} {o : Obj} (h : w.heap[b]? = some o) : b < w.heap.size := (Array.getElem?_eq_some_iff.1 h).1

theorem SameHeap.ext (h : SameHeap w w') (F : Nat → Prop) : Ext F w w' := ⟨fun b _ => by rw [h.heap], fun b cur e hb => ⟨cur, by rw [h.heap]; exact hb, rfl⟩⟩
theorem Pushed.old {o : Obj} (h : Pushed w w' o) {b : Nat} (hb : b < w.heap.size) : w'.heap[b]? = w.heap[b]? := by
  rw [h.heap, Array.getElem?_push, if_neg (by omega)]
theorem Pushed.new {o : Obj} (h : Pushed w w' o) : w'.heap[w.heap.size]? = some o := by rw [h.heap]; simp
theorem Pushed.size {o : Obj} (h : Pushed w w' o) : w'.heap.size = w.heap.size + 1 := by rw [h.heap]; simp
theorem Pushed.ext {o : Obj} (h : Pushed w w' o) (F : Nat → Prop) (hF : ∀ b, F b → b < w.heap.size) : Ext F w w' :=
  ⟨fun b hb => h.old (hF b hb), fun b cur e hb => ⟨cur, by rw [h.old (lt_of_block hb)]; exact hb, rfl⟩⟩
theorem Rowed.ext {b : Nat} {cur cur' : Array Value} {e : TypeId} (h : Rowed w w' b cur cur' e) (F : Nat → Prop) (hF : ¬ F b) : Ext F w w' :=
  ⟨fun k hk => h.other k (fun hkb => hF (hkb ▸ hk)), fun k c1 e1 hk => by
    by_cases hkb : k = b
    · subst hkb
      rw [h.old] at hk
      simp only [Option.some.injEq, Obj.cells.injEq] at hk
      obtain ⟨rfl, rfl, _⟩ := hk
      exact ⟨cur', h.new, h.size⟩
    · exact ⟨c1, by rw [h.other k hkb]; exact hk, rfl⟩⟩

theorem Nxt.same (hw : Wf G w H U) (hf : FrOk fr G w H) (h : SameHeap w w') : Nxt fr G w G w' H U := by
  have hx := h.ext G.F
  refine ⟨⟨hw.free, fun b hb => by rw [h.heap]; exact hw.fsz b hb, fun i t hi => ?_, hw.dis⟩, ⟨h.os.trans hf.os, h.tape.trans hf.tape, h.output.trans hf.output, by rw [h.heap]; exact hf.size, fun b hb hs => by rw [h.heap]; exact hf.same b hb hs, hf.ext.trans (h.ext G.F) hf.f0, hf.f0, hf.fnew, hf.loc⟩, hx, fun _ h => h, fun _ _ h => h⟩
  rcases hw.blk i t hi with ⟨b, o, cs, cur, e, h1, h2, h3, h4, h5⟩ | h1
  · exact .inl ⟨b, o, cs, cur, e, h1, h2.mono hx (fun _ h => h) (fun _ _ h => h), by rw [h.heap]; exact h3, h4.of_block (by rw [h.heap]), h5⟩
  · exact .inr h1

/-- A new block that nobody writes. -/
theorem Nxt.frozen (hw : Wf G w H U) (hf : FrOk fr G w H) {cur : Array Value} {e : TypeId} (h : Pushed w w' (Obj.cells cur e (0, 0))) :
    Nxt fr G w ⟨G.ρ, fun b => G.F b ∨ b = w.heap.size⟩ w' H U := by
  have hx := h.ext G.F hw.fsz
  refine ⟨⟨hw.free, fun b hb => ?_, fun i t hi => ?_, hw.dis⟩, ⟨h.os.trans hf.os, h.tape.trans hf.tape, h.output.trans hf.output, by rw [h.size]; have := hf.size; omega, fun b hb hs => ?_, hf.ext.trans hx hf.f0, fun b hb => .inl (hf.f0 b hb), fun b hb => ?_, hf.loc⟩, hx, fun _ h => .inl h, fun _ _ h => h⟩
  · rw [h.size]
    rcases hb with hb | rfl
    · have := hw.fsz b hb; omega
    · omega
  · rcases hw.blk i t hi with ⟨b, o, cs, cur, e, h1, h2, h3, h4, h5⟩ | h1
    · have hlt := lt_of_block h3
      refine .inl ⟨b, o, cs, cur, e, h1, h2.mono hx (fun _ h => .inl h) (fun _ _ h => h), by rw [h.old hlt]; exact h3, h4.of_block (h.old hlt), ?_⟩
      rintro (hb | rfl)
      · exact h5 hb
      · omega
    · exact .inr h1
  · rw [h.old (by have := hf.size; omega)]; exact hf.same b hb hs
  · rcases hb with hb | rfl
    · exact hf.fnew b hb
    · exact .inr (.inr hf.size)

/-- A new block of the call's own, under a name that was not used. -/
theorem Nxt.own (hw : Wf G w H U) (hf : FrOk fr G w H) {cur : Array Value} {e : TypeId} (h : Pushed w w' (Obj.cells cur e (0, 0)))
    {i : Nat} (hU : U i) {t : AV} {cs : List Value} (ht : RelC w G.F G.ρ t cs) (hc : ∀ (j : Nat) (v : Value), cs[j]? = some v → cur[j]? = some v) {U' : Nat → Prop} (hU' : ∀ j, U' j → U j ∧ j ≠ i) :
    Nxt fr G w ⟨upd G.ρ i (some (w.heap.size, 0)), G.F⟩ w' (upd H i (some t)) U' := by
  have hx := h.ext G.F hw.fsz
  have hfree := hw.free i hU
  have hle : ∀ j l, G.ρ j = some l → upd G.ρ i (some (w.heap.size, 0)) j = some l := fun j l hj => by
    rw [upd_ne]
    · exact hj
    · rintro rfl; rw [hfree.2] at hj; cases hj
  have hlt : ∀ j b o, H j ≠ none → G.ρ j = some (b, o) → b < w.heap.size := fun j b o hj hr => by
    cases hj' : H j with
    | none => exact absurd hj' hj
    | some t =>
      rcases hw.blk j t hj' with ⟨b', o', cs, cur, e, h1, h2, h3, h4, h5⟩ | h1
      · rw [hr] at h1
        simp only [Option.some.injEq, Prod.mk.injEq] at h1
        rw [h1.1]; exact lt_of_block h3
      · rw [hr] at h1; cases h1.1
  refine ⟨⟨fun j hj => ?_, fun b hb => by rw [h.size]; have := hw.fsz b hb; omega, fun j u hj => ?_, fun j k b o o' hj hk hrj hrk => ?_⟩,
    ⟨h.os.trans hf.os, h.tape.trans hf.tape, h.output.trans hf.output, by rw [h.size]; have := hf.size; omega, fun b hb hs => by rw [h.old (by have := hf.size; omega)]; exact hf.same b hb hs, hf.ext.trans hx hf.f0, hf.f0, hf.fnew, fun j b o hj hr => ?_⟩, hx, fun _ h => h, hle⟩
  · obtain ⟨hj1, hj2⟩ := hU' j hj
    rw [upd_ne _ _ hj2]
    exact ⟨(hw.free j hj1).1, by show upd G.ρ i _ j = none; rw [upd_ne _ _ hj2]; exact (hw.free j hj1).2⟩
  · by_cases hji : j = i
    · subst hji
      rw [upd_self] at hj
      simp only [Option.some.injEq] at hj
      subst hj
      refine .inl ⟨w.heap.size, 0, cs, cur, e, upd_self _ _ _, ht.mono hx (fun _ h => h) hle, h.new, fun k v hk => ?_, fun hb => by have := hw.fsz _ hb; omega⟩
      rw [World.cell?, h.new]; simpa using hc k v hk
    · rw [upd_ne _ _ hji] at hj
      rcases hw.blk j u hj with ⟨b, o, cs, cur, e, h1, h2, h3, h4, h5⟩ | h1
      · have hb := lt_of_block h3
        exact .inl ⟨b, o, cs, cur, e, by show upd G.ρ i _ j = _; rw [upd_ne _ _ hji]; exact h1, h2.mono hx (fun _ h => h) hle, by rw [h.old hb]; exact h3, h4.of_block (h.old hb), h5⟩
      · exact .inr ⟨by show upd G.ρ i _ j = _; rw [upd_ne _ _ hji]; exact h1.1, h1.2⟩
  · change upd G.ρ i _ j = _ at hrj
    change upd G.ρ i _ k = _ at hrk
    by_cases hji : j = i
    · by_cases hki : k = i
      · rw [hji, hki]
      · rw [hji, upd_self] at hrj
        rw [upd_ne _ _ hki] at hrk hk
        simp only [Option.some.injEq, Prod.mk.injEq] at hrj
        have := hlt k b o' hk hrk
        omega
    · rw [upd_ne _ _ hji] at hrj hj
      by_cases hki : k = i
      · rw [hki, upd_self] at hrk
        simp only [Option.some.injEq, Prod.mk.injEq] at hrk
        have := hlt j b o hj hrj
        omega
      · rw [upd_ne _ _ hki] at hrk hk
        exact hw.dis j k b o o' hj hk hrj hrk
  · change upd G.ρ i _ j = _ at hr
    by_cases hji : j = i
    · rw [hji, upd_self] at hr
      simp only [Option.some.injEq, Prod.mk.injEq] at hr
      exact .inr (by rw [← hr.1]; exact hf.size)
    · rw [upd_ne _ _ hji] at hr hj
      exact hf.loc j b o hj hr

/-- A name for an empty row without a place. -/
theorem Nxt.none (hw : Wf G w H U) (hf : FrOk fr G w H) (h : SameHeap w w') {i : Nat} (hU : U i) (es : Nat) {U' : Nat → Prop} (hU' : ∀ j, U' j → U j ∧ j ≠ i) :
    Nxt fr G w G w' (upd H i (some (.arr 0 es []))) U' := by
  have h0 := Nxt.same hw hf h
  have hfree := hw.free i hU
  refine ⟨⟨fun j hj => ?_, h0.wf.fsz, fun j t hj => ?_, fun j k b o o' hj hk hrj hrk => ?_⟩, ⟨h0.fr.os, h0.fr.tape, h0.fr.output, h0.fr.size, h0.fr.same, h0.fr.ext, h0.fr.f0, h0.fr.fnew, fun j b o hj hr => ?_⟩, h0.ext, h0.leF, h0.leR⟩
  · obtain ⟨hj1, hj2⟩ := hU' j hj
    rw [upd_ne _ _ hj2]; exact hw.free j hj1
  · by_cases hji : j = i
    · subst hji
      rw [upd_self] at hj
      simp only [Option.some.injEq] at hj
      exact .inr ⟨hfree.2, es, hj.symm⟩
    · rw [upd_ne _ _ hji] at hj
      exact h0.wf.blk j t hj
  · have hji : j ≠ i := by rintro rfl; rw [hfree.2] at hrj; cases hrj
    have hki : k ≠ i := by rintro rfl; rw [hfree.2] at hrk; cases hrk
    rw [upd_ne _ _ hji] at hj
    rw [upd_ne _ _ hki] at hk
    exact hw.dis j k b o o' hj hk hrj hrk
  · have hji : j ≠ i := by rintro rfl; rw [hfree.2] at hr; cases hr
    rw [upd_ne _ _ hji] at hj
    exact h0.fr.loc j b o hj hr

/-- A name is forgotten. -/
theorem Wf.kill (hw : Wf G w H U) (k : Nat) : Wf G w (upd H k Option.none) U := by
  have hne : ∀ j, upd H k Option.none j ≠ Option.none → H j ≠ Option.none := fun j hj => by
    by_cases hjk : j = k
    · rw [hjk, upd_self] at hj; exact absurd rfl hj
    · rwa [upd_ne _ _ hjk] at hj
  refine ⟨fun i hi => ⟨?_, (hw.free i hi).2⟩, hw.fsz, fun i t hi => ?_, fun i j b o o' hi hj => hw.dis i j b o o' (hne i hi) (hne j hj)⟩
  · by_cases hik : i = k
    · rw [hik, upd_self]
    · rw [upd_ne _ _ hik]; exact (hw.free i hi).1
  · by_cases hik : i = k
    · rw [hik, upd_self] at hi; cases hi
    · rw [upd_ne _ _ hik] at hi; exact hw.blk i t hi
theorem FrOk.kill (hf : FrOk fr G w H) (k : Nat) : FrOk fr G w (upd H k Option.none) :=
  ⟨hf.os, hf.tape, hf.output, hf.size, hf.same, hf.ext, hf.f0, hf.fnew, fun j b o hj hr => by
    by_cases hjk : j = k
    · rw [hjk, upd_self] at hj; exact absurd rfl hj
    · rw [upd_ne _ _ hjk] at hj; exact hf.loc j b o hj hr⟩

/-- A row of the call's own is written, under its old name or under a new one. -/
theorem Nxt.rewrite (hw : Wf G w H U) (hf : FrOk fr G w H) {k i b o o' : Nat} {t t' : AV} {cs' : List Value} {cur cur' : Array Value} {e : TypeId}
    (hk : H k = some t) (hr : G.ρ k = some (b, o)) (h : Rowed w w' b cur cur' e) (hi : (i = k ∧ o' = o) ∨ U i)
    (ht : RelC w G.F G.ρ t' cs') (hc : ∀ (j : Nat) (v : Value), cs'[j]? = some v → cur'[o' + j]? = some v) {U' : Nat → Prop} (hU' : ∀ j, U' j → U j ∧ j ≠ i) :
    Nxt fr G w ⟨upd G.ρ i (some (b, o')), G.F⟩ w' (upd (upd H k Option.none) i (some t')) U' := by
  have hnF : ¬ G.F b := by
    rcases hw.blk k t hk with ⟨b', o1, cs, c1, e1, h1, h2, h3, h4, h5⟩ | h1
    · rw [hr] at h1; simp only [Option.some.injEq, Prod.mk.injEq] at h1; rw [h1.1]; exact h5
    · rw [hr] at h1; cases h1.1
  have hx := h.ext G.F hnF
  have hle : ∀ j l, G.ρ j = some l → upd G.ρ i (some (b, o')) j = some l := fun j l hj => by
    by_cases hji : j = i
    · subst hji
      rcases hi with ⟨rfl, rfl⟩ | hi
      · rw [upd_self, ← hr, hj]
      · rw [(hw.free j hi).2] at hj; cases hj
    · rw [upd_ne _ _ hji]; exact hj
  have live : ∀ j, j ≠ i → upd (upd H k Option.none) i (some t') j ≠ Option.none → H j ≠ Option.none ∧ j ≠ k := fun j hji hj => by
    rw [upd_ne _ _ hji] at hj
    by_cases hjk : j = k
    · rw [hjk, upd_self] at hj; exact absurd rfl hj
    · rw [upd_ne _ _ hjk] at hj; exact ⟨hj, hjk⟩
  have apart : ∀ j b1 o1, H j ≠ Option.none → j ≠ k → G.ρ j = some (b1, o1) → b1 ≠ b := fun j b1 o1 hj hjk hrj hbb => by
    subst hbb
    exact hjk (hw.dis j k b1 o1 o hj (by rw [hk]; simp) hrj hr)
  have hS := hf.loc k b o (by rw [hk]; simp) hr
  refine ⟨⟨fun j hj => ?_, fun b1 hb => by rw [h.hsz]; exact hw.fsz b1 hb, fun j u hj => ?_, fun j l b1 o1 o2 hj hl hrj hrl => ?_⟩,
    ⟨h.os.trans hf.os, h.tape.trans hf.tape, h.output.trans hf.output, by rw [h.hsz]; exact hf.size, fun b1 hb hs => ?_, hf.ext.trans hx hf.f0, hf.f0, hf.fnew, fun j b1 o1 hj hrj => ?_⟩, hx, fun _ h => h, hle⟩
  · obtain ⟨hj1, hj2⟩ := hU' j hj
    have hfj := hw.free j hj1
    refine ⟨?_, by show upd G.ρ i _ j = _; rw [upd_ne _ _ hj2]; exact hfj.2⟩
    rw [upd_ne _ _ hj2]
    by_cases hjk : j = k
    · rw [hjk, upd_self]
    · rw [upd_ne _ _ hjk]; exact hfj.1
  · by_cases hji : j = i
    · subst hji
      rw [upd_self] at hj
      simp only [Option.some.injEq] at hj
      subst hj
      refine .inl ⟨b, o', cs', cur', e, upd_self _ _ _, ht.mono hx (fun _ h => h) hle, h.new, fun n v hn => ?_, hnF⟩
      rw [World.cell?, h.new]; simpa using hc n v hn
    · have hl := live j hji (by rw [hj]; simp)
      rw [upd_ne _ _ hji, upd_ne _ _ hl.2] at hj
      rcases hw.blk j u hj with ⟨b1, o1, cs, c1, e1, h1, h2, h3, h4, h5⟩ | h1
      · have hne := apart j b1 o1 hl.1 hl.2 h1
        exact .inl ⟨b1, o1, cs, c1, e1, by show upd G.ρ i _ j = _; rw [upd_ne _ _ hji]; exact h1, h2.mono hx (fun _ h => h) hle, by rw [h.other b1 hne]; exact h3, h4.of_block (h.other b1 hne), h5⟩
      · exact .inr ⟨by show upd G.ρ i _ j = _; rw [upd_ne _ _ hji]; exact h1.1, h1.2⟩
  · change upd G.ρ i _ j = _ at hrj
    change upd G.ρ i _ l = _ at hrl
    by_cases hji : j = i
    · by_cases hli : l = i
      · rw [hji, hli]
      · rw [hji, upd_self] at hrj
        rw [upd_ne _ _ hli] at hrl
        have hll := live l hli hl
        simp only [Option.some.injEq, Prod.mk.injEq] at hrj
        exact absurd hrj.1.symm (apart l b1 o2 hll.1 hll.2 hrl)
    · rw [upd_ne _ _ hji] at hrj
      have hlj := live j hji hj
      by_cases hli : l = i
      · rw [hli, upd_self] at hrl
        simp only [Option.some.injEq, Prod.mk.injEq] at hrl
        exact absurd hrl.1.symm (apart j b1 o1 hlj.1 hlj.2 hrj)
      · rw [upd_ne _ _ hli] at hrl
        exact hw.dis j l b1 o1 o2 hlj.1 (live l hli hl).1 hrj hrl
  · by_cases hbb : b1 = b
    · subst hbb
      rcases hS with h1 | h1
      · exact absurd h1 hs
      · omega
    · rw [h.other b1 hbb]; exact hf.same b1 hb hs
  · change upd G.ρ i _ j = _ at hrj
    by_cases hji : j = i
    · rw [hji, upd_self] at hrj
      simp only [Option.some.injEq, Prod.mk.injEq] at hrj
      rw [← hrj.1]; exact hS
    · rw [upd_ne _ _ hji] at hrj
      exact hf.loc j b1 o1 (live j hji hj).1 hrj
end
end Go.Ra

/- Each abstract operation is sound: the ones that only compute. -/
namespace Go.Ra
set_option linter.unusedVariables false
set_option linter.unusedSimpArgs false

theorem eqPlain_eq : ∀ {v u : Value}, eqPlain v u = true → v = u ∧ plainV v = true := by
  intro v u h
  cases v <;> cases u <;> simp [eqPlain] at h
  case bool.bool => exact ⟨by rw [h], rfl⟩
  case int.int => exact ⟨by rw [h.1, h.2], rfl⟩
  case string.string a b =>
    refine ⟨?_, rfl⟩
    congr 1
    exact ByteArray.ext h
  case pointer.pointer a b =>
    cases a <;> cases b <;> simp [eqPlain] at h
    exact ⟨rfl, rfl⟩

theorem matchZ_fro {x : Bool} {es : Nat} {ts : List AV} {cs r : List Value} (h : matchZ (.fro x es ts) cs = some r) : ∃ c, cs = c ++ r ∧ ∀ w F ρ, RelC w F ρ (.fro x es ts) c := by
  cases ts with
  | cons _ _ => cases cs <;> simp [matchZ] at h
  | nil =>
    cases cs with
    | nil => simp [matchZ] at h
    | cons u l =>
      unfold matchZ at h
      split at h
      all_goals first
        | (rename_i heq1 heq2
           simp only [List.cons.injEq] at heq2
           obtain ⟨rfl, rfl⟩ := heq2
           simp only [Option.some.injEq] at h
           subst h
           exact ⟨[_], rfl, fun w F ρ => .fro0 (fun _ => rfl)⟩)
        | (simp_all; done)

mutual
theorem matchZ_rel : ∀ {t : AV} {cs r : List Value}, matchZ t cs = some r → ∃ c, cs = c ++ r ∧ ∀ w F ρ, RelC w F ρ t c
  | .sc v, cs, r, h => by
    cases cs with
    | nil => simp [matchZ] at h
    | cons u l =>
      simp only [matchZ] at h
      split at h
      · rename_i he
        obtain ⟨rfl, hp⟩ := eqPlain_eq he
        simp only [Option.some.injEq] at h
        subst h
        exact ⟨[v], rfl, fun w F ρ => .sc hp⟩
      · cases h
  | .fro x es ts, cs, r, h => matchZ_fro h
  | .agg n ts, cs, r, h => by
    simp only [matchZ] at h
    split at h
    · rename_i r' hr
      split at h
      · rename_i hl
        simp only [Option.some.injEq] at h
        subst h
        obtain ⟨c, rfl, hc⟩ := matchZs_rel hr
        exact ⟨c, rfl, fun w F ρ => .agg (hc w F ρ) (by simp at hl; omega)⟩
      · cases h
    · cases h
  | .arr n es ts, cs, r, h => by
    simp only [matchZ] at h
    split at h
    · rename_i hl
      obtain ⟨c, rfl, hc⟩ := matchZe_rel h
      exact ⟨c, rfl, fun w F ρ => .arr (hc w F) hl⟩
    · cases h
  | .fptr _, _, _, h => by simp [matchZ] at h
  | .sl .., _, _, h => by simp [matchZ] at h
  | .ptr .., _, _, h => by simp [matchZ] at h
  | .clo .., _, _, h => by simp [matchZ] at h
  | .tup _, _, _, h => by simp [matchZ] at h
  | .anyb, _, _, h => by simp [matchZ] at h
  | .unk, _, _, h => by simp [matchZ] at h
theorem matchZs_rel : ∀ {ts : List AV} {cs r : List Value}, matchZs ts cs = some r → ∃ c, cs = c ++ r ∧ ∀ w F ρ, RelL w F ρ ts c
  | [], cs, r, h => by
    simp only [matchZs, Option.some.injEq] at h
    subst h
    exact ⟨[], rfl, fun _ _ _ => .nil⟩
  | t :: ts, cs, r, h => by
    simp only [matchZs] at h
    split at h
    · rename_i r' hr
      obtain ⟨c, rfl, hc⟩ := matchZ_rel hr
      obtain ⟨c', rfl, hc'⟩ := matchZs_rel h
      exact ⟨c ++ c', by simp, fun w F ρ => .cons (hc w F ρ) (hc' w F ρ)⟩
    · cases h
theorem matchZe_rel : ∀ {ts : List AV} {es : Nat} {cs r : List Value}, matchZe es ts cs = some r → ∃ c, cs = c ++ r ∧ ∀ w F, RelE w F es ts c
  | [], es, cs, r, h => by
    simp only [matchZe, Option.some.injEq] at h
    subst h
    exact ⟨[], rfl, fun _ _ => .nil⟩
  | t :: ts, es, cs, r, h => by
    simp only [matchZe] at h
    split at h
    · rename_i r' hr
      split at h
      · rename_i hsz
        obtain ⟨c, rfl, hc⟩ := matchZ_rel hr
        obtain ⟨c', rfl, hc'⟩ := matchZe_rel h
        exact ⟨c ++ c', by simp, fun w F => .cons (hc w F noIds) (by rw [(hc w F noIds).size, hsz]) (hc' w F)⟩
      · cases h
    · cases h
end

theorem zeroT_rel {P : Program} {t : TypeId} {z : AV} (h : zeroT P t = some z) : ∃ i v, P.info? t = some i ∧ i.zero = some v ∧ z.idfree = true ∧ ∀ w F ρ, RelC w F ρ z v.cells.toList ∧ RelV w F ρ z v := by
  unfold zeroT at h
  split at h
  · rename_i z' i hz hi
    split at h
    · rename_i v hv
      split at h
      · rename_i hm
        split at h
        · rename_i hc
          simp only [Option.some.injEq] at h
          subst h
          simp only [Bool.and_eq_true, beq_iff_eq] at hc
          obtain ⟨c, hcs, hrel⟩ := matchZ_rel hm
          simp only [List.append_nil] at hcs
          refine ⟨i, v, hi, hv, hc.2, fun w F ρ => ?_⟩
          have h1 : RelC w F ρ z' v.cells.toList := by rw [hcs]; exact hrel w F ρ
          refine ⟨h1, ?_⟩
          cases v with
          | agg cs =>
            have := RelV.agg (cs := cs.toList) (by simpa [Value.cells] using h1) (by simpa [aggV] using hc.1)
            simpa using this
          | _ => exact .one (by simpa [Value.cells] using h1) (by simpa [aggV] using hc.1)
        · cases h
      · cases h
    · cases h
  · cases h

section inv
variable {w : World} {F : Nat → Prop} {ρ : Nat → Option Loc}
theorem RelV.sc_inv {v u : Value} (h : RelV w F ρ (.sc v) u) : u = v ∧ plainV v = true := by
  cases h with
  | one h _ => cases h with | sc h => exact ⟨rfl, h⟩
  | agg h ha => simp [AV.isAgg] at ha
theorem RelV.ptr_inv {id off : Nat} {path : List Nat} {u : Value} (h : RelV w F ρ (.ptr id path off) u) : ∃ b o, ρ id = some (b, o) ∧ u = .pointer (some ⟨b, o + off, none⟩) := by
  cases h with
  | one h _ => cases h with | ptr h => exact ⟨_, _, h, rfl⟩
  | agg h ha => simp [AV.isAgg] at ha
theorem RelV.fptr_inv {t : AV} {u : Value} (h : RelV w F ρ (.fptr t) u) : ∃ b o cs, u = .pointer (some ⟨b, o, none⟩) ∧ RelC w F noIds t cs ∧ Reads w b o cs ∧ F b := by
  cases h with
  | one h _ => cases h with | fptr h1 h2 h3 => exact ⟨_, _, _, rfl, h1, h2, h3⟩
  | agg h ha => simp [AV.isAgg] at ha
theorem RelV.fro_inv {x : Bool} {es : Nat} {ts : List AV} {u : Value} (h : RelV w F ρ (.fro x es ts) u) :
    ∃ a cap, u = .slice a ts.length cap ∧ ts.length ≤ cap ∧ (x = true → cap = ts.length) ∧ ((ts = []) ∨ ∃ b o cs, a = some ⟨b, o, none⟩ ∧ RelE w F es ts cs ∧ Reads w b o cs ∧ F b) := by
  cases h with
  | one h _ =>
    cases h with
    | fro0 h => exact ⟨_, _, rfl, Nat.zero_le _, fun hx => h hx, .inl rfl⟩
    | fro h1 h2 h3 h4 h5 => exact ⟨_, _, rfl, h5, h4, .inr ⟨_, _, _, rfl, h1, h2, h3⟩⟩
  | agg h ha => simp [AV.isAgg] at ha
theorem RelV.sl_inv {id off k len es : Nat} {path : List Nat} {u : Value} (h : RelV w F ρ (.sl id path off k len es) u) :
    ∃ a cap, u = .slice a len cap ∧ len ≤ cap ∧ ((len = 0 ∧ cap = 0) ∨ ∃ b o cur e, a = some ⟨b, o + off, none⟩ ∧ ρ id = some (b, o) ∧ w.heap[b]? = some (Obj.cells cur e (0, 0)) ∧ o + off + cap * es ≤ cur.size) := by
  cases h with
  | one h _ =>
    cases h with
    | sl0 => exact ⟨_, _, rfl, Nat.le_refl _, .inl ⟨rfl, rfl⟩⟩
    | sl h1 h2 h3 h4 => exact ⟨_, _, rfl, h2, .inr ⟨_, _, _, _, rfl, h1, h3, h4⟩⟩
  | agg h ha => simp [AV.isAgg] at ha
theorem RelV.clo_inv {f : Nat} {caps : List AV} {u : Value} (h : RelV w F ρ (.clo f caps) u) : ∃ cs, u = .func (.func f) #[] cs.toArray ∧ RelO w F ρ caps cs := by
  cases h with
  | one h _ => cases h with | clo h => exact ⟨_, rfl, h⟩
  | agg h ha => simp [AV.isAgg] at ha
theorem RelV.tup_inv {ts : List AV} {u : Value} (h : RelV w F ρ (.tup ts) u) : ∃ vs, u = .tuple vs.toArray ∧ RelVs w F ρ ts vs := by
  cases h with
  | one h _ => cases h
  | agg h ha => simp [AV.isAgg] at ha
  | tup h => exact ⟨_, rfl, h⟩
theorem RelV.anyb_inv {u : Value} (h : RelV w F ρ .anyb u) : ∃ b, u = .bool b := by
  cases h with
  | one h _ => cases h
  | agg h ha => simp [AV.isAgg] at ha
  | anyb => exact ⟨_, rfl⟩
theorem cells_one {v : Value} (h : v.oneCell' = true) : v.cells = #[v] := by cases v <;> first | rfl | simp [Value.oneCell'] at h

/-- The cells of a value that can be stored. -/
theorem RelV.cells {t : AV} {u : Value} (h : RelV w F ρ t u) (hs : t.storable = true) : RelC w F ρ t u.cells.toList := by
  cases h with
  | one h h0 => rw [cells_one (h.ones u (by simp))]; simpa using h
  | agg h _ => simpa [Value.cells] using h
  | tup _ => simp [AV.storable] at hs
  | anyb => simp [AV.storable] at hs
  | unk => simp [AV.storable] at hs

theorem RelVs.nth : ∀ {ts : List AV} {vs : List Value} {i : Nat} {t : AV}, RelVs w F ρ ts vs → ts[i]? = some t → ∃ v, vs[i]? = some v ∧ RelV w F ρ t v
  | _, _, i, _, .nil, h => by simp at h
  | _, _, 0, _, .cons h1 h2, h => by
    simp only [List.getElem?_cons_zero, Option.some.injEq] at h
    subst h
    exact ⟨_, rfl, h1⟩
  | _, _, i + 1, _, .cons h1 h2, h => by
    simp only [List.getElem?_cons_succ] at h
    obtain ⟨v, hv, hr⟩ := RelVs.nth h2 h
    exact ⟨v, by simpa using hv, hr⟩
end inv

/-- What an operation does to the heap. -/
inductive Chg where
  | same
  | new (t : AV)
  | put (k : Nat) (t : AV)
  | move (k : Nat) (t : AV)

def Chg.st : Chg → St → St
  | .same, σ => σ
  | .new t, σ => σ.new t
  | .put k t, σ => σ.hput k (some t)
  | .move k t, σ => (σ.hput k none).new t

def Chg.H : Chg → Nat → (Nat → Option AV) → Nat → Option AV
  | .same, _, H => H
  | .new t, n, H => upd H n (some t)
  | .put k t, _, H => upd (upd H k none) k (some t)
  | .move k t, n, H => upd (upd H k none) n (some t)

def Chg.isNew : Chg → Bool
  | .new _ => true
  | .move _ _ => true
  | _ => false

def Chg.key : Chg → Option Nat
  | .put k _ => some k
  | .move k _ => some k
  | _ => none

def Goes (fr : Fr) (G : Gh) (w : World) (r : Result Next) (v : AV) (H' : Nat → Option AV) (U' : Nat → Prop) : Prop :=
  ∃ u w' G', (r = .ok (.value u) w' ∨ (r = .ok .skip w' ∧ u = undef)) ∧ Nxt fr G w G' w' H' U' ∧ RelV w' G'.F G'.ρ v u

def OpRel (σ : St) (G : Gh) (w : World) (a : Act) (o : Op) : Prop :=
  ∀ x x', x ∈ o.operands → trX x = some x' → RelV w G.F G.ρ (σ.ev x') (a.eval x)

/-- An abstract operation is sound for an operation. -/
def Sound (P : Program) (o : Op) (ao : AOp) : Prop :=
  ∀ (σ σ' : St) (v : AV), stepE ao σ = some (v, σ') → ∃ c : Chg, σ' = c.st σ ∧ (∀ k, c.key = some k → σ.H k ≠ none) ∧
    ∀ (fr : Fr) (oper : Oper) (G : Gh) (w : World) (H : Nat → Option AV) (U : Nat → Prop) (a : Act), oper.op = o → Wf G w H U → FrOk fr G w H → OpRel σ G w a o →
      (∀ k t, σ.H k = some t → H k = some t) → (c.isNew = true → U σ.n) →
      Goes fr G w ((execOp a.eval oper).run P w) v (c.H σ.n H) (fun j => U j ∧ (c.isNew = true → j ≠ σ.n))

/-- An operation that only computes. -/
def SoundP (P : Program) (o : Op) (ao : AOp) : Prop :=
  ∀ (σ σ' : St) (v : AV), stepE ao σ = some (v, σ') → σ' = σ ∧
    ∀ (oper : Oper) (G : Gh) (w : World) (H : Nat → Option AV) (U : Nat → Prop) (a : Act), oper.op = o → Wf G w H U → OpRel σ G w a o → (∀ k t, σ.H k = some t → H k = some t) →
      ∃ u, (execOp a.eval oper).run P w = .ok (.value u) w ∧ RelV w G.F G.ρ v u

theorem SoundP.sound {P : Program} {o : Op} {ao : AOp} (h : SoundP P o ao) : Sound P o ao := by
  intro σ σ' v hs
  obtain ⟨h1, h2⟩ := h σ σ' v hs
  refine ⟨.same, h1, fun k hk => by simp [Chg.key] at hk, fun fr oper G w H U a ho hw hf hx hH _ => ?_⟩
  obtain ⟨u, hr, hv⟩ := h2 oper G w H U a ho hw hx hH
  have h0 := Nxt.same hw hf (SameHeap.refl w)
  refine ⟨u, w, G, .inl hr, ?_, hv⟩
  simpa [Chg.H, Chg.isNew] using h0
end Go.Ra

/- Each abstract operation is sound: the operations that only compute. -/
namespace Go.Ra
set_option linter.unusedVariables false
set_option linter.unusedSimpArgs false
section
variable {P : Program}

theorem run_val {s : Sem Value} {u : Value} {w w' : World} (h : s.run P w = .ok u w') : (do pure (Next.value (← s)) : Sem Next).run P w = .ok (.value u) w' := by
  simp [h]

theorem sp_move {x : Operand} {x' : AX} (hx : trX x = some x') : SoundP P (.move x) (.mv x') := by
  intro σ σ' v hs
  simp only [stepE, Option.some.injEq, Prod.mk.injEq] at hs
  obtain ⟨rfl, rfl⟩ := hs
  refine ⟨rfl, fun oper G w H U a ho hw hr hH => ⟨_, ?_, hr x x' (by simp [Op.operands]) hx⟩⟩
  simp [execOp, ho]
theorem sp_assign {x : Operand} {x' : AX} (hx : trX x = some x') : SoundP P (.assign x) (.mv x') := by
  intro σ σ' v hs
  simp only [stepE, Option.some.injEq, Prod.mk.injEq] at hs
  obtain ⟨rfl, rfl⟩ := hs
  refine ⟨rfl, fun oper G w H U a ho hw hr hH => ⟨_, ?_, hr x x' (by simp [Op.operands]) hx⟩⟩
  simp [execOp, ho]
theorem sp_pick {c x y : Operand} {c' x' y' : AX} (hc : trX c = some c') (hx : trX x = some x') (hy : trX y = some y') : SoundP P (.pick c x y) (.pick c' x' y') := by
  intro σ σ' v hs
  simp only [stepE] at hs
  split at hs
  · rename_i b hb
    simp only [Option.some.injEq, Prod.mk.injEq] at hs
    obtain ⟨rfl, rfl⟩ := hs
    refine ⟨rfl, fun oper G w H U a ho hw hr hH => ?_⟩
    have h1 := hr c c' (by simp [Op.operands]) hc
    rw [hb] at h1
    obtain ⟨h1, _⟩ := h1.sc_inv
    refine ⟨if b then a.eval x else a.eval y, by simp [execOp, ho, h1, asBool], ?_⟩
    cases b
    · exact hr y y' (by simp [Op.operands]) hy
    · exact hr x x' (by simp [Op.operands]) hx
  · cases hs
theorem sp_nilck {x : Operand} {x' : AX} (hx : trX x = some x') : SoundP P (.nilCheck x) (.nilck x') := by
  intro σ σ' v hs
  simp only [stepE] at hs
  split at hs
  all_goals first
    | cases hs; done
    | (rename_i hv
       simp only [Option.some.injEq, Prod.mk.injEq] at hs
       obtain ⟨rfl, rfl⟩ := hs
       refine ⟨rfl, fun oper G w H U a ho hw hr hH => ?_⟩
       have h1 := hr x x' (by simp [Op.operands]) hx
       rw [hv] at h1
       refine ⟨a.eval x, ?_, h1⟩
       first
         | (obtain ⟨b, o, _, h2⟩ := h1.ptr_inv; simp [execOp, ho, h2])
         | (obtain ⟨b, o, cs, h2, _⟩ := h1.fptr_inv; simp [execOp, ho, h2])
         | (obtain ⟨cs, h2, _⟩ := h1.clo_inv; simp [execOp, ho, h2]))
theorem sp_extract {x : Operand} {x' : AX} {i : Nat} (hx : trX x = some x') : SoundP P (.extract x i) (.ext x' i) := by
  intro σ σ' v hs
  simp only [stepE] at hs
  split at hs
  · rename_i vs hv
    split at hs
    · rename_i u hu
      simp only [Option.some.injEq, Prod.mk.injEq] at hs
      obtain ⟨rfl, rfl⟩ := hs
      refine ⟨rfl, fun oper G w H U a ho hw hr hH => ?_⟩
      have h1 := hr x x' (by simp [Op.operands]) hx
      rw [hv] at h1
      obtain ⟨us, h2, h3⟩ := h1.tup_inv
      obtain ⟨z, hz, hrel⟩ := h3.nth hu
      exact ⟨z, by simp [execOp, ho, h2, Instr.extract, hz], hrel⟩
    · cases hs
  · cases hs
theorem sp_conv {x : Operand} {x' : AX} {src dst : TypeId} {j k : IntKind} (h1 : P.underlying src = some (.int j)) (h2 : P.underlying dst = some (.int k)) (hx : trX x = some x') : SoundP P (.convert src dst x) (.conv k x') := by
  intro σ σ' v hs
  simp only [stepE] at hs
  split at hs
  · rename_i k' n hv
    simp only [Option.some.injEq, Prod.mk.injEq] at hs
    obtain ⟨rfl, rfl⟩ := hs
    refine ⟨rfl, fun oper G w H U a ho hw hr hH => ?_⟩
    have h3 := hr x x' (by simp [Op.operands]) hx
    rw [hv] at h3
    obtain ⟨h3, _⟩ := h3.sc_inv
    refine ⟨.int k (k.wrap n), ?_, .one (.sc rfl) rfl⟩
    simp [execOp, ho, h3, convert, run_underlying h1, run_underlying h2, Conv.intToInt]
  · cases hs
theorem RelVs.of_tr {σ : St} {G : Gh} {w : World} {a : Act} : ∀ {xs : List Operand} {xs' : List AX}, trXs xs = some xs' → (∀ x x', x ∈ xs → trX x = some x' → RelV w G.F G.ρ (σ.ev x') (a.eval x)) →
    RelVs w G.F G.ρ (xs'.map σ.ev) (xs.map a.eval)
  | [], xs', h, _ => by
    simp only [trXs, Option.some.injEq] at h
    subst h
    exact .nil
  | x :: xs, xs', h, hr => by
    simp only [trXs] at h
    split at h
    · rename_i b c hb hc
      simp only [Option.some.injEq] at h
      subst h
      exact .cons (hr x b (by simp) hb) (RelVs.of_tr hc fun y y' hy => hr y y' (by simp [hy]))
    · cases h
theorem RelVs.ones {G : Gh} {w : World} : ∀ {ts : List AV} {vs : List Value}, RelVs w G.F G.ρ ts vs → capsOk ts = true → RelO w G.F G.ρ ts vs
  | _, _, .nil, _ => .nil
  | _, _, .cons (v := v) h1 h2, h => by
    simp only [capsOk, Bool.and_eq_true, Bool.not_eq_true'] at h
    have h3 := h1.cells h.1.1
    obtain ⟨u, hu⟩ := h3.single h.1.2
    have h4 : v = u := by
      cases v <;> simp_all [Value.cells]
      case agg cs =>
        cases h1 with
        | one h5 _ => have := h5.ones _ (List.mem_singleton.2 rfl); simp [Value.oneCell'] at this
        | agg h5 h6 => rw [h.1.2] at h6; cases h6
        | unk => simp [AV.storable] at h
    rw [hu] at h3
    rw [h4]
    exact .cons h3 h.1.2 (RelVs.ones h2 h.2)
theorem sp_mkf {f : Nat} {caps : Array Operand} {caps' : List AX} {first : Array Operand} (hf : first.isEmpty = true) (hc : trXs caps.toList = some caps') : SoundP P (.makeFunc (.func f) first caps) (.mkf f caps') := by
  intro σ σ' v hs
  simp only [stepE] at hs
  split at hs
  · rename_i hok
    simp only [Option.some.injEq, Prod.mk.injEq] at hs
    obtain ⟨rfl, rfl⟩ := hs
    refine ⟨rfl, fun oper G w H U a ho hw hr hH => ?_⟩
    have h1 := RelVs.of_tr (σ := σ) (G := G) (w := w) (a := a) hc fun x x' hx hx' => hr x x' (by simp [Op.operands]; exact .inr (by simpa using hx)) hx'
    have h2 := h1.ones hok
    have hfe : first = #[] := by simpa using hf
    subst hfe
    refine ⟨.func (.func f) #[] (caps.map a.eval), by simp [execOp, ho, Instr.makeFunc], .one ?_ rfl⟩
    have := RelC.clo (f := f) h2
    have e : (List.map a.eval caps.toList).toArray = Array.map a.eval caps := by rw [← Array.toList_map, Array.toArray_toList]
    rwa [e] at this
  · cases hs

/-! ### arithmetic -/
theorem run_binV {op : BinOp} {x y u : Value} {t : TypeId} (h : binV op x y = some u) (w : World) (ht : plainT P t = true) (hx : plainV x = true) (hy : plainV y = true) :
    (binOp op t x y).run P w = .ok u w ∧ plainV u = true := by
  unfold binV at h
  split at h
  · rename_i k a k' b
    split at h
    · rename_i hsh
      unfold shI at h
      split at h
      · cases h
      · rename_i hneg
        cases op <;> simp [isShift] at hsh
        all_goals
          simp only [Option.some.injEq] at h
          subst h
          refine ⟨?_, rfl⟩
          simp [binOp, Op.shift, hneg, Nat.min_def]
    · rename_i hsh
      split at h
      · rename_i hkk
        subst hkk
        cases op <;> simp [isShift] at hsh <;> simp only [intBin] at h
        case quo =>
          split at h
          · cases h
          · rename_i hb
            simp only [Option.some.injEq] at h
            subst h
            exact ⟨by simp [binOp, Op.intDiv, hb], rfl⟩
        case rem =>
          split at h
          · cases h
          · rename_i hb
            simp only [Option.some.injEq] at h
            subst h
            exact ⟨by simp [binOp, Op.intDiv, hb], rfl⟩
        case eql =>
          simp only [Option.some.injEq] at h
          subst h
          refine ⟨?_, rfl⟩
          have e : (a == b) = decide (a = b) := by by_cases hab : a = b <;> simp [hab]
          simp [binOp, Op.intCmp, e]
        case neq =>
          simp only [Option.some.injEq] at h
          subst h
          refine ⟨?_, rfl⟩
          have e : (a != b) = decide (¬ a = b) := by by_cases hab : a = b <;> simp [hab]
          simp only [binOp, ne_eq, not_true_eq_false, if_false, Op.intCmp, e]
          rfl
        all_goals
          simp only [Option.some.injEq] at h
          subst h
          refine ⟨?_, rfl⟩
          simp [binOp, Op.intArith, Op.intBits, Op.intCmp, bitsI]
      · cases h
  · rename_i a b
    have e : (a.toList == b.toList) = decide (a.toList = b.toList) := by by_cases hab : a.toList = b.toList <;> simp [hab]
    split at h
    · simp only [Option.some.injEq] at h
      subst h
      exact ⟨by simp only [binOp, Op.stringOp, e]; rfl, rfl⟩
    · simp only [Option.some.injEq] at h
      subst h
      exact ⟨by simp only [binOp, Op.stringOp, e]; rfl, rfl⟩
    · split at h
      · rename_i hsz
        simp only [Option.some.injEq] at h
        subst h
        refine ⟨?_, rfl⟩
        have h2 : ¬ ((a.size + b.size : Nat) : Int) > IntKind.i64.max := by
          have : IntKind.i64.max = 9223372036854775807 := by decide
          rw [this]; omega
        have h3 : Op.stringOp .add a b = pure (.string (a ++ b)) := by unfold Op.stringOp; exact if_neg h2
        show (Op.stringOp .add a b).run P w = _
        rw [h3]; rfl
      · cases h
    · cases h
  · cases h
theorem binOp_nopair {op : BinOp} {x y : Operand} {t : TypeId} {u v : Value} (w : World) (hu : plainV u = true) (hv : plainV v = true) : (eqGuard op t x y u v).run P w = .ok () w := by
  unfold eqGuard
  cases op <;> simp <;> (cases u <;> cases v <;> first | rfl | simp [plainV] at hu hv)

theorem sp_bin {op : BinOp} {t yt : TypeId} {x y : Operand} {x' y' : AX} (ht : plainT P t = true) (hx : trX x = some x') (hy : trX y = some y') : SoundP P (.binOp op t x y yt) (.bin op x' y') := by
  intro σ σ' v hs
  simp only [stepE] at hs
  split at hs
  · rename_i b c hb hc
    split at hs
    · rename_i u hu
      simp only [Option.some.injEq, Prod.mk.injEq] at hs
      obtain ⟨rfl, rfl⟩ := hs
      refine ⟨rfl, fun oper G w H U a ho hw hr hH => ?_⟩
      have h1 := hr x x' (by simp [Op.operands]) hx
      have h2 := hr y y' (by simp [Op.operands]) hy
      rw [hb] at h1
      rw [hc] at h2
      obtain ⟨h1, p1⟩ := h1.sc_inv
      obtain ⟨h2, p2⟩ := h2.sc_inv
      obtain ⟨h3, h4⟩ := run_binV hu w ht p1 p2
      refine ⟨u, ?_, .one (.sc h4) rfl⟩
      have h5 := binOp_nopair (P := P) (op := op) (x := x) (y := y) (t := t) w p1 p2
      simp [execOp, ho, h1, h2, h5, h3]
    · cases hs
  · cases hs

theorem sp_un {op : UnOp} {t : TypeId} {x : Operand} {x' : AX} (hx : trX x = some x') : SoundP P (.unOp op t x) (.un op x') := by
  intro σ σ' v hs
  simp only [stepE] at hs
  split at hs
  · rename_i u
    split at hs
    · rename_i u2 hu
      simp only [Option.some.injEq, Prod.mk.injEq] at hs
      obtain ⟨rfl, rfl⟩ := hs
      refine ⟨rfl, fun oper G w H U a ho hw hr hH => ?_⟩
      have h1 := hr x x' (by simp [Op.operands]) hx
      unfold notV at hu
      split at hu
      · rename_i b hb
        simp only [Option.some.injEq] at hu
        subst hu
        rw [hb] at h1
        obtain ⟨h1, _⟩ := h1.sc_inv
        exact ⟨.bool (!b), by simp [execOp, ho, h1, Op.unary], .one (.sc rfl) rfl⟩
      · rename_i hb
        simp only [Option.some.injEq] at hu
        subst hu
        rw [hb] at h1
        obtain ⟨b, h1⟩ := h1.anyb_inv
        exact ⟨.bool (!b), by simp [execOp, ho, h1, Op.unary], .anyb⟩
      · cases hu
    · cases hs
  · rename_i k n hv
    simp only [Option.some.injEq, Prod.mk.injEq] at hs
    obtain ⟨rfl, rfl⟩ := hs
    refine ⟨rfl, fun oper G w H U a ho hw hr hH => ?_⟩
    have h1 := hr x x' (by simp [Op.operands]) hx
    rw [hv] at h1
    obtain ⟨h1, _⟩ := h1.sc_inv
    exact ⟨.int k (k.wrap (0 - n)), by simp [execOp, ho, h1, Op.unary, Op.intArith], .one (.sc rfl) rfl⟩
  · rename_i k n hv
    simp only [Option.some.injEq, Prod.mk.injEq] at hs
    obtain ⟨rfl, rfl⟩ := hs
    refine ⟨rfl, fun oper G w H U a ho hw hr hH => ?_⟩
    have h1 := hr x x' (by simp [Op.operands]) hx
    rw [hv] at h1
    obtain ⟨h1, _⟩ := h1.sc_inv
    exact ⟨_, by simp [execOp, ho, h1, Op.unary, Op.intBits]; rfl, .one (.sc rfl) rfl⟩
  · cases hs

theorem eqn_run {t e : TypeId} {u : Value} (w : World) (ht : P.underlying t = some (.slice e)) {a : Option Addr} {n c : Nat} (hu : u = .slice a n c) :
    (Op.equal t u (.slice none 0 0)).run P w = .ok a.isNone w := by
  subst hu
  unfold Op.equal
  obtain ⟨d, hd⟩ : ∃ d, Op.maxDepth = d + 1 := ⟨9999, rfl⟩
  rw [hd]
  cases a <;> simp [Op.equalIn, run_underlying ht]

theorem sp_eqn {op : BinOp} {neg : Bool} {t e yt : TypeId} {x y : Operand} {x' y' : AX} (hop : op = if neg then .neq else .eql) (ht : P.underlying t = some (.slice e)) (hx : trX x = some x') (hy : trX y = some y') (hn : isNilX y' = true) :
    SoundP P (.binOp op t x y yt) (.eqn neg x') := by
  intro σ σ' v hs
  simp only [stepE] at hs
  split at hs
  · rename_i u hu
    simp only [Option.some.injEq, Prod.mk.injEq] at hs
    obtain ⟨rfl, rfl⟩ := hs
    refine ⟨rfl, fun oper G w H U a ho hw hr hH => ?_⟩
    have h1 := hr x x' (by simp [Op.operands]) hx
    have hyv : a.eval y = .slice none 0 0 := by
      cases y with
      | const v =>
        simp only [trX] at hy
        cases v with
        | slice ad n c =>
          cases ad with
          | none =>
            cases n <;> cases c <;> simp [trV] at hy
            rfl
          | some ad => simp [trV] at hy
        | pointer ad => cases ad <;> simp [trV] at hy; subst hy; simp [isNilX] at hn
        | _ => simp [trV] at hy <;> (try (subst hy; simp [isNilX] at hn))
      | tmp i => simp only [trX, Option.some.injEq] at hy; subst hy; simp [isNilX] at hn
      | func f => simp only [trX, Option.some.injEq] at hy; subst hy; simp [isNilX] at hn
      | global g => simp [trX] at hy
    have key : ∀ ad n c, a.eval x = .slice ad n c → (execOp a.eval oper).run P w = .ok (.value (.bool (if neg then !ad.isNone else ad.isNone))) w := fun ad n c hv => by
      have h2 := eqn_run (P := P) w ht (rfl : (Value.slice ad n c) = _)
      have h3 : (eqGuard op t x y (.slice ad n c) (.slice none 0 0)).run P w = .ok () w := by
        unfold eqGuard; subst hop; cases neg <;> rfl
      subst hop
      cases neg <;> simp only [if_true, if_false, Bool.false_eq_true] at h3 ho <;> simp [execOp, ho, hv, hyv, h3, binOp, h2]
    unfold eqnV at hu
    split at hu
    · rename_i ts hb
      rw [hb] at h1
      obtain ⟨ad, cap, h2, h3, h4, h5⟩ := h1.fro_inv
      refine ⟨_, key ad _ cap h2, ?_⟩
      simp only [Option.some.injEq] at hu
      subst hu
      cases ts with
      | nil => exact .anyb
      | cons t0 tl =>
        rcases h5 with h5 | ⟨b, o, cs, rfl, _⟩
        · cases h5
        · simp only [List.isEmpty_cons, Bool.false_eq_true, if_false, Option.isNone_some, Bool.not_false]
          cases neg <;> exact .one (.sc rfl) rfl
    · rename_i len es hb
      rw [hb] at h1
      obtain ⟨ad, cap, h2, h3, h5⟩ := h1.sl_inv
      refine ⟨_, key ad _ cap h2, ?_⟩
      simp only [Option.some.injEq] at hu
      subst hu
      rcases h5 with ⟨h5, _⟩ | ⟨b, o, cur, e, rfl, _⟩
      · rw [if_pos h5]; exact .anyb
      · split
        · exact .anyb
        · simp only [Option.isNone_some, Bool.not_false]
          cases neg <;> exact .one (.sc rfl) rfl
    · cases hu
  · cases hs

/-! ### equality of structs and arrays -/
/-- The part of a row of cells that a value stands for. -/
theorem run_part {t : TypeId} {a : Bool} {n : Nat} (ha : isAggT P t = some a) (hn : szT P t = some n) {pre mid post : List Value} (hm : mid.length = n) (h1 : a = false → ∃ v, mid = [v]) (w : World) :
    (part t (pre ++ (mid ++ post)).toArray pre.length).run P w = .ok (if a then .agg mid.toArray else mid.headD undef) w := by
  unfold isAggT at ha
  unfold szT at hn
  cases hi : P.info? t with
  | none => rw [hi] at hn; simp at hn
  | some i =>
    rw [hi] at hn
    simp only [Option.map_some, Option.some.injEq] at hn
    split at ha
    · rename_i fs hu
      simp only [Option.some.injEq] at ha
      subst ha
      simp [part, isAgg, run_underlying hu, sizeOf, typeInfo, hi]
      rw [hn, ← hm]; simp
    · rename_i m e hu
      simp only [Option.some.injEq] at ha
      subst ha
      simp [part, isAgg, run_underlying hu, sizeOf, typeInfo, hi]
      rw [hn, ← hm]; simp
    · rename_i dd hs1 hs2 hu
      simp only [Option.some.injEq] at ha
      subst ha
      obtain ⟨v, rfl⟩ := h1 rfl
      cases dd <;> simp [part, isAgg, run_underlying hu] at hs1 hs2 ⊢
    · cases ha

def TS.isAgg : TS → Bool
  | .agg _ => true
  | .arr .. => true
  | _ => false

theorem shapeT_agg {k : Nat} {t : TypeId} {ts : TS} (h : shapeT P k t = some ts) : isAggT P t = some ts.isAgg := by
  cases k with
  | zero => simp [shapeT] at h
  | succ k =>
    unfold shapeT at h
    unfold isAggT
    cases hu : P.underlying t with
    | none => rw [hu] at h; cases h
    | some dd =>
      rw [hu] at h
      cases dd <;> simp only [Option.some.injEq] at h ⊢ <;> first
        | (subst h; rfl)
        | (split at h
           · cases h
           · split at h
             · simp only [Option.some.injEq] at h; subst h; rfl
             · cases h)
        | (split at h
           · simp only [Option.some.injEq] at h; subst h; rfl
           · cases h)
        | cases h

/-- The value of cells of a shape. -/
def valT (ts : TS) (cs : List Value) : Value :=
  match ts with
  | .agg _ => .agg cs.toArray
  | .arr .. => .agg cs.toArray
  | _ => cs.headD undef

section eq
variable {w : World} {F : Nat → Prop}

theorem eqT_agg {ts : TS} {x y : AV} {b : Bool} (h : eqT ts x y = some b) : x.isAgg = ts.isAgg ∧ y.isAgg = x.isAgg := by
  unfold eqT at h
  split at h <;> first | exact ⟨rfl, rfl⟩ | cases h

theorem valT_part {ts : TS} {x y : AV} {b : Bool} {cs : List Value} {ρ : Nat → Option Loc} (h : eqT ts x y = some b) (hx : RelC w F ρ x cs) :
    ts.isAgg = false → ∃ v, cs = [v] := fun h0 => hx.single ((eqT_agg h).1.trans h0)

theorem valT_eq (ts : TS) (cs : List Value) : (if ts.isAgg = true then Value.agg cs.toArray else cs.headD undef) = valT ts cs := by
  cases ts <;> rfl

theorem eqT_sym {ts : TS} {x y : AV} {b : Bool} {cs : List Value} {ρ : Nat → Option Loc} (h : eqT ts x y = some b) (hy : RelC w F ρ y cs) :
    ts.isAgg = false → ∃ v, cs = [v] := fun h0 => hy.single ((eqT_agg h).2.trans ((eqT_agg h).1.trans h0))

def EqRun (P : Program) (w : World) (F : Nat → Prop) (k d : Nat) : Prop :=
  ∀ (t : TypeId) (ts : TS), shapeT P k t = some ts → ∀ (ρ ρ' : Nat → Option Loc) (x y : AV) (b : Bool) (cs ds : List Value), eqT ts x y = some b → RelC w F ρ x cs → RelC w F ρ' y ds →
    (Op.equalIn d t (valT ts cs) (valT ts ds)).run P w = .ok b w

theorem forFields {d : Nat} : ∀ (k : Nat) (o : Nat) (fs : List Field) (l : List (Nat × TS)) (pre pre' : List Value) (ts us : List AV) (b : Bool) (cs ds : List Value) (ρ ρ' : Nat → Option Loc), (∀ j, j < k → EqRun P w F j d) →
    shapeFs P k o fs = some l → eqTs l ts us = some b → RelL w F ρ ts cs → RelL w F ρ' us ds → pre.length = o → pre'.length = o →
    (forIn fs ((none, ()) : Option Bool × Unit) fun (f : Field) _ =>
      if f.name = "_" then pure (ForInStep.yield ((none, ()) : Option Bool × Unit))
      else do
        let a ← part f.type (pre ++ cs).toArray f.offset
        let c ← part f.type (pre' ++ ds).toArray f.offset
        let r ← Op.equalIn d f.type a c
        if r = false then pure (ForInStep.done ((some false, ()) : Option Bool × Unit)) else pure (ForInStep.yield ((none, ()) : Option Bool × Unit))).run P w =
      .ok (if b then (none, ()) else (some false, ())) w := by
  intro k
  induction k with
  | zero =>
    intro o fs l pre pre' ts us b cs ds ρ ρ' hE hs he h1 h2 hp hp'
    cases fs with
    | nil =>
      simp only [shapeFs, Option.some.injEq] at hs
      subst hs
      cases ts <;> cases us <;> simp [eqTs] at he
      subst he
      simp
    | cons f fs => simp [shapeFs] at hs
  | succ k ih =>
    intro o fs l pre pre' ts us b cs ds ρ ρ' hE hs he h1 h2 hp hp'
    cases fs with
    | nil =>
      simp only [shapeFs, Option.some.injEq] at hs
      subst hs
      cases ts <;> cases us <;> simp [eqTs] at he
      subst he
      simp
    | cons f fs =>
      simp only [shapeFs] at hs
      split at hs
      · cases hs
      · rename_i hno
        split at hs
        · rename_i s n hsh hsz
          split at hs
          · rename_i l' hl'
            simp only [Option.some.injEq] at hs
            subst hs
            cases ts with
            | nil => cases us <;> simp [eqTs] at he
            | cons t ts =>
              cases us with
              | nil => simp [eqTs] at he
              | cons u us =>
                simp only [eqTs] at he
                split at he
                · rename_i hsize
                  split at he
                  · rename_i b1 b2 hb1 hb2
                    simp only [Option.some.injEq] at he
                    subst he
                    cases h1 with
                    | cons h1a h1b =>
                      cases h2 with
                      | cons h2a h2b =>
                        rename_i c cs' e ds'
                        have hname : ¬ f.name = "_" := fun h => hno (.inl h)
                        have hoff : f.offset = o := by
                          by_cases h : f.offset = o
                          · exact h
                          · exact absurd (.inr h) hno
                        have hc : c.length = n := by rw [h1a.size]; exact hsize.1
                        have hd : e.length = n := by rw [h2a.size]; exact hsize.2
                        have r1 := run_part (P := P) (shapeT_agg hsh) hsz (pre := pre) (post := cs') hc (valT_part hb1 h1a) w
                        have r2 := run_part (P := P) (shapeT_agg hsh) hsz (pre := pre') (post := ds') hd (eqT_sym hb1 h2a) w
                        rw [valT_eq] at r1 r2
                        rw [hp, ← hoff] at r1
                        rw [hp', ← hoff] at r2
                        have r3 := hE k (by omega) f.type s hsh ρ ρ' t u b1 c e hb1 h1a h2a
                        have r4 := ih (o + n) fs l' (pre ++ c) (pre' ++ e) ts us b2 cs' ds' ρ ρ' (fun j hj => hE j (by omega)) hl' hb2 h1b h2b (by simp [hp, hc]) (by simp [hp', hd])
                        simp only [List.append_assoc] at r4
                        cases b1 with
                        | false => simp [hname, r1, r2, r3]
                        | true => simp [hname, r1, r2, r3]; simpa using r4
                  · cases he
                · cases he
          · cases hs
        · cases hs

theorem forElems {d n es : Nat} {e : TypeId} {s : TS} {k : Nat} (hE : EqRun P w F k d) (hsh : shapeT P k e = some s) (hsz : szT P e = some es) :
    ∀ (m i : Nat) (pre pre' : List Value) (ts us : List AV) (b : Bool) (cs ds : List Value), eqTe s ts us = some b → ts.length = m → RelE w F es ts cs → RelE w F es us ds → pre.length = i * es → pre'.length = i * es →
    (forIn (List.range' i m) ((none, ()) : Option Bool × Unit) fun j _ => do
        let a ← part e (pre ++ cs).toArray (j * es)
        let c ← part e (pre' ++ ds).toArray (j * es)
        let r ← Op.equalIn d e a c
        if r = false then pure (ForInStep.done ((some false, ()) : Option Bool × Unit)) else pure (ForInStep.yield ((none, ()) : Option Bool × Unit))).run P w =
      .ok (if b then (none, ()) else (some false, ())) w := by
  intro m
  induction m with
  | zero =>
    intro i pre pre' ts us b cs ds he hl h1 h2 hp hp'
    have : ts = [] := List.eq_nil_of_length_eq_zero hl
    subst this
    cases us <;> simp [eqTe] at he
    subst he
    simp
  | succ m ih =>
    intro i pre pre' ts us b cs ds he hl h1 h2 hp hp'
    cases ts with
    | nil => simp at hl
    | cons t ts =>
      cases us with
      | nil => simp [eqTe] at he
      | cons u us =>
        simp only [eqTe] at he
        split at he
        · rename_i b1 b2 hb1 hb2
          simp only [Option.some.injEq] at he
          subst he
          cases h1 with
          | cons h1a h1s h1b =>
            cases h2 with
            | cons h2a h2s h2b =>
              rename_i c cs' g ds'
              have r1 := run_part (P := P) (shapeT_agg hsh) hsz (pre := pre) (post := cs') h1s (valT_part hb1 h1a) w
              have r2 := run_part (P := P) (shapeT_agg hsh) hsz (pre := pre') (post := ds') h2s (eqT_sym hb1 h2a) w
              rw [valT_eq] at r1 r2
              rw [hp] at r1
              rw [hp'] at r2
              have r3 := hE e s hsh noIds noIds t u b1 c g hb1 h1a h2a
              have r4 := ih (i + 1) (pre ++ c) (pre' ++ g) ts us b2 cs' ds' hb2 (by simpa using hl) h1b h2b (by simp [hp, h1s, Nat.add_mul]) (by simp [hp', h2s, Nat.add_mul])
              simp only [List.append_assoc] at r4
              rw [List.range'_succ]
              cases b1 with
              | false => simp [r1, r2, r3]
              | true => simp [r1, r2, r3]; simpa using r4
        · cases he

theorem eq_run : ∀ (k d : Nat), k ≤ d → EqRun P w F k d := by
  intro k
  induction k using Nat.strongRecOn with
  | _ k ih =>
    intro d hd t ts hsh ρ ρ' x y b cs ds he hx hy
    cases k with
    | zero => simp [shapeT] at hsh
    | succ k =>
      obtain ⟨d, rfl⟩ : ∃ m, d = m + 1 := ⟨d - 1, by omega⟩
      unfold shapeT at hsh
      split at hsh
      · rename_i j hu
        simp only [Option.some.injEq] at hsh
        subst hsh
        unfold eqT at he
        split at he <;> try (simp_all; done)
        rename_i k1 a1 k2 a2 heq
        split at he
        · rename_i hk
          simp only [Option.some.injEq] at he
          subst he
          cases hx
          cases hy
          have e : (a1 == a2) = decide (a1 = a2) := by by_cases h : a1 = a2 <;> simp [h]
          simp [valT, Op.equalIn, run_underlying hu, hk, e]
        · cases he
      · rename_i hu
        simp only [Option.some.injEq] at hsh
        subst hsh
        unfold eqT at he
        split at he <;> try (simp_all; done)
        simp only [Option.some.injEq] at he
        subst he
        cases hx
        cases hy
        simp [valT, Op.equalIn, run_underlying hu]
      · rename_i fs hu
        split at hsh
        · cases hsh
        · rename_i hst
          split at hsh
          · rename_i l hl
            simp only [Option.some.injEq] at hsh
            subst hsh
            unfold eqT at he
            split at he <;> try (simp_all; done)
            rename_i l' n1 ts1 n2 us1 heq
            simp only [TS.agg.injEq] at heq
            subst heq
            cases hx with
            | agg hx1 hx2 =>
              cases hy with
              | agg hy1 hy2 =>
                have := forFields (P := P) (w := w) (F := F) (d := d) k 0 fs.toList l [] [] ts1 us1 b cs ds ρ ρ' (fun j hj => ih j (by omega) d (by omega)) hl he hx1 hy1 rfl rfl
                simp only [List.nil_append] at this
                rw [Array.forIn_toList] at this
                have hst' : P.stoodInHeld t = false := by simpa using hst
                simp only [valT, Op.equalIn, Sem.run_bind, run_underlying hu]
                simp [hst']
                rw [this]
                cases b <;> simp
          · cases hsh
      · rename_i n e hu
        split at hsh
        · rename_i s es hs hsz
          simp only [Option.some.injEq] at hsh
          subst hsh
          unfold eqT at he
          split at he <;> try (simp_all; done)
          rename_i n1 es1 s1 n2 es2 ts1 n3 es3 us1 heq
          simp only [TS.arr.injEq] at heq
          obtain ⟨rfl, rfl, rfl⟩ := heq
          split at he
          · rename_i hc
            obtain ⟨rfl, rfl, hc1, hc2⟩ := hc
            cases hx with
            | arr hx1 hx2 =>
              cases hy with
              | arr hy1 hy2 =>
                have := forElems (P := P) (w := w) (F := F) (d := d) (n := n) (ih k (by omega) d (by omega)) hs hsz n 0 [] [] ts1 us1 b cs ds he hc1 hx1 hy1 (by simp) (by simp)
                simp only [List.nil_append] at this
                unfold szT at hsz
                cases hi : P.info? e with
                | none => rw [hi] at hsz; simp at hsz
                | some i =>
                  rw [hi] at hsz
                  simp only [Option.map_some, Option.some.injEq] at hsz
                  simp only [valT, Op.equalIn, Sem.run_bind, run_underlying hu]
                  simp [sizeOf, typeInfo, hi, hsz]
                  rw [this]
                  cases b <;> simp
          · cases he
        · cases hsh
      · cases hsh
end eq
end
end Go.Ra

/- Each abstract operation is sound: addresses, slices, loads. -/
namespace Go.Ra
set_option linter.unusedVariables false
set_option linter.unusedSimpArgs false
section
variable {P : Program}

theorem RelV.valT {w : World} {F : Nat → Prop} {ρ : Nat → Option Loc} {ts : TS} {x y : AV} {b : Bool} {u : Value} (h : eqT ts x y = some b) (hx : RelV w F ρ x u) : ∃ cs, RelC w F ρ x cs ∧ u = valT ts cs := by
  have ha := (eqT_agg h).1
  cases hx with
  | one h1 h2 =>
    refine ⟨[u], h1, ?_⟩
    rw [h2] at ha
    cases ts <;> first | rfl | simp [TS.isAgg] at ha
  | agg h1 h2 =>
    rename_i cs
    refine ⟨cs, h1, ?_⟩
    rw [h2] at ha
    cases ts <;> first | rfl | simp [TS.isAgg] at ha
  | tup _ => unfold eqT at h; split at h <;> simp_all
  | anyb => unfold eqT at h; split at h <;> simp_all
  | unk => unfold eqT at h; split at h <;> simp_all
theorem RelV.valT' {w : World} {F : Nat → Prop} {ρ : Nat → Option Loc} {ts : TS} {x y : AV} {b : Bool} {u : Value} (h : eqT ts x y = some b) (hy : RelV w F ρ y u) : ∃ cs, RelC w F ρ y cs ∧ u = Ra.valT ts cs := by
  have ha := (eqT_agg h).2.trans (eqT_agg h).1
  cases hy with
  | one h1 h2 =>
    refine ⟨[u], h1, ?_⟩
    rw [h2] at ha
    cases ts <;> first | rfl | simp [TS.isAgg] at ha
  | agg h1 h2 =>
    rename_i cs
    refine ⟨cs, h1, ?_⟩
    rw [h2] at ha
    cases ts <;> first | rfl | simp [TS.isAgg] at ha
  | tup _ => unfold eqT at h; split at h <;> simp_all
  | anyb => unfold eqT at h; split at h <;> simp_all
  | unk => unfold eqT at h; split at h <;> simp_all

theorem shapeT_int {k : Nat} {t : TypeId} (h : shapeT P k t = some .int) : plainT P t = true := by
  cases k with
  | zero => simp [shapeT] at h
  | succ k =>
    unfold shapeT at h
    unfold plainT
    cases hu : P.underlying t with
    | none => rw [hu] at h; cases h
    | some dd =>
      rw [hu] at h
      cases dd <;> simp only at h ⊢ <;> first
        | cases h; done
        | (split at h
           · cases h
           · split at h
             · cases h
             · cases h)
        | (split at h
           · cases h
           · cases h)

theorem sp_eqs {op : BinOp} {neg : Bool} {t yt : TypeId} {ts : TS} {x y : Operand} {x' y' : AX} (hop : op = if neg then .neq else .eql) (hpl : plainT P t = false) (hg : P.eqGuardType P.depth t = false) (ht : shapeT P 60 t = some ts)
    (hx : trX x = some x') (hy : trX y = some y') : SoundP P (.binOp op t x y yt) (.eqs neg ts x' y') := by
  intro σ σ' v hs
  simp only [stepE] at hs
  split at hs
  · rename_i b hb
    simp only [Option.some.injEq, Prod.mk.injEq] at hs
    obtain ⟨rfl, rfl⟩ := hs
    refine ⟨rfl, fun oper G w H U a ho hw hr hH => ?_⟩
    obtain ⟨cs, h1, h1'⟩ := (hr x x' (by simp [Op.operands]) hx).valT hb
    obtain ⟨ds, h2, h2'⟩ := (hr y y' (by simp [Op.operands]) hy).valT' hb
    have h3 : (Op.equal t (valT ts cs) (valT ts ds)).run P w = .ok b w := by
      unfold Op.equal
      exact eq_run 60 Op.maxDepth (by decide) t ts ht G.ρ G.ρ _ _ b cs ds hb h1 h2
    have h4 : (eqGuard op t x y (valT ts cs) (valT ts ds)).run P w = .ok () w := by
      unfold eqGuard
      subst hop
      have hagg : ∀ n m, (eqGuard (if neg then .neq else .eql) t x y (.agg n) (.agg m)).run P w = .ok () w := fun n m => by
        unfold eqGuard
        cases neg <;> simp [program, Sem.run, hg]
      cases ts with
      | agg l => exact hagg _ _
      | arr n es e => exact hagg _ _
      | int =>
        generalize σ.ev x' = X at hb h1
        generalize σ.ev y' = Y at hb h2
        unfold eqT at hb
        split at hb <;> try (simp_all; done)
        cases h1; cases h2; cases neg <;> rfl
      | bool =>
        generalize σ.ev x' = X at hb h1
        generalize σ.ev y' = Y at hb h2
        unfold eqT at hb
        split at hb <;> try (simp_all; done)
        cases h1; cases h2; cases neg <;> rfl
    have h5 : (binOp op t (valT ts cs) (valT ts ds)).run P w = .ok (.bool (if neg then !b else b)) w := by
      subst hop
      cases ts with
      | agg l => cases neg <;> simp [binOp, valT] <;> (simp only [valT] at h3; simp [h3])
      | arr n es e => cases neg <;> simp [binOp, valT] <;> (simp only [valT] at h3; simp [h3])
      | int =>
        rw [shapeT_int ht] at hpl; cases hpl
      | bool =>
        generalize σ.ev x' = X at hb h1
        generalize σ.ev y' = Y at hb h2
        unfold eqT at hb
        split at hb <;> try (simp_all; done)
        cases h1; cases h2
        cases neg <;> simp [binOp, valT] <;> (simp only [valT, List.headD] at h3; simp [h3])
    refine ⟨.bool (if neg then !b else b), ?_, .one (.sc rfl) rfl⟩
    simp [execOp, ho, h1', h2', h4, h5]
  · cases hs

theorem add_lit (b o n : Nat) : Addr.add ⟨b, o, none⟩ n = ⟨b, o + n, none⟩ := by
  unfold Addr.add; split <;> simp_all

theorem szT_info {t : TypeId} {n : Nat} (h : szT P t = some n) : ∃ i, P.info? t = some i ∧ i.size = n := by
  unfold szT at h
  cases hi : P.info? t with
  | none => rw [hi] at h; cases h
  | some i => rw [hi] at h; simp only [Option.map_some, Option.some.injEq] at h; exact ⟨i, rfl, h⟩

theorem sp_fadr {s : TypeId} {fs : Array Field} {f : Field} {i n : Nat} {x : Operand} {x' : AX} (hs0 : P.underlying s = some (.struct fs)) (hf : fs[i]? = some f) (hn : szT P f.type = some n) (hn0 : n ≠ 0) (hx : trX x = some x') :
    SoundP P (.fieldAddr s x i) (.fadr i f.offset n x') := by
  intro σ σ' v hs
  obtain ⟨inf, hi, hi2⟩ := szT_info hn
  have key : ∀ (b o : Nat) (w : World), (Instr.fieldAt s (.pointer (some ⟨b, o, none⟩)) i).run P w = .ok (.pointer (some ⟨b, o + f.offset, none⟩)) w := fun b o w => by
    have : inf.size ≠ 0 := by omega
    simp [Instr.fieldAt, run_underlying hs0, hf, Instr.sureAddr, fieldPlace, sizeOf, typeInfo, hi, this, add_lit]
  simp only [stepE] at hs
  split at hs
  · rename_i id path o hv
    simp only [Option.some.injEq, Prod.mk.injEq] at hs
    obtain ⟨rfl, rfl⟩ := hs
    refine ⟨rfl, fun oper G w H U a ho hw hr hH => ?_⟩
    have h1 := hr x x' (by simp [Op.operands]) hx
    rw [hv] at h1
    obtain ⟨b, o', h2, h3⟩ := h1.ptr_inv
    refine ⟨_, by simp only [execOp, ho, h3]; exact run_val (key _ _ _), ?_⟩
    rw [Nat.add_assoc]
    exact .one (.ptr h2) rfl
  · rename_i n1 ts hv
    split at hs
    · rename_i u hu
      split at hs
      · rename_i hoff
        simp only [Option.some.injEq, Prod.mk.injEq] at hs
        obtain ⟨rfl, rfl⟩ := hs
        refine ⟨rfl, fun oper G w H U a ho hw hr hH => ?_⟩
        have h1 := hr x x' (by simp [Op.operands]) hx
        rw [hv] at h1
        obtain ⟨b, o, cs, h2, h3, h4, h5⟩ := h1.fptr_inv
        refine ⟨_, by simp only [execOp, ho, h2]; exact run_val (key _ _ _), ?_⟩
        cases h3 with
        | agg h6 h7 =>
          obtain ⟨pre, mid, post, rfl, hp, hm, _, _⟩ := h6.nth hu
          refine .one (.fptr hm (fun j v hj => ?_) h5) rfl
          have := h4 (pre.length + j) v (by
            rw [List.getElem?_append_right (by omega), show pre.length + j - pre.length = j by omega, List.getElem?_append_left (List.getElem?_eq_some_iff.1 hj).1]; exact hj)
          rw [← hoff, ← hp, Nat.add_assoc]; exact this
      · cases hs
    · cases hs
  · cases hs

theorem elemT_inv {t e : TypeId} {i : TypeInfo} (h : elemT P t = some (e, i)) : P.underlying t = some (.slice e) ∧ P.info? e = some i := by
  unfold elemT at h
  split at h
  · rename_i e' hu
    cases hi : P.info? e' with
    | none => rw [hi] at h; cases h
    | some j =>
      rw [hi] at h
      simp only [Option.map_some, Option.some.injEq, Prod.mk.injEq] at h
      obtain ⟨rfl, rfl⟩ := h
      exact ⟨hu, hi⟩
  · cases h
theorem arrT_inv {t : TypeId} {n : Nat} {i : TypeInfo} (h : arrT P t = some (n, i)) : ∃ e, P.underlying t = some (.array n e) ∧ P.info? e = some i := by
  unfold arrT at h
  split at h
  · rename_i n' e' hu
    cases hi : P.info? e' with
    | none => rw [hi] at h; cases h
    | some j =>
      rw [hi] at h
      simp only [Option.map_some, Option.some.injEq, Prod.mk.injEq] at h
      obtain ⟨rfl, rfl⟩ := h
      exact ⟨e', hu, hi⟩
  · cases h

theorem asI_inv {w : World} {F : Nat → Prop} {ρ : Nat → Option Loc} {t : AV} {u : Value} {j : Int} (h : asI t = some j) (hr : RelV w F ρ t u) : ∃ k, u = .int k j := by
  unfold asI at h
  split at h
  · simp only [Option.some.injEq] at h
    subst h
    exact ⟨_, hr.sc_inv.1⟩
  · cases h

theorem Reads.sub {w : World} {b o : Nat} {pre mid post : List Value} (h : Reads w b o (pre ++ (mid ++ post))) : Reads w b (o + pre.length) mid := by
  intro j v hj
  have := h (pre.length + j) v (by
    rw [List.getElem?_append_right (by omega), show pre.length + j - pre.length = j by omega, List.getElem?_append_left (List.getElem?_eq_some_iff.1 hj).1]; exact hj)
  rw [Nat.add_assoc]; exact this

theorem sp_iadr_slice {t e : TypeId} {i : TypeInfo} {x y : Operand} {x' y' : AX} (ht : elemT P t = some (e, i)) (hx : trX x = some x') (hy : trX y = some y') : SoundP P (.indexAddr t x y) (.iadr none i.size x' y') := by
  intro σ σ' v hs
  obtain ⟨hu, hi⟩ := elemT_inv ht
  have key : ∀ (ad : Addr) (n c : Nat) (k : IntKind) (j : Int) (w : World), 0 ≤ j → j < n → (Instr.indexAt t (.slice (some ad) n c) (.int k j)).run P w = .ok (.pointer (some (ad.add (j.toNat * i.size)))) w := fun ad n c k j w h0 h1 => by
    simp [Instr.indexAt, asIntOf, run_underlying hu, h0, h1, sizeOf, typeInfo, hi]
  simp only [stepE] at hs
  split at hs
  · rename_i x0 es ts j heq1 hv hj
    split at hs
    · rename_i hc
      split at hs
      · rename_i u hu2
        simp only [Option.some.injEq, Prod.mk.injEq] at hs
        obtain ⟨rfl, rfl⟩ := hs
        refine ⟨rfl, fun oper G w H U a ho hw hr hH => ?_⟩
        have h1 := hr x x' (by simp [Op.operands]) hx
        obtain ⟨k, h2⟩ := asI_inv hj (hr y y' (by simp [Op.operands]) hy)
        rw [hv] at h1
        obtain ⟨ad, cap, h3, h4, h5, h6⟩ := h1.fro_inv
        have hlt : j.toNat < ts.length := (List.getElem?_eq_some_iff.1 hu2).1
        rcases h6 with rfl | ⟨b, o, cs, rfl, h7, h8, h9⟩
        · simp at hlt
        · refine ⟨_, by simp only [execOp, ho, h3, h2]; exact run_val (key _ _ _ _ _ _ hc.1 (by omega)), ?_⟩
          rw [hc.2] at h7
          obtain ⟨pre, mid, post, rfl, hp, hm, hms, _, _⟩ := h7.nth hu2
          rw [add_lit, ← hp]
          exact .one (.fptr hm h8.sub h9) rfl
      · cases hs
    · cases hs
  · rename_i id path off k len es j heq1 hv hj
    split at hs
    · rename_i hc
      simp only [Option.some.injEq, Prod.mk.injEq] at hs
      obtain ⟨rfl, rfl⟩ := hs
      refine ⟨rfl, fun oper G w H U a ho hw hr hH => ?_⟩
      have h1 := hr x x' (by simp [Op.operands]) hx
      obtain ⟨kk, h2⟩ := asI_inv hj (hr y y' (by simp [Op.operands]) hy)
      rw [hv] at h1
      obtain ⟨ad, cap, h3, h4, h5⟩ := h1.sl_inv
      rcases h5 with ⟨h5, _⟩ | ⟨b, o, cur, e, rfl, h6, h7, h8⟩
      · omega
      · refine ⟨_, by simp only [execOp, ho, h3, h2]; exact run_val (key _ _ _ _ _ _ hc.1 (by omega)), ?_⟩
        rw [add_lit, Nat.add_assoc]
        exact .one (.ptr h6) rfl
    · cases hs
  · rename_i n id path off j heq1 hv hj
    simp at heq1
  · rename_i n es ts j heq1 hv hj
    simp at heq1
  · cases hs

theorem sp_iadr_arr {t : TypeId} {n : Nat} {i : TypeInfo} {x y : Operand} {x' y' : AX} (ht : arrT P t = some (n, i)) (hx : trX x = some x') (hy : trX y = some y') : SoundP P (.indexAddr t x y) (.iadr (some n) i.size x' y') := by
  intro σ σ' v hs
  obtain ⟨e, hu, hi⟩ := arrT_inv ht
  have key : ∀ (ad : Addr) (k : IntKind) (j : Int) (w : World), 0 ≤ j → j < n → (Instr.indexAt t (.pointer (some ad)) (.int k j)).run P w = .ok (.pointer (some (ad.add (j.toNat * i.size)))) w := fun ad k j w h0 h1 => by
    simp [Instr.indexAt, asIntOf, run_underlying hu, h0, h1, sizeOf, typeInfo, hi, Instr.sureAddr]
  simp only [stepE] at hs
  split at hs
  · rename_i x0 es ts j heq1 hv hj
    simp at heq1
  · rename_i id path off k len es j heq1 hv hj
    simp at heq1
  · rename_i n' id path off j heq1 hv hj
    simp only [Option.some.injEq] at heq1
    subst heq1
    split at hs
    · rename_i hc
      simp only [Option.some.injEq, Prod.mk.injEq] at hs
      obtain ⟨rfl, rfl⟩ := hs
      refine ⟨rfl, fun oper G w H U a ho hw hr hH => ?_⟩
      have h1 := hr x x' (by simp [Op.operands]) hx
      obtain ⟨kk, h2⟩ := asI_inv hj (hr y y' (by simp [Op.operands]) hy)
      rw [hv] at h1
      obtain ⟨b, o, h3, h4⟩ := h1.ptr_inv
      refine ⟨_, by simp only [execOp, ho, h4, h2]; exact run_val (key _ _ _ _ hc.1 hc.2), ?_⟩
      rw [add_lit, Nat.add_assoc]
      exact .one (.ptr h3) rfl
    · cases hs
  · rename_i n' es n1 ts j heq1 hv hj
    simp only [Option.some.injEq] at heq1
    subst heq1
    split at hs
    · rename_i hc
      split at hs
      · rename_i u hu2
        simp only [Option.some.injEq, Prod.mk.injEq] at hs
        obtain ⟨rfl, rfl⟩ := hs
        refine ⟨rfl, fun oper G w H U a ho hw hr hH => ?_⟩
        have h1 := hr x x' (by simp [Op.operands]) hx
        obtain ⟨kk, h2⟩ := asI_inv hj (hr y y' (by simp [Op.operands]) hy)
        rw [hv] at h1
        obtain ⟨b, o, cs, h3, h4, h5, h6⟩ := h1.fptr_inv
        have hlt : j.toNat < ts.length := (List.getElem?_eq_some_iff.1 hu2).1
        cases h4 with
        | arr h7 h8 =>
          refine ⟨_, by simp only [execOp, ho, h3, h2]; exact run_val (key _ _ _ _ hc.1 (by omega)), ?_⟩
          obtain ⟨pre, mid, post, rfl, hp, hm, hms, _, _⟩ := h7.nth hu2
          rw [add_lit, ← hc.2.1, ← hp]
          exact .one (.fptr hm h5.sub h6) rfl
      · cases hs
    · cases hs
  · cases hs

theorem sp_len_slice {t e : TypeId} {oper0 : Call} {x : Operand} {x' : AX} (hc : oper0.callee = .builtin .len) (ha : oper0.args = #[x]) (hat : oper0.argTypes = #[t]) (ht : P.underlying t = some (.slice e)) (hx : trX x = some x') :
    SoundP P (.call oper0) (.len none x') := by
  intro σ σ' v hs
  have key : ∀ (a : Act) (oper : Oper) (ad : Option Addr) (n c : Nat) (w : World), oper.op = .call oper0 → a.eval x = .slice ad n c → (execOp a.eval oper).run P w = .ok (.value (.int .i64 n)) w := fun a oper ad n c w ho hv => by
    simp [execOp, ho, resolve, hc, ha, hat, invoke, builtin, Builtin.len_, run_underlying ht, hv, goInt]
  simp only [stepE] at hs
  split at hs
  · rename_i heq; simp at heq
  · rename_i x0 es ts heq hv
    simp only [Option.some.injEq, Prod.mk.injEq] at hs
    obtain ⟨rfl, rfl⟩ := hs
    refine ⟨rfl, fun oper G w H U a ho hw hr hH => ?_⟩
    have h1 := hr x x' (by simp [Op.operands, Call.operands, hc, ha]) hx
    rw [hv] at h1
    obtain ⟨ad, cap, h2, _⟩ := h1.fro_inv
    exact ⟨_, key a oper ad _ cap w ho h2, .one (.sc rfl) rfl⟩
  · rename_i len es heq hv
    simp only [Option.some.injEq, Prod.mk.injEq] at hs
    obtain ⟨rfl, rfl⟩ := hs
    refine ⟨rfl, fun oper G w H U a ho hw hr hH => ?_⟩
    have h1 := hr x x' (by simp [Op.operands, Call.operands, hc, ha]) hx
    rw [hv] at h1
    obtain ⟨ad, cap, h2, _⟩ := h1.sl_inv
    exact ⟨_, key a oper ad _ cap w ho h2, .one (.sc rfl) rfl⟩
  · cases hs

theorem sp_lens {t : TypeId} {oper0 : Call} {x : Operand} {x' : AX} (hc : oper0.callee = .builtin .len) (ha : oper0.args = #[x]) (hat : oper0.argTypes = #[t]) (ht : P.underlying t = some .string) (hx : trX x = some x') :
    SoundP P (.call oper0) (.lens x') := by
  intro σ σ' v hs
  simp only [stepE] at hs
  split at hs
  · rename_i s hv
    simp only [Option.some.injEq, Prod.mk.injEq] at hs
    obtain ⟨rfl, rfl⟩ := hs
    refine ⟨rfl, fun oper G w H U a ho hw hr hH => ?_⟩
    have h1 := hr x x' (by simp [Op.operands, Call.operands, hc, ha]) hx
    rw [hv] at h1
    obtain ⟨h1, _⟩ := h1.sc_inv
    exact ⟨_, by simp [execOp, ho, resolve, hc, ha, hat, invoke, builtin, Builtin.len_, run_underlying ht, h1, goInt], .one (.sc rfl) rfl⟩
  · cases hs

theorem sp_len_arr {t : TypeId} {n : Nat} {oper0 : Call} {x : Operand} {x' : AX} (hc : oper0.callee = .builtin .len) (ha : oper0.args = #[x]) (hat : oper0.argTypes = #[t])
    (ht : (∃ e, P.underlying t = some (.array n e)) ∨ ∃ u e, P.underlying t = some (.pointer u) ∧ P.underlying u = some (.array n e)) (hx : trX x = some x') :
    SoundP P (.call oper0) (.len (some n) x') := by
  intro σ σ' v hs
  simp only [stepE, Option.some.injEq, Prod.mk.injEq] at hs
  obtain ⟨rfl, rfl⟩ := hs
  refine ⟨rfl, fun oper G w H U a ho hw hr hH => ⟨.int .i64 n, ?_, .one (.sc rfl) rfl⟩⟩
  rcases ht with ⟨e, ht⟩ | ⟨u, e, ht, hu⟩
  · simp [execOp, ho, resolve, hc, ha, hat, invoke, builtin, Builtin.len_, run_underlying ht, goInt]
  · simp [execOp, ho, resolve, hc, ha, hat, invoke, builtin, Builtin.len_, run_underlying ht, run_underlying hu, goInt]

theorem run_loadVar {t : TypeId} {ag : Bool} {n : Nat} (ha : isAggT P t = some ag) (hn : szT P t = some n) {w : World} {b o : Nat} {cs : List Value} (hl : cs.length = n) (hr : Reads w b o cs) (h1 : ag = false → ∃ v, cs = [v]) :
    (loadVar t ⟨b, o, none⟩).run P w = .ok (if ag then .agg cs.toArray else cs.headD undef) w := by
  obtain ⟨i, hi, hi2⟩ := szT_info hn
  have hcell : ∀ (j : Nat) (v : Value), cs[j]? = some v → w.cell? (Addr.add ⟨b, o, none⟩ j) = some v := fun j v hj => by rw [add_lit]; exact hr j v hj
  unfold isAggT at ha
  cases hu : P.underlying t with
  | none => rw [hu] at ha; cases ha
  | some dd =>
    rw [hu] at ha
    have big : (loadCells ⟨b, o, none⟩ n).run P w = .ok cs.toArray w := by rw [← hl]; exact run_loadCells_list w _ cs hcell
    have small : ag = false → (load ⟨b, o, none⟩).run P w = .ok (cs.headD undef) w := fun h => by
      obtain ⟨v, rfl⟩ := h1 h
      have := hcell 0 v rfl
      rw [add_lit, Nat.add_zero] at this
      simp [load, Sem.run, this]
    cases dd <;> simp only [Option.some.injEq] at ha <;> subst ha <;> first
      | (simp [loadVar, isAgg, run_underlying hu, sizeOf, typeInfo, hi, hi2, big]; done)
      | (simp [loadVar, isAgg, run_underlying hu]; simpa using small rfl)

theorem RelV.of_cells {w : World} {F : Nat → Prop} {ρ : Nat → Option Loc} {t : AV} {cs : List Value} (h : RelC w F ρ t cs) : RelV w F ρ t (if t.isAgg then .agg cs.toArray else cs.headD undef) := by
  cases ha : t.isAgg with
  | true => exact .agg h ha
  | false =>
    obtain ⟨v, rfl⟩ := h.single ha
    exact .one h ha

/-- Where an own address leads. -/
theorem Wf.place {G : Gh} {w : World} {H : Nat → Option AV} {U : Nat → Prop} (hw : Wf G w H U) {id b o : Nat} {t : AV} (hr : G.ρ id = some (b, o)) (ht : H id = some t) :
    ∃ (cs : List Value) (cur : Array Value) (e : TypeId), RelC w G.F G.ρ t cs ∧ w.heap[b]? = some (Obj.cells cur e (0, 0)) ∧ Reads w b o cs ∧ ¬ G.F b := by
  rcases hw.blk id t ht with ⟨b', o', cs, cur, e, h1, h2, h3, h4, h5⟩ | h1
  · rw [hr] at h1
    simp only [Option.some.injEq, Prod.mk.injEq] at h1
    obtain ⟨rfl, rfl⟩ := h1
    exact ⟨cs, cur, e, h2, h3, h4, h5⟩
  · rw [hr] at h1; cases h1.1

theorem loadA_rel {σ : St} {G : Gh} {w : World} {H : Nat → Option AV} {U : Nat → Prop} (hw : Wf G w H U) (hH : ∀ k t, σ.H k = some t → H k = some t) {x u : AV} {v : Value} (h : σ.loadA x = some u) (hr : RelV w G.F G.ρ x v) :
    ∃ b o cs, v = .pointer (some ⟨b, o, none⟩) ∧ RelC w G.F G.ρ u cs ∧ Reads w b o cs := by
  unfold St.loadA at h
  split at h
  · rename_i t
    simp only [Option.some.injEq] at h
    subst h
    obtain ⟨b, o, cs, rfl, h1, h2, h3⟩ := hr.fptr_inv
    exact ⟨b, o, cs, rfl, h1.up, h2⟩
  · rename_i id path off
    split at h
    · rename_i t ht
      split at h
      · rename_i o u' hat
        split at h
        · rename_i ho
          simp only [Option.some.injEq] at h
          subst h
          obtain ⟨b, o', h1, rfl⟩ := hr.ptr_inv
          obtain ⟨cs, cur, e, h2, h3, h4, h5⟩ := hw.place h1 (hH _ _ ht)
          obtain ⟨pre, mid, post, rfl, hp, hm, _⟩ := h2.at path hat
          refine ⟨b, o' + off, mid, rfl, hm, ?_⟩
          rw [← ho, ← hp]; exact h4.sub
        · cases h
      · cases h
    · cases h
  · cases h

theorem sp_load {t : TypeId} {ag : Bool} {n : Nat} {x : Operand} {x' : AX} (ha : isAggT P t = some ag) (hn : szT P t = some n) (hx : trX x = some x') : SoundP P (.load t x) (.load ag n x') := by
  intro σ σ' v hs
  simp only [stepE] at hs
  split at hs
  · rename_i u hu
    split at hs
    · rename_i hc
      simp only [Option.some.injEq, Prod.mk.injEq] at hs
      obtain ⟨rfl, rfl⟩ := hs
      refine ⟨rfl, fun oper G w H U a ho hw hr hH => ?_⟩
      obtain ⟨b, o, cs, h1, h2, h3⟩ := loadA_rel hw hH hu (hr x x' (by simp [Op.operands]) hx)
      have h4 := run_loadVar (P := P) ha hn (cs := cs) (by rw [h2.size]; exact hc.2) h3 (fun h => h2.single (hc.1.trans h))
      rw [← hc.1] at h4
      exact ⟨_, by simp only [execOp, ho, h1]; exact run_val (by simpa [Instr.loadAt, Instr.sureAddr] using h4), .of_cells h2⟩
    · cases hs
  · cases hs

theorem bounds_run {w : World} {G : Gh} {len cap l h : Nat} {lo hi : Option AV} {lo' hi' : Option Value} (isSlice : Bool) (hb : boundsA len lo hi = some (l, h)) (hc : len ≤ cap)
    (hlo : ∀ v, lo = some v → ∃ u, lo' = some u ∧ RelV w G.F G.ρ v u) (hlo0 : lo = none → lo' = none) (hhi : ∀ v, hi = some v → ∃ u, hi' = some u ∧ RelV w G.F G.ρ v u) (hhi0 : hi = none → hi' = none) :
    (Instr.sliceBounds isSlice len cap lo' hi' none).run P w = .ok (l, h, cap) w ∧ l ≤ h ∧ h ≤ len := by
  unfold boundsA at hb
  split at hb
  · rename_i jl jh hl hh
    split at hb
    · rename_i hcond
      simp only [Option.some.injEq, Prod.mk.injEq] at hb
      obtain ⟨rfl, rfl⟩ := hb
      refine ⟨?_, by omega, by omega⟩
      have e1 : jl.toNat ≤ jh.toNat := by omega
      have e2 : (jh.toNat : Int) = jh := by omega
      have e3 : (0 ≤ jl ∧ jl ≤ (jh.toNat : Int)) := by omega
      have e4 : (0 ≤ jh ∧ jh ≤ (cap : Int)) := by omega
      cases lo with
      | none =>
        have := hlo0 rfl; subst this
        simp only [Option.some.injEq] at hl
        subst hl
        cases hi with
        | none =>
          have := hhi0 rfl; subst this
          simp only [Option.some.injEq] at hh
          subst hh
          simp [Instr.sliceBounds]
        | some vh =>
          obtain ⟨u, rfl, hu⟩ := hhi _ rfl
          obtain ⟨k, rfl⟩ := asI_inv hh hu
          simp [Instr.sliceBounds, Instr.sliceBound, asIntOf, e4]
      | some vl =>
        obtain ⟨u, rfl, hu⟩ := hlo _ rfl
        obtain ⟨k, rfl⟩ := asI_inv hl hu
        cases hi with
        | none =>
          have := hhi0 rfl; subst this
          simp only [Option.some.injEq] at hh
          subst hh
          have e5 : (0 ≤ jl ∧ jl ≤ (len : Int)) := by omega
          simp [Instr.sliceBounds, Instr.sliceBound, asIntOf, e5]
        | some vh =>
          obtain ⟨u', rfl, hu'⟩ := hhi _ rfl
          obtain ⟨k', rfl⟩ := asI_inv hh hu'
          have e6 : jl ≤ jh := by omega
          simp [Instr.sliceBounds, Instr.sliceBound, asIntOf, e4, e3, e2, e6]
    · cases hb
  · cases hb

theorem Reads.drop {w : World} {b o : Nat} {cs : List Value} (h : Reads w b o cs) (n : Nat) : Reads w b (o + n) (cs.drop n) := by
  intro j v hj
  rw [List.getElem?_drop] at hj
  rw [Nat.add_assoc]; exact h (n + j) v hj
theorem Reads.take {w : World} {b o : Nat} {cs : List Value} (h : Reads w b o cs) (n : Nat) : Reads w b o (cs.take n) := by
  intro j v hj
  rw [List.getElem?_take] at hj
  split at hj
  · exact h j v hj
  · cases hj

/-- A part of a frozen row. -/
theorem fro_cut {w : World} {F : Nat → Prop} {ρ : Nat → Option Loc} {es b o l h cap : Nat} {ts : List AV} {cs : List Value} (h1 : RelE w F es ts cs) (h2 : Reads w b o cs) (h3 : F b) (hl : l ≤ h) (hh : h ≤ ts.length) (hc : h ≤ cap) (ad : Option Addr)
    (had : l < h → ad = some ⟨b, o + l * es, none⟩) : RelC w F ρ (.fro false es ((ts.take h).drop l)) [.slice ad (h - l) (cap - l)] := by
  by_cases hlt : l < h
  · rw [had hlt]
    have hlen : ((ts.take h).drop l).length = h - l := by simp; omega
    have := RelC.fro (ρ := ρ) (x := false) (cap := cap - l) ((h1.take h).drop l) ((h2.take (h * es)).drop (l * es)) h3 (fun h => by cases h) (by rw [hlen]; omega)
    rwa [hlen] at this
  · have : l = h := by omega
    subst this
    have e : (ts.take l).drop l = [] := by simp
    rw [e, Nat.sub_self]
    exact .fro0 (fun h => by cases h)

theorem trXo_rel {σ : St} {G : Gh} {w : World} {a : Act} {x : Option Operand} {x' : Option AX} (h : trXo x = some x') (hr : ∀ y y', y ∈ x.toArray → trX y = some y' → RelV w G.F G.ρ (σ.ev y') (a.eval y)) :
    (∀ v, x'.map σ.ev = some v → ∃ u, x.map a.eval = some u ∧ RelV w G.F G.ρ v u) ∧ (x'.map σ.ev = none → x.map a.eval = none) := by
  unfold trXo at h
  split at h
  · simp only [Option.some.injEq] at h
    subst h
    exact ⟨fun v hv => (by cases hv), fun _ => rfl⟩
  · rename_i y
    cases hy : trX y with
    | none => rw [hy] at h; cases h
    | some y' =>
      rw [hy] at h
      simp only [Option.map_some, Option.some.injEq] at h
      subst h
      refine ⟨fun v hv => ?_, fun hv => (by cases hv)⟩
      simp only [Option.map_some, Option.some.injEq] at hv
      subst hv
      exact ⟨_, rfl, hr y y' (by simp) hy⟩

theorem sp_slice {t e : TypeId} {i : TypeInfo} {x : Operand} {x' : AX} {lo hi : Option Operand} {lo' hi' : Option AX} (ht : elemT P t = some (e, i)) (hx : trX x = some x') (hlo : trXo lo = some lo') (hhi : trXo hi = some hi') :
    SoundP P (.slice t x lo hi none) (.slice i.size x' lo' hi') := by
  intro σ σ' v hs
  obtain ⟨hu, hi2⟩ := elemT_inv ht
  simp only [stepE] at hs
  split at hs
  · rename_i x0 es ts hv
    split at hs
    · rename_i l h hb
      split at hs
      · rename_i hes
        subst hes
        simp only [Option.some.injEq, Prod.mk.injEq] at hs
        obtain ⟨rfl, rfl⟩ := hs
        refine ⟨rfl, fun oper G w H U a ho hw hr hH => ?_⟩
        have h1 := hr x x' (by simp [Op.operands]) hx
        rw [hv] at h1
        obtain ⟨ad, cap, h2, h3, h4, h5⟩ := h1.fro_inv
        obtain ⟨l1, l2⟩ := trXo_rel (σ := σ) (G := G) (w := w) (a := a) hlo (fun y y' hy => hr y y' (by simp [Op.operands]; cases lo <;> simp at hy ⊢; exact .inr (.inl hy.symm)))
        obtain ⟨r1, r2⟩ := trXo_rel (σ := σ) (G := G) (w := w) (a := a) hhi (fun y y' hy => hr y y' (by simp [Op.operands]; cases hi <;> simp at hy ⊢; exact .inr (.inr hy.symm)))
        obtain ⟨hrun, hlh, hhl⟩ := bounds_run (P := P) true hb h3 l1 l2 r1 r2
        refine ⟨.slice (if cap = l then ad else ad.map (·.add (l * i.size))) (h - l) (cap - l), ?_, .one ?_ rfl⟩
        · simp only [execOp, ho, h2]
          refine run_val ?_
          simp [Instr.sliceAt, Instr.slice, run_underlying hu, hrun, sizeOf, typeInfo, hi2]
        · rcases h5 with rfl | ⟨b, o, cs, rfl, h6, h7, h8⟩
          · have : h = 0 := by simpa using hhl
            subst this
            have : l = 0 := by omega
            subst this
            simp only [List.take_nil, List.drop_nil, Nat.sub_self]
            exact .fro0 (fun h => by cases h)
          · refine fro_cut h6 h7 h8 hlh hhl (by omega) _ (fun hlt => ?_)
            rw [if_neg (by omega)]
            simp [add_lit]
      · cases hs
    · cases hs
  · rename_i id path off k len es hv
    split at hs
    · rename_i l h hb
      split at hs
      · rename_i hes
        subst hes
        simp only [Option.some.injEq, Prod.mk.injEq] at hs
        obtain ⟨rfl, rfl⟩ := hs
        refine ⟨rfl, fun oper G w H U a ho hw hr hH => ?_⟩
        have h1 := hr x x' (by simp [Op.operands]) hx
        rw [hv] at h1
        obtain ⟨ad, cap, h2, h3, h5⟩ := h1.sl_inv
        obtain ⟨l1, l2⟩ := trXo_rel (σ := σ) (G := G) (w := w) (a := a) hlo (fun y y' hy => hr y y' (by simp [Op.operands]; cases lo <;> simp at hy ⊢; exact .inr (.inl hy.symm)))
        obtain ⟨r1, r2⟩ := trXo_rel (σ := σ) (G := G) (w := w) (a := a) hhi (fun y y' hy => hr y y' (by simp [Op.operands]; cases hi <;> simp at hy ⊢; exact .inr (.inr hy.symm)))
        obtain ⟨hrun, hlh, hhl⟩ := bounds_run (P := P) true hb h3 l1 l2 r1 r2
        refine ⟨.slice (if cap = l then ad else ad.map (·.add (l * i.size))) (h - l) (cap - l), ?_, .one ?_ rfl⟩
        · simp only [execOp, ho, h2]
          refine run_val ?_
          simp [Instr.sliceAt, Instr.slice, run_underlying hu, hrun, sizeOf, typeInfo, hi2]
        · by_cases hcl : cap = l
          · have : h = l := by omega
            subst this
            rw [hcl, Nat.sub_self]
            exact .sl0
          · rw [if_neg hcl]
            rcases h5 with ⟨h5, h6⟩ | ⟨b, o, cur, e, rfl, h6, h7, h8⟩
            · omega
            · simp only [Option.map_some, add_lit, Nat.add_assoc]
              refine .sl h6 (by omega) h7 ?_
              have : (cap - l) * i.size + l * i.size = cap * i.size := by rw [← Nat.add_mul]; congr 1; omega
              omega
      · cases hs
    · cases hs
  · cases hs
end
end Go.Ra

/- Each abstract operation is sound: the rest of those that only compute. -/
namespace Go.Ra
set_option linter.unusedVariables false
set_option linter.unusedSimpArgs false
section
variable {P : Program}

theorem Reads.bound {w : World} {b o : Nat} {cs : List Value} {cur : Array Value} {e : TypeId} (h : Reads w b o cs) (hb : w.heap[b]? = some (Obj.cells cur e (0, 0))) (hne : cs ≠ []) : o + cs.length ≤ cur.size := by
  have hlt : cs.length - 1 < cs.length := by have := List.length_pos_iff.2 hne; omega
  have := h (cs.length - 1) _ (List.getElem?_eq_getElem hlt)
  simp only [World.cell?, hb] at this
  have := (Array.getElem?_eq_some_iff.1 this).1
  omega

theorem sp_aslice {t : TypeId} {n : Nat} {i : TypeInfo} {x : Operand} {x' : AX} {lo hi : Option Operand} {lo' hi' : Option AX} (ht : arrT P t = some (n, i)) (hx : trX x = some x') (hlo : trXo lo = some lo') (hhi : trXo hi = some hi') :
    SoundP P (.slice t x lo hi none) (.aslice n i.size x' lo' hi') := by
  intro σ σ' v hs
  obtain ⟨e, hu, hi2⟩ := arrT_inv ht
  simp only [stepE] at hs
  split at hs
  · rename_i id path off hv
    split at hs
    · rename_i l h tt hb hH2
      split at hs
      · rename_i o n' es' ts' hat
        split at hs
        · rename_i hc
          obtain ⟨rfl, rfl, rfl, hpos⟩ := hc
          simp only [Option.some.injEq, Prod.mk.injEq] at hs
          obtain ⟨rfl, rfl⟩ := hs
          refine ⟨rfl, fun oper G w H U a ho hw hr hH => ?_⟩
          have h1 := hr x x' (by simp [Op.operands]) hx
          rw [hv] at h1
          obtain ⟨b, o', h2, h3⟩ := h1.ptr_inv
          obtain ⟨l1, l2⟩ := trXo_rel (σ := σ) (G := G) (w := w) (a := a) hlo (fun y y' hy => hr y y' (by simp [Op.operands]; cases lo <;> simp at hy ⊢; exact .inr (.inl hy.symm)))
          obtain ⟨r1, r2⟩ := trXo_rel (σ := σ) (G := G) (w := w) (a := a) hhi (fun y y' hy => hr y y' (by simp [Op.operands]; cases hi <;> simp at hy ⊢; exact .inr (.inr hy.symm)))
          obtain ⟨hrun, hlh, hhl⟩ := bounds_run (P := P) false hb (Nat.le_refl n') l1 l2 r1 r2
          obtain ⟨cs, cur, e1, h4, h5, h6, h7⟩ := hw.place h2 (hH _ _ hH2)
          obtain ⟨pre, mid, post, rfl, hp, hm, _⟩ := h4.at path hat
          refine ⟨.slice (if n' = l then some ⟨b, o' + o, none⟩ else some (Addr.add ⟨b, o' + o, none⟩ (l * i.size))) (h - l) (n' - l), ?_, .one ?_ rfl⟩
          · simp only [execOp, ho, h3]
            refine run_val ?_
            simp only [Instr.sliceAt, Sem.run_bind, run_underlying hu, Instr.sureAddr]
            simp [hrun, sizeOf, typeInfo, hi2]
            split <;> rfl
          · by_cases hcl : n' = l
            · have : h = l := by omega
              subst this
              rw [hcl, Nat.sub_self]
              exact .sl0
            · rw [if_neg hcl, add_lit, Nat.add_assoc]
              refine .sl h2 (by omega) h5 ?_
              have hms := hm.size
              simp only [AV.size] at hms
              by_cases hz : mid = []
              · subst hz
                simp only [List.length_nil] at hms
                have := Nat.mul_pos (show 0 < n' by omega) hpos
                omega
              · have hb2 := h6.sub.bound h5 hz
                have e2 : l * i.size + (n' - l) * i.size = n' * i.size := by rw [← Nat.add_mul]; congr 1; omega
                omega
        · cases hs
      · cases hs
    · cases hs
  · rename_i n1 es1 ts hv
    split at hs
    · rename_i l h hb
      split at hs
      · rename_i hc
        obtain ⟨rfl, rfl⟩ := hc
        simp only [Option.some.injEq, Prod.mk.injEq] at hs
        obtain ⟨rfl, rfl⟩ := hs
        refine ⟨rfl, fun oper G w H U a ho hw hr hH => ?_⟩
        have h1 := hr x x' (by simp [Op.operands]) hx
        rw [hv] at h1
        obtain ⟨b, o, cs, h3, h4, h5, h6⟩ := h1.fptr_inv
        obtain ⟨l1, l2⟩ := trXo_rel (σ := σ) (G := G) (w := w) (a := a) hlo (fun y y' hy => hr y y' (by simp [Op.operands]; cases lo <;> simp at hy ⊢; exact .inr (.inl hy.symm)))
        obtain ⟨r1, r2⟩ := trXo_rel (σ := σ) (G := G) (w := w) (a := a) hhi (fun y y' hy => hr y y' (by simp [Op.operands]; cases hi <;> simp at hy ⊢; exact .inr (.inr hy.symm)))
        obtain ⟨hrun, hlh, hhl⟩ := bounds_run (P := P) false hb (Nat.le_refl n1) l1 l2 r1 r2
        cases h4 with
        | arr h7 h8 =>
          refine ⟨.slice (if n1 = l then some ⟨b, o, none⟩ else some (Addr.add ⟨b, o, none⟩ (l * i.size))) (h - l) (n1 - l), ?_, .one ?_ rfl⟩
          · simp only [execOp, ho, h3]
            refine run_val ?_
            simp only [Instr.sliceAt, Sem.run_bind, run_underlying hu, Instr.sureAddr]
            simp [hrun, sizeOf, typeInfo, hi2]
            split <;> rfl
          · refine fro_cut h7 h5 h6 hlh (by omega) (by omega) _ (fun hlt => ?_)
            rw [if_neg (by omega), add_lit]
      · cases hs
    · cases hs
  · cases hs

/-! ### structs -/

theorem foldl_set (off : Nat) : ∀ (vs : List Value) (k : Nat) (cs : List Value), off + k + vs.length ≤ cs.length →
    ((vs.zipIdx k).foldl (fun (cs : Array Value) (p : Value × Nat) => cs.setIfInBounds (off + p.2) p.1) cs.toArray) = (cs.take (off + k) ++ (vs ++ cs.drop (off + k + vs.length))).toArray
  | [], k, cs, h => by simp
  | v :: vs, k, cs, h => by
    simp only [List.zipIdx_cons, List.foldl_cons, List.length_cons] at h ⊢
    have hlt : off + k < cs.length := by omega
    have e : cs.toArray.setIfInBounds (off + k) v = (cs.set (off + k) v).toArray := by simp
    rw [e, foldl_set off vs (k + 1) (cs.set (off + k) v) (by simp; omega)]
    congr 1
    rw [List.set_eq_take_append_cons_drop, if_pos hlt]
    have h1 : (cs.take (off + k)).length = off + k := by simp; omega
    have e1 : (cs.take (off + k) ++ v :: cs.drop (off + k + 1)).take (off + (k + 1)) = cs.take (off + k) ++ [v] := by
      rw [List.take_append, h1, show off + (k + 1) - (off + k) = 1 by omega, List.take_of_length_le (by omega)]
      simp
    have e2 : (cs.take (off + k) ++ v :: cs.drop (off + k + 1)).drop (off + (k + 1) + vs.length) = cs.drop (off + k + (vs.length + 1)) := by
      rw [List.drop_append, h1, List.drop_of_length_le (by omega), List.nil_append, show off + (k + 1) + vs.length - (off + k) = vs.length + 1 by omega, List.drop_succ_cons, List.drop_drop]
      congr 1; omega
    rw [e1, e2]
    simp

/-- One part laid into a row of cells. -/
theorem fill_one {place : Nat → Option (Nat × Nat)} {i off : Nat} {v : Value} {rest : List (Nat × Value)} {pre mid post : List Value} (hp : place i = some (off, v.cells.size)) (hoff : pre.length = off) (hm : mid.length = v.cells.size) :
    Instr.fill place (pre ++ (mid ++ post)).toArray ((i, v) :: rest) = Instr.fill place (pre ++ (v.cells.toList ++ post)).toArray rest := by
  simp only [Instr.fill, hp]
  have key : (v.cells.zipIdx.foldl (fun cs (x : Value × Nat) => cs.setIfInBounds (off + x.2) x.1) (pre ++ (mid ++ post)).toArray) = (pre ++ (v.cells.toList ++ post)).toArray := by
    have := foldl_set off v.cells.toList 0 (pre ++ (mid ++ post)) (by simp; omega)
    rw [← Array.foldl_toList, Array.toList_zipIdx, this]
    congr 1
    have h1 : (pre ++ (mid ++ post)).take (off + 0) = pre := by rw [Nat.add_zero, ← hoff]; simp
    have h2 : (pre ++ (mid ++ post)).drop (off + 0 + v.cells.toList.length) = post := by
      have e : off + 0 + v.cells.toList.length = (pre ++ mid).length := by simp; omega
      rw [e, ← List.append_assoc, List.drop_left]
    rw [h1, h2]
  split
  · rename_i h
    simp at h
    omega
  · rw [← key]


theorem sizes_append : ∀ (a b : List AV), sizes (a ++ b) = sizes a + sizes b
  | [], b => by simp [sizes]
  | t :: a, b => by simp [sizes, sizes_append a b, Nat.add_assoc]

theorem split_at {α : Type} {l : List α} {i : Nat} {z : α} (h : l[i]? = some z) : l = l.take i ++ (z :: l.drop (i + 1)) := by
  obtain ⟨hi, rfl⟩ := List.getElem?_eq_some_iff.1 h
  rw [← List.drop_eq_getElem_cons hi, List.take_append_drop]

def Places (place : Nat → Option (Nat × Nat)) (zs : List AV) : Prop := ∀ i z, zs[i]? = some z → place i = some (sizes (zs.take i), z.size)

theorem Places.set {place : Nat → Option (Nat × Nat)} {zs : List AV} (h : Places place zs) {i : Nat} {z v : AV} (hz : zs[i]? = some z) (hv : v.size = z.size) : Places place (zs.set i v) := by
  intro j y hj
  have hi : i < zs.length := (List.getElem?_eq_some_iff.1 hz).1
  have hsz : ∀ j, sizes ((zs.set i v).take j) = sizes (zs.take j) := by
    intro j
    rw [List.take_set]
    by_cases hij : i < j
    · have hz' : (zs.take j)[i]? = some z := by rw [List.getElem?_take]; simp [hij, hz]
      rw [set_split hz', sizes_append]
      have : zs.take j = (zs.take j).take i ++ (z :: (zs.take j).drop (i + 1)) := split_at hz'
      conv => rhs; rw [this]
      rw [sizes_append]
      simp [sizes, hv]
    · rw [List.set_eq_of_length_le (by simp; omega)]
  rw [hsz]
  by_cases hji : j = i
  · subst hji
    rw [List.getElem?_set_self hi] at hj
    simp only [Option.some.injEq] at hj
    subst hj
    rw [hv]; exact h j z hz
  · rw [List.getElem?_set_ne (Ne.symm hji)] at hj
    exact h j y hj

theorem fill_parts {w : World} {G : Gh} {σ : St} {a : Act} {place : Nat → Option (Nat × Nat)} : ∀ {parts : List (Nat × Operand)} {ps : List (Nat × AX)} {zs ts : List AV} {cs : List Value}, trParts parts = some ps →
    (∀ x x', x ∈ parts.map (·.2) → trX x = some x' → RelV w G.F G.ρ (σ.ev x') (a.eval x)) → partsA zs (ps.map fun p => (p.1, σ.ev p.2)) = some ts → Places place zs → RelL w G.F G.ρ zs cs →
    ∃ cs', Instr.fill place cs.toArray (parts.map fun p => (p.1, a.eval p.2)) = some cs'.toArray ∧ RelL w G.F G.ρ ts cs' ∧ cs'.length = cs.length
  | [], ps, zs, ts, cs, ht, hr, hp, hpl, hl => by
    simp only [trParts, Option.some.injEq] at ht
    subst ht
    simp only [List.map_nil, partsA, Option.some.injEq] at hp
    subst hp
    exact ⟨cs, by simp [Instr.fill], hl, rfl⟩
  | (i, x) :: parts, ps, zs, ts, cs, ht, hr, hp, hpl, hl => by
    simp only [trParts] at ht
    split at ht
    · rename_i x' ps' hx hps
      simp only [Option.some.injEq] at ht
      subst ht
      simp only [List.map_cons, partsA] at hp
      split at hp
      · rename_i z hz
        split at hp
        · rename_i hc
          have hv := hr x x' (by simp) hx
          have hvc := hv.cells hc.2.1
          obtain ⟨pre, mid, post, rfl, hpre, hm, hl1, hl2⟩ := hl.nth hz
          have hplace := hpl i z hz
          have hsz : (a.eval x).cells.toList.length = z.size := by rw [hvc.size]; exact hc.1
          have hsz' : (a.eval x).cells.size = z.size := by simpa using hsz
          have h1 := fill_one (place := place) (i := i) (off := sizes (zs.take i)) (v := a.eval x) (rest := parts.map fun p => (p.1, a.eval p.2)) (pre := pre) (mid := mid) (post := post) (by rw [hplace, hsz']) hpre (by rw [hm.size, hsz'])
          have hl' : RelL w G.F G.ρ (zs.set i (σ.ev x')) (pre ++ ((a.eval x).cells.toList ++ post)) := by
            rw [set_split hz]; exact hl1.append (.cons hvc hl2)
          obtain ⟨cs', h2, h3, h4⟩ := fill_parts hps (fun y y' hy => hr y y' (by simp at hy ⊢; exact .inr hy)) hp (hpl.set hz hc.1) hl'
          refine ⟨cs', ?_, h3, ?_⟩
          · simp only [List.map_cons]; rw [h1]; exact h2
          · rw [h4]; simp; rw [hsz', ← hm.size]
        · cases hp
      · cases hp
    · cases ht

theorem fieldsOk_inv : ∀ {fs : List Field} {zs : List AV} {o : Nat}, fieldsOk P o fs zs = true → ∃ ss : List (Nat × Nat), (∀ (w : World), (fs.mapM fun f => (do pure (f.offset, ← sizeOf f.type) : Sem (Nat × Nat))).run P w = .ok ss w) ∧ ∀ i z, zs[i]? = some z → ss[i]? = some (o + sizes (zs.take i), z.size)
  | [], [], o, h => ⟨[], fun w => by simp, fun i z hz => by simp at hz⟩
  | [], _ :: _, o, h => by simp [fieldsOk] at h
  | _ :: _, [], o, h => by simp [fieldsOk] at h
  | f :: fs, z :: zs, o, h => by
    simp only [fieldsOk, Bool.and_eq_true, decide_eq_true_eq] at h
    obtain ⟨⟨h1, h2⟩, h3⟩ := h
    split at h2
    · rename_i inf hi
      simp only [decide_eq_true_eq] at h2
      obtain ⟨ss, h4, h5⟩ := fieldsOk_inv h3
      refine ⟨(o, z.size) :: ss, fun w => ?_, fun i y hy => ?_⟩
      · have hsz : ∀ w, (sizeOf f.type).run P w = .ok inf.size w := fun w => by simp [sizeOf, typeInfo, hi]
        rw [List.mapM_cons]
        simp only [Sem.run_bind, hsz, Result.andThen, Sem.run_pure, h4, h1, h2]
      · cases i with
        | zero =>
          simp only [List.getElem?_cons_zero, Option.some.injEq] at hy
          subst hy
          simp [sizes]
        | succ i =>
          simp only [List.getElem?_cons_succ] at hy
          have := h5 i y hy
          simp only [List.getElem?_cons_succ, this, List.take_succ_cons, sizes, Nat.add_assoc]
    · cases h2

theorem sp_build {t : TypeId} {fs : Array Field} {n : Nat} {zs : List AV} {parts : Array (Nat × Operand)} {ps : List (Nat × AX)} (hu : P.underlying t = some (.struct fs)) (hz : zeroT P t = some (.agg n zs)) (hp : trParts parts.toList = some ps) (hf : fieldsOk P 0 fs.toList zs = true) :
    SoundP P (.build t parts) (.build n zs ps) := by
  intro σ σ' v hs
  simp only [stepE] at hs
  split at hs
  · rename_i ts hts
    simp only [Option.some.injEq, Prod.mk.injEq] at hs
    obtain ⟨rfl, rfl⟩ := hs
    refine ⟨rfl, fun oper G w H U a ho hw hr hH => ?_⟩
    obtain ⟨inf, zv, h1, h2, h3, h4⟩ := zeroT_rel hz
    obtain ⟨ss, h5, h6⟩ := fieldsOk_inv hf
    cases (h4 w G.F G.ρ).1 with
    | agg h7 h8 =>
      have hpl : Places (fun i => ss.toArray[i]?) zs := fun i z hz => by
        have := h6 i z hz
        rw [Nat.zero_add] at this
        simpa using this
      obtain ⟨cs', h9, h10, h11⟩ := fill_parts (σ := σ) (a := a) hp (fun x x' hx hx' => hr x x' (by simpa [Op.operands] using hx) hx') hts hpl h7
      refine ⟨.agg cs'.toArray, ?_, .agg (.agg h10 (by rw [h11, h8])) rfl⟩
      simp only [execOp, ho]
      refine run_val ?_
      have e1 : (fs.mapM fun f => (do pure (f.offset, ← sizeOf f.type) : Sem (Nat × Nat))).run P w = .ok ss.toArray w := by
        have : ∀ (x : Sem (List (Nat × Nat))), x.run P w = .ok ss w → (List.toArray <$> x).run P w = .ok ss.toArray w := fun x hx => by simp [hx]
        rw [Array.mapM_eq_mapM_toList]
        exact this _ (h5 w)
      have e2 : (parts.map fun (x : Nat × Operand) => (x.1, a.eval x.2)).toList = parts.toList.map fun p => (p.1, a.eval p.2) := by simp
      have hz0 : (zeroValue t).run P w = .ok zv w := by simp [zeroValue, typeInfo, h1, h2]
      have e3 : zv.cells = (zv.cells.toList).toArray := by simp
      simp only [Instr.build, Sem.run_bind, hz0, Result.andThen, run_underlying hu, e1]
      rw [e2, e3, h9]
      simp
  · cases hs

theorem foldJ_run (f : Value → Value → Sem Value) (g : Int → Int → Int) (hf : ∀ (k : IntKind) (a b : Int) (w : World), (f (.int k a) (.int k b)).run P w = .ok (.int k (g a b)) w) {w : World} {F : Nat → Prop} {ρ : Nat → Option Loc} {k : IntKind} :
    ∀ {ts : List AV} {us : List Value} {v : AV} {a : Int}, foldJ g k a ts = some v → RelVs w F ρ ts us → ∃ z, (us.foldlM f (.int k a)).run P w = .ok z w ∧ RelV w F ρ v z
  | [], us, v, a, h, hr => by
    cases hr
    simp only [foldJ, Option.some.injEq] at h
    subst h
    exact ⟨.int k a, by simp, .one (.sc rfl) rfl⟩
  | t :: ts, us, v, a, h, hr => by
    cases hr with
    | cons h1 h2 =>
      rename_i u us
      unfold foldJ at h
      split at h
      · rename_i heq; cases heq
      · rename_i k' b l heq
        simp only [List.cons.injEq] at heq
        obtain ⟨rfl, rfl⟩ := heq
        split at h
        · rename_i hk
          subst hk
          obtain ⟨rfl, _⟩ := h1.sc_inv
          obtain ⟨z, hz, hz2⟩ := foldJ_run f g hf h h2
          refine ⟨z, ?_, hz2⟩
          simp only [List.foldlM_cons, Sem.run_bind, hf]
          simpa using hz
        · cases h
      · cases h

theorem foldI_run (f : Value → Value → Sem Value) (g : Int → Int → Int) (hf : ∀ (k : IntKind) (a b : Int) (w : World), (f (.int k a) (.int k b)).run P w = .ok (.int k (g a b)) w) {w : World} {F : Nat → Prop} {ρ : Nat → Option Loc}
    {ts : List AV} {vs : List Value} {v : AV} (h : foldI g ts = some v) (hr : RelVs w F ρ ts vs) :
      ∃ u us, vs = u :: us ∧ ∃ z, (us.foldlM f u).run P w = .ok z w ∧ RelV w F ρ v z := by
  unfold foldI at h
  split at h
  · cases hr with
    | cons h1 h2 =>
      obtain ⟨rfl, _⟩ := h1.sc_inv
      exact ⟨_, _, rfl, foldJ_run f g hf h h2⟩
  · cases h

theorem sp_max {oper0 : Call} {xs' : List AX} (hc : oper0.callee = .builtin .max) (hx : trXs oper0.args.toList = some xs') : SoundP P (.call oper0) (.max xs') := by
  intro σ σ' v hs
  simp only [stepE] at hs
  split at hs
  · rename_i u hu
    simp only [Option.some.injEq, Prod.mk.injEq] at hs
    obtain ⟨rfl, rfl⟩ := hs
    refine ⟨rfl, fun oper G w H U a ho hw hr hH => ?_⟩
    have h1 := RelVs.of_tr (σ := σ) (G := G) (w := w) (a := a) hx fun x x' hx hx' => hr x x' (by simp [Op.operands, Call.operands, hc]; simpa using hx) hx'
    obtain ⟨z, zs, h2, y, h3, h4⟩ := foldI_run (P := P) Builtin.max2 (fun a b => if b > a then b else a) (fun k a b w => by simp [Builtin.max2]) hu h1
    refine ⟨y, ?_, h4⟩
    have e : (oper0.args.map a.eval).toList = z :: zs := by rw [Array.toList_map]; exact h2
    simp [execOp, ho, resolve, hc, invoke, builtin, Builtin.max_, h2, h3]
  · cases hs
theorem sp_min {oper0 : Call} {xs' : List AX} (hc : oper0.callee = .builtin .min) (hx : trXs oper0.args.toList = some xs') : SoundP P (.call oper0) (.min xs') := by
  intro σ σ' v hs
  simp only [stepE] at hs
  split at hs
  · rename_i u hu
    simp only [Option.some.injEq, Prod.mk.injEq] at hs
    obtain ⟨rfl, rfl⟩ := hs
    refine ⟨rfl, fun oper G w H U a ho hw hr hH => ?_⟩
    have h1 := RelVs.of_tr (σ := σ) (G := G) (w := w) (a := a) hx fun x x' hx hx' => hr x x' (by simp [Op.operands, Call.operands, hc]; simpa using hx) hx'
    obtain ⟨z, zs, h2, y, h3, h4⟩ := foldI_run (P := P) Builtin.min2 (fun a b => if b < a then b else a) (fun k a b w => by simp [Builtin.min2]) hu h1
    refine ⟨y, ?_, h4⟩
    simp [execOp, ho, resolve, hc, invoke, builtin, Builtin.min_, h2, h3]
  · cases hs

/-- The elements of a slice value, in memory. -/
theorem row_rel {σ : St} {G : Gh} {w : World} {H : Nat → Option AV} {U : Nat → Prop} (hw : Wf G w H U) (hH : ∀ k t, σ.H k = some t → H k = some t) {es : Nat} {x : AV} {ts : List AV} {v : Value} (h : σ.row es x = some ts) (hr : RelV w G.F G.ρ x v) :
    ∃ ad cap, v = .slice ad ts.length cap ∧ ts.length ≤ cap ∧ (ts = [] ∨ ∃ b o cs, ad = some ⟨b, o, none⟩ ∧ RelE w G.F es ts cs ∧ Reads w b o cs) := by
  unfold St.row at h
  split at h
  · split at h
    · rename_i hes
      simp only [Option.some.injEq] at h
      subst h
      obtain ⟨ad, cap, h1, h2, h3, h4⟩ := hr.fro_inv
      refine ⟨ad, cap, h1, h2, ?_⟩
      rcases h4 with h4 | ⟨b, o, cs, h5, h6, h7, h8⟩
      · exact .inl h4
      · rcases hes with rfl | hes
        · exact .inr ⟨b, o, cs, h5, h6, h7⟩
        · exact .inl hes
    · cases h
  · rename_i id path off k len es2
    split at h
    · rename_i h0
      simp only [Option.some.injEq] at h
      subst h
      obtain ⟨ad, cap, h1, h2, h3⟩ := hr.sl_inv
      exact ⟨ad, cap, by rw [h1, h0]; rfl, Nat.zero_le _, .inl rfl⟩
    split at h
    · rename_i t ht
      split at h
      · rename_i o n es' ts' hat
        split at h
        · rename_i hc
          obtain ⟨rfl, rfl, hc⟩ := hc
          simp only [Option.some.injEq] at h
          subst h
          obtain ⟨ad, cap, h1, h2, h3⟩ := hr.sl_inv
          have hl : ((ts'.drop k).take len).length = len := by simp; omega
          refine ⟨ad, cap, by rw [hl]; exact h1, by rw [hl]; exact h2, ?_⟩
          rcases h3 with ⟨h3, h4⟩ | ⟨b, o', cur, e, h4, h5, h6, h7⟩
          · exact .inl (by rw [h3]; simp)
          · obtain ⟨cs, c1, e1, h8, h9, h10, h11⟩ := hw.place h5 (hH _ _ ht)
            obtain ⟨pre, mid, post, rfl, hp, hm, _⟩ := h8.at path hat
            cases hm with
            | arr hm1 hm2 =>
              refine .inr ⟨b, o' + off, (mid.drop (k * es')).take (len * es'), h4, (hm1.drop k).take len, ?_⟩
              have hsub := (h10.sub.drop (k * es')).take (len * es')
              rw [hc.1, ← hp, ← Nat.add_assoc]
              exact hsub
        · cases h
      · cases h
    · cases h
  · cases h

theorem bytesOf_cells {w : World} {F : Nat → Prop} : ∀ {ts : List AV} {es : Nat} {cs : List Value} {l : List UInt8}, bytesOf ts = some l → RelE w F es ts cs →
    ∃ ns : List Int, cs = ns.map (fun n => Value.int .u8 n) ∧ l = ns.map (fun n => UInt8.ofNat n.toNat) ∧ (ts ≠ [] → es = 1) ∧ ts.length = ns.length
  | [], es, cs, l, h, hr => by
    cases hr
    simp only [bytesOf, Option.some.injEq] at h
    subst h
    exact ⟨[], rfl, rfl, fun h => absurd rfl h, rfl⟩
  | t :: ts, es, cs, l, h, hr => by
    cases hr with
    | cons h1 h0 h2 =>
      unfold bytesOf at h
      split at h
      · rename_i heq; cases heq
      · rename_i n l' heq
        simp only [List.cons.injEq] at heq
        obtain ⟨rfl, rfl⟩ := heq
        split at h
        · rename_i r hr'
          simp only [Option.some.injEq] at h
          subst h
          obtain ⟨ns, rfl, rfl, _, h5⟩ := bytesOf_cells hr' h2
          cases h1
          exact ⟨n :: ns, rfl, rfl, fun _ => by simpa using h0.symm, by simp [h5]⟩
        · cases h
      · cases h

theorem run_push {w : World} (φ : Value → ByteArray → Sem (ForInStep ByteArray)) (hφ : ∀ (n : Int) (r : ByteArray), φ (.int .u8 n) r = pure (ForInStep.yield (r.push (UInt8.ofNat n.toNat)))) : ∀ (ns : List Int) (s : ByteArray),
    Sem.run P (forIn (ns.map fun n => Value.int .u8 n) s φ) w = Result.ok ⟨(s.data.toList ++ ns.map fun n => UInt8.ofNat n.toNat).toArray⟩ w
  | [], s => by simp
  | n :: ns, s => by
    have := run_push (w := w) φ hφ ns (s.push (UInt8.ofNat n.toNat))
    simp only [List.map_cons, List.forIn_cons, hφ]
    simp only [Sem.run_bind, Sem.run_pure, Result.andThen]
    rw [this]
    congr 3
    simp [ByteArray.push]

theorem sp_b2s {src dst e : TypeId} {x : Operand} {x' : AX} (h1 : P.underlying src = some (.slice e)) (h2 : P.underlying dst = some .string) (h3 : P.underlying e = some (.int .u8)) (hx : trX x = some x') : SoundP P (.convert src dst x) (.b2s x') := by
  intro σ σ' v hs
  simp only [stepE] at hs
  split at hs
  · rename_i ts hrow
    split at hs
    · rename_i l hl
      simp only [Option.some.injEq, Prod.mk.injEq] at hs
      obtain ⟨rfl, rfl⟩ := hs
      refine ⟨rfl, fun oper G w H U a ho hw hr hH => ?_⟩
      obtain ⟨ad, cap, h4, h5, h6⟩ := row_rel hw hH hrow (hr x x' (by simp [Op.operands]) hx)
      refine ⟨.string ⟨l.toArray⟩, ?_, .one (.sc rfl) rfl⟩
      have hconv : (Conv.bytesToString (.slice ad ts.length cap)).run P w = .ok (.string ⟨l.toArray⟩) w := by
        rcases h6 with rfl | ⟨b, o, cs, rfl, h7, h8⟩
        · simp only [bytesOf, Option.some.injEq] at hl
          subst hl
          cases ad with
          | none => simp [Conv.bytesToString]; rfl
          | some ad => simp [Conv.bytesToString, loadCells, loadCellsFrom]; rfl
        · obtain ⟨ns, rfl, rfl, h9, h10⟩ := bytesOf_cells hl h7
          have hcells : (loadCells ⟨b, o, none⟩ ts.length).run P w = .ok (ns.map fun n => Value.int .u8 n).toArray w := by
            have := run_loadCells_list (P := P) w ⟨b, o, none⟩ (ns.map fun n => Value.int .u8 n) (fun j v hj => by rw [add_lit]; exact h8 j v hj)
            rwa [List.length_map, ← h10] at this
          simp only [Conv.bytesToString, Sem.run_bind, hcells, Result.andThen]
          rw [← Array.forIn_toList]
          simp only [List.toList_toArray]
          rw [run_push _ (fun n r => rfl) ns ByteArray.empty]
          simp
      simp only [execOp, ho, h4]
      refine run_val ?_
      cases ad <;> simp [convert, run_underlying h1, run_underlying h2, run_underlying h3] <;> exact hconv
    · cases hs
  · cases hs
end
end Go.Ra

/- Each abstract operation is sound: those that make or write memory. -/
namespace Go.Ra
set_option linter.unusedVariables false
set_option linter.unusedSimpArgs false
section
variable {P : Program}

theorem pushed_alloc (w : World) (o : Obj) : Pushed w (w.alloc o) o := ⟨rfl, rfl, rfl, rfl⟩
theorem pushed_drew (w : World) (o : Obj) : Pushed w (w.drew.alloc o) o := ⟨rfl, rfl, rfl, rfl⟩

theorem sd_box_run {oper : Oper} {σ : St} {v : AV} (hv : v.storable = true) {fr : Fr} {G : Gh} {w : World} {H : Nat → Option AV} {U : Nat → Prop} {a : Act} (hw : Wf G w H U) (hf : FrOk fr G w H) (hU : U σ.n) {e : TypeId} {u : Value}
    (hrun : (execOp a.eval oper).run P w = .ok (.value (.pointer (some ⟨w.heap.size, 0, none⟩))) (w.alloc (.cells u.cells e))) (hr : RelV w G.F G.ρ v u) :
    Goes fr G w ((execOp a.eval oper).run P w) (.ptr σ.n [] 0) ((Chg.new v).H σ.n H) (fun j => U j ∧ ((Chg.new v).isNew = true → j ≠ σ.n)) := by
  have h1 := Nxt.own hw hf (pushed_alloc w (.cells u.cells e)) hU (hr.cells hv) (fun j v hj => by simpa using hj) (U' := fun j => U j ∧ ((Chg.new v).isNew = true → j ≠ σ.n)) (fun j hj => ⟨hj.1, hj.2 rfl⟩)
  exact ⟨_, _, _, .inl hrun, h1, .one (.ptr (upd_self _ _ _)) rfl⟩

theorem sd_box {t : TypeId} {x : Operand} {x' : AX} (hx : trX x = some x') : Sound P (.box t x) (.box x') := by
  intro σ σ' v hs
  simp only [stepE] at hs
  split at hs
  · rename_i hst
    simp only [Option.some.injEq, Prod.mk.injEq] at hs
    obtain ⟨rfl, rfl⟩ := hs
    refine ⟨.new (σ.ev x'), rfl, fun k hk => by simp [Chg.key] at hk, fun fr oper G w H U a ho hw hf hr hH hU => ?_⟩
    refine sd_box_run hst hw hf (hU rfl) (e := t) (u := a.eval x) ?_ (hr x x' (by simp [Op.operands]) hx)
    simp [execOp, ho, Instr.box, newVar, newRow, newObj, Sem.run]
  · cases hs

theorem sd_alloc {t : TypeId} {z : AV} (hz : zeroT P t = some z) : Sound P (.alloc t) (.box (.c z)) := by
  intro σ σ' v hs
  simp only [stepE] at hs
  split at hs
  · rename_i hst
    simp only [Option.some.injEq, Prod.mk.injEq] at hs
    obtain ⟨rfl, rfl⟩ := hs
    refine ⟨.new z, rfl, fun k hk => by simp [Chg.key] at hk, fun fr oper G w H U a ho hw hf hr hH hU => ?_⟩
    obtain ⟨i, zv, h1, h2, h3, h4⟩ := zeroT_rel hz
    have hz0 : (zeroValue t).run P w = .ok zv w := by simp [zeroValue, typeInfo, h1, h2]
    refine sd_box_run hst hw hf (hU rfl) (e := t) (u := zv) ?_ (h4 w G.F G.ρ).2
    simp only [execOp, ho]
    refine run_val ?_
    simp only [Instr.alloc, Sem.run_bind, hz0, Result.andThen]
    simp [newVar, newRow, newObj, Sem.run]
  · cases hs

/-- The parts of a slice literal, one behind the other. -/
theorem fill_slice {w : World} {G : Gh} {es : Nat} : ∀ {parts : List (Nat × Value)} {ts : List AV} {k : Nat} {pre post : List Value}, (∀ j p, parts[j]? = some p → p.1 = k + j) → RelVs w G.F G.ρ ts (parts.map (·.2)) → allOk es ts = true →
    pre.length = k * es → post.length = parts.length * es →
    ∃ cs, Instr.fill (fun i => some (i * es, es)) (pre ++ post).toArray parts = some (pre ++ cs).toArray ∧ RelE w G.F es ts cs
  | [], ts, k, pre, post, hk, hr, hok, hp, hq => by
    cases hr
    have : post = [] := List.eq_nil_of_length_eq_zero (by simpa using hq)
    subst this
    exact ⟨[], by simp [Instr.fill], .nil⟩
  | (i, v) :: parts, ts, k, pre, post, hk, hr, hok, hp, hq => by
    cases hr with
    | cons h1 h2 =>
      simp only [allOk, Bool.and_eq_true, beq_iff_eq] at hok
      have hi : i = k := by have := hk 0 (i, v) rfl; simpa using this
      subst hi
      have hc := h1.cells hok.1.1.2
      have hsz : v.cells.toList.length = es := by rw [hc.size]; exact hok.1.1.1
      have hsz' : v.cells.size = es := by simpa using hsz
      simp only [List.length_cons, Nat.add_mul, Nat.one_mul] at hq
      have e : pre ++ post = pre ++ (post.take es ++ post.drop es) := by rw [List.take_append_drop]
      have h3 := fill_one (place := fun i => some (i * es, es)) (i := i) (off := i * es) (v := v) (rest := parts) (pre := pre) (mid := post.take es) (post := post.drop es) (by simp [hsz']) hp (by simp; omega)
      obtain ⟨cs, h4, h5⟩ := fill_slice (k := i + 1) (pre := pre ++ v.cells.toList) (post := post.drop es) (fun j p hj => by have := hk (j + 1) p (by simpa using hj); omega) h2 hok.2 (by simp [hp, hsz', Nat.add_mul]) (by simp; omega)
      refine ⟨v.cells.toList ++ cs, ?_, .cons (hc.free hok.1.2) hsz h5⟩
      rw [e, h3, ← List.append_assoc, h4]
      simp

theorem inOrder_get : ∀ {ps : List (Nat × Operand)} {k : Nat}, inOrder k ps = true → ∀ j p, ps[j]? = some p → p.1 = k + j
  | [], k, h, j, p, hj => by simp at hj
  | q :: ps, k, h, j, p, hj => by
    simp only [inOrder, Bool.and_eq_true, beq_iff_eq] at h
    cases j with
    | zero =>
      simp only [List.getElem?_cons_zero, Option.some.injEq] at hj
      subst hj
      simpa using h.1
    | succ j =>
      simp only [List.getElem?_cons_succ] at hj
      have := inOrder_get h.2 j p hj
      omega

theorem sp_barr {t el : TypeId} {m n es : Nat} {zs : List AV} {i : TypeInfo} {parts : Array (Nat × Operand)} {xs' : List AX} (hu : P.underlying t = some (.array m el)) (hz : zeroT P t = some (.arr n es zs)) (hx : trXs (parts.toList.map (·.2)) = some xs') (hi : P.info? el = some i)
    (ho1 : inOrder 0 parts.toList = true) (ho2 : parts.size = n) (ho3 : i.size = es) (ho4 : zs.length = n) : SoundP P (.build t parts) (.barr n es xs') := by
  intro σ σ' v hs
  simp only [stepE] at hs
  split at hs
  · rename_i hok
    simp only [Option.some.injEq, Prod.mk.injEq] at hs
    obtain ⟨rfl, rfl⟩ := hs
    refine ⟨rfl, fun oper G w H U a ho hw hr hH => ?_⟩
    obtain ⟨inf, zv, h1, h2, h3, h4⟩ := zeroT_rel hz
    have h1' := RelVs.of_tr (σ := σ) (G := G) (w := w) (a := a) hx fun x x' hx hx' => hr x x' (by simpa [Op.operands] using hx) hx'
    have h2' : RelVs w G.F G.ρ (xs'.map σ.ev) ((parts.toList.map fun p => (p.1, a.eval p.2)).map (·.2)) := by
      rw [List.map_map]; rw [List.map_map] at h1'; exact h1'
    cases (h4 w G.F G.ρ).1 with
    | arr h7 h8 =>
      have hsz : zv.cells.toList.length = n * es := by rw [RelE.size h7, ho4]
      obtain ⟨cs, h5, h6⟩ := fill_slice (k := 0) (pre := []) (post := zv.cells.toList) (parts := parts.toList.map fun p => (p.1, a.eval p.2)) (fun j p hj => by
        rw [List.getElem?_map] at hj
        cases hq : parts.toList[j]? with
        | none => rw [hq] at hj; cases hj
        | some q =>
          rw [hq] at hj
          simp only [Option.map_some, Option.some.injEq] at hj
          subst hj
          exact inOrder_get ho1 j q hq) h2' hok.1 (by simp) (by rw [hsz]; simp [ho2])
      simp only [List.nil_append] at h5
      refine ⟨.agg cs.toArray, ?_, .agg (.arr h6 (by simp [hok.2])) rfl⟩
      simp only [execOp, ho]
      refine run_val ?_
      have e2 : (parts.map fun (x : Nat × Operand) => (x.1, a.eval x.2)).toList = parts.toList.map fun p => (p.1, a.eval p.2) := by simp
      have hz0 : (zeroValue t).run P w = .ok zv w := by simp [zeroValue, typeInfo, h1, h2]
      have hsz2 : (sizeOf el).run P w = .ok es w := by simp [sizeOf, typeInfo, hi, ho3]
      have e3 : zv.cells = (zv.cells.toList).toArray := by simp
      simp only [Instr.build, Sem.run_bind, hz0, Result.andThen, run_underlying hu, hsz2]
      rw [e2, e3, h5]
      simp
  · cases hs

theorem sd_bsl {t e : TypeId} {i : TypeInfo} {z : Value} {len : Nat} {parts : Array (Nat × Operand)} {xs' : List AX} (ht : elemT P t = some (e, i)) (hz : i.zero = some z) (hx : trXs (parts.toList.map (·.2)) = some xs') (ho1 : inOrder 0 parts.toList = true) (ho2 : parts.size = len) (ho3 : len * i.size ≤ 16777216) :
    Sound P (.buildSlice t len parts) (.bsl i.size xs') := by
  intro σ σ' v hs
  obtain ⟨hu, hi⟩ := elemT_inv ht
  simp only [stepE] at hs
  split at hs
  · rename_i hok
    simp only [Option.some.injEq, Prod.mk.injEq] at hs
    obtain ⟨rfl, rfl⟩ := hs
    refine ⟨.same, rfl, fun k hk => by simp [Chg.key] at hk, fun fr oper G w H U a ho hw hf hr hH hU => ?_⟩
    have h1 := RelVs.of_tr (σ := σ) (G := G) (w := w) (a := a) hx fun x x' hx hx' => hr x x' (by simpa [Op.operands] using hx) hx'
    have h2 : RelVs w G.F G.ρ (xs'.map σ.ev) ((parts.toList.map fun p => (p.1, a.eval p.2)).map (·.2)) := by
      rw [List.map_map]; rw [List.map_map] at h1; exact h1
    let init : List Value := ((Array.range (len * i.size)).map ((if len * i.size = 0 then (#[] : Array Value) else z.cells)[· % (if len * i.size = 0 then (#[] : Array Value) else z.cells).size]!)).toList
    have hinit : init.length = len * i.size := by simp [init]
    obtain ⟨cs, h3, h4⟩ := fill_slice (k := 0) (pre := []) (post := init) (parts := parts.toList.map fun p => (p.1, a.eval p.2)) (fun j p hj => by
      rw [List.getElem?_map] at hj
      cases hq : parts.toList[j]? with
      | none => rw [hq] at hj; cases hj
      | some q =>
        rw [hq] at hj
        simp only [Option.map_some, Option.some.injEq] at hj
        subst hj
        exact inOrder_get ho1 j q hq) h2 hok (by simp) (by rw [hinit]; simp [ho2])
    simp only [List.nil_append] at h3
    have hrun : (execOp a.eval oper).run P w = .ok (.value (.slice (some ⟨w.heap.size, 0, none⟩) len len)) (w.alloc (.cells cs.toArray e)) := by
      simp only [execOp, ho]
      refine run_val ?_
      have hbig : ¬ len * i.size > 2 ^ 24 := by omega
      have e2 : (parts.map fun (x : Nat × Operand) => (x.1, a.eval x.2)).toList = parts.toList.map fun p => (p.1, a.eval p.2) := by simp
      have hinit2 : init.toArray = (Array.range (len * i.size)).map ((if len * i.size = 0 then (#[] : Array Value) else z.cells)[· % (if len * i.size = 0 then (#[] : Array Value) else z.cells).size]!) := by
        simp only [init, Array.toArray_toList]
      have hsz : (sizeOf e).run P w = .ok i.size w := by simp [sizeOf, typeInfo, hi]
      have hzv : (zeroValue e).run P w = .ok z w := by simp [zeroValue, typeInfo, hi, hz]
      by_cases h0 : len * i.size = 0
      · simp only [if_pos h0] at hinit2
        simp only [Instr.buildSlice, Sem.run_bind, run_underlying hu, hsz, Result.andThen, if_neg hbig, Sem.run_pure, if_pos h0]
        rw [e2, ← hinit2, h3]
        simp [newRow, newObj, Sem.run]
      · simp only [if_neg h0] at hinit2
        simp only [Instr.buildSlice, Sem.run_bind, run_underlying hu, hsz, Result.andThen, if_neg hbig, Sem.run_pure, if_neg h0, hzv]
        rw [e2, ← hinit2, h3]
        simp [newRow, newObj, Sem.run]
    have h5 := Nxt.frozen hw hf (pushed_alloc w (.cells cs.toArray e))
    have hlen : (xs'.map σ.ev).length = len := by
      have e1 : ∀ {ts : List AV} {vs : List Value}, RelVs w G.F G.ρ ts vs → ts.length = vs.length := by
        intro ts vs h
        induction ts generalizing vs with
        | nil => cases h; rfl
        | cons t ts ih => cases h with | cons _ h => simp [ih h]
      rw [e1 h1]; simp [ho2]
    refine ⟨_, _, ⟨G.ρ, fun b => G.F b ∨ b = w.heap.size⟩, .inl hrun, ?_, ?_⟩
    · have e3 : (fun j => U j ∧ (Chg.same.isNew = true → j ≠ σ.n)) = U := by funext j; simp [Chg.isNew]
      rw [e3]; exact h5
    · refine .one ?_ rfl
      rw [← hlen]
      have hx := (pushed_alloc w (.cells cs.toArray e)).ext G.F hw.fsz
      refine .fro (b := w.heap.size) (o := 0) (h4.mono hx (fun _ h => .inl h)) (fun j v hj => ?_) (.inr rfl) (fun _ => rfl) (Nat.le_refl _)
      rw [World.cell?, (pushed_alloc w (.cells cs.toArray e)).new]
      simpa using hj
  · cases hs

theorem rowed_setRow {w : World} {b : Nat} {cur cs : Array Value} {e : TypeId} (hb : w.heap[b]? = some (Obj.cells cur e (0, 0))) (hs : cs.size = cur.size) : Rowed w (w.setRow b cs) b cur cs e :=
  ⟨hb, setRow_heap w b cur cs e _ hb, fun k hk => setRow_other w b k cs hk, hs, by simp [World.setRow], rfl, rfl, rfl⟩

theorem rowed_self {w : World} {b : Nat} {cur : Array Value} {e : TypeId} (hb : w.heap[b]? = some (Obj.cells cur e (0, 0))) : Rowed w w b cur cur e :=
  ⟨hb, hb, fun k hk => rfl, rfl, rfl, rfl, rfl, rfl⟩

theorem reads_cur {w : World} {b o : Nat} {cs : List Value} {cur : Array Value} {e : TypeId} (h : Reads w b o cs) (hb : w.heap[b]? = some (Obj.cells cur e (0, 0))) : ∀ (j : Nat) (v : Value), cs[j]? = some v → cur[o + j]? = some v := by
  intro j v hj
  have := h j v hj
  simpa [World.cell?, hb] using this

/-- Cells laid over a row: what is read there. -/
theorem laid_reads {cur : Array Value} {o : Nat} {pre mid new post : List Value} (h : ∀ (j : Nat) (v : Value), (pre ++ (mid ++ post))[j]? = some v → cur[o + j]? = some v) (hl : new.length = mid.length) (hb : o + pre.length + new.length ≤ cur.size) :
    ∀ (j : Nat) (v : Value), (pre ++ (new ++ post))[j]? = some v → (cur.toList.take (o + pre.length) ++ new ++ cur.toList.drop (o + pre.length + new.length)).toArray[o + j]? = some v := by
  intro j v hj
  have hlen : (cur.toList.take (o + pre.length)).length = o + pre.length := by simp; omega
  simp only [List.getElem?_toArray, List.append_assoc]
  by_cases h1 : j < pre.length
  · rw [List.getElem?_append_left (by omega), List.getElem?_take, if_pos (by omega)]
    rw [List.getElem?_append_left h1] at hj
    have := h j v (by rw [List.getElem?_append_left h1]; exact hj)
    simpa using this
  · rw [List.getElem?_append_right (by omega), hlen]
    rw [List.getElem?_append_right (by omega)] at hj
    have e1 : o + j - (o + pre.length) = j - pre.length := by omega
    rw [e1]
    by_cases h2 : j - pre.length < new.length
    · rw [List.getElem?_append_left h2] at hj ⊢
      exact hj
    · rw [List.getElem?_append_right (by omega)] at hj ⊢
      have := h j v (by rw [List.getElem?_append_right (by omega), List.getElem?_append_right (by omega), ← hl]; exact hj)
      rw [List.getElem?_drop]
      have e2 : o + pre.length + new.length + (j - pre.length - new.length) = o + j := by omega
      rw [e2]
      simpa using this

theorem sd_store {t : TypeId} {n : Nat} {x v : Operand} {x' v' : AX} (hn : szT P t = some n) (hn0 : n ≠ 0) (hx : trX x = some x') (hv : trX v = some v') : Sound P (.store t x v) (.store n x' v') := by
  intro σ σ' r hs
  simp only [stepE] at hs
  split at hs
  · rename_i id path off hxe
    split at hs
    · rename_i t0 ht0
      split at hs
      · rename_i o u t' hat hset
        split at hs
        · rename_i hc
          obtain ⟨rfl, hun, hvn, hst⟩ := hc
          simp only [Option.some.injEq, Prod.mk.injEq] at hs
          obtain ⟨rfl, rfl⟩ := hs
          refine ⟨.put id t', rfl, fun k hk => by simp only [Chg.key, Option.some.injEq] at hk; subst hk; simp [ht0], fun fr oper G w H U a ho hw hf hr hH hU => ?_⟩
          have hx1 := hr x x' (by simp [Op.operands]) hx
          rw [hxe] at hx1
          obtain ⟨b, ob, hρ, hxv⟩ := hx1.ptr_inv
          have hvr := (hr v v' (by simp [Op.operands]) hv).cells hst
          obtain ⟨cs, cur, e, h2, h3, h4, h5⟩ := hw.place hρ (hH _ _ ht0)
          obtain ⟨pre, mid, post, rfl, hp, hm, hm2⟩ := h2.at path hat
          have hlen : (a.eval v).cells.toList.length = mid.length := by rw [hvr.size, hvn, hm.size, hun]
          have hmn : mid.length = n := by rw [hm.size, hun]
          have h6 := hm2 _ _ _ hset hvr hlen
          have hbd := h4.bound h3 (by intro h0; simp only [List.append_eq_nil_iff] at h0; rw [h0.2.1] at hmn; exact hn0 hmn.symm)
          simp only [List.length_append] at hbd
          have hfit : ob + pre.length + (a.eval v).cells.toList.length ≤ cur.size := by omega
          have hst2 := run_storeCells_at P b (ob + pre.length) e (a.eval v).cells.toList 0 cur w h3 (by simpa using hfit) hvr.ones
          simp only [Nat.add_zero] at hst2
          obtain ⟨i, hi, hisz⟩ := szT_info hn
          have hsz : (sizeOf t).run P w = .ok n w := by simp [sizeOf, typeInfo, hi, hisz]
          have hcsz : (a.eval v).cells.size = n := by rw [← hmn, ← hlen]; simp
          have hrun : (execOp a.eval oper).run P w = .ok .skip (w.setRow b (cur.toList.take (ob + pre.length) ++ (a.eval v).cells.toList ++ cur.toList.drop (ob + pre.length + (a.eval v).cells.toList.length)).toArray) := by
            simp only [execOp, ho, Instr.storeAt, hxv, Instr.sureAddr, storeVar, Sem.run_bind, Sem.run_pure, Result.andThen, hsz, hcsz, ne_eq, not_true_eq_false, if_false, ← hp, hst2]
          have h7 := Nxt.rewrite hw hf (hH _ _ ht0) hρ (rowed_setRow h3 (cs := (cur.toList.take (ob + pre.length) ++ (a.eval v).cells.toList ++ cur.toList.drop (ob + pre.length + (a.eval v).cells.toList.length)).toArray)
            (by simp only [List.size_toArray, List.length_append, List.length_take, List.length_drop, Array.length_toList] at hfit ⊢; omega)) (i := id) (o' := ob) (.inl ⟨rfl, rfl⟩) h6 (laid_reads (reads_cur h4 h3) hlen hfit) (U' := fun j => U j ∧ ((Chg.put id t').isNew = true → j ≠ σ.n))
            (fun j hj => ⟨hj.1, fun hji => by subst hji; have := (hw.free j hj.1).1; rw [hH _ _ ht0] at this; cases this⟩)
          exact ⟨_, _, _, .inr ⟨hrun, rfl⟩, h7, .tup .nil⟩
        · cases hs
      · cases hs
    · cases hs
  · cases hs

theorem flat_get {cs : List Value} : ∀ (n j : Nat), j < n * cs.length → (List.replicate n cs).flatten[j]? = cs[j % cs.length]?
  | 0, j, h => by simp at h
  | n + 1, j, h => by
    rw [List.replicate_succ, List.flatten_cons]
    by_cases hj : j < cs.length
    · rw [List.getElem?_append_left hj, Nat.mod_eq_of_lt hj]
    · rw [List.getElem?_append_right (by omega), flat_get n (j - cs.length) (by rw [Nat.add_mul, Nat.one_mul] at h; omega), Nat.mod_eq_sub_mod (a := j) (b := cs.length) (by omega)]

theorem RelE.replicate {w : World} {F : Nat → Prop} {es : Nat} {z : AV} {cs : List Value} (h : RelC w F noIds z cs) (hs : cs.length = es) : ∀ n, RelE w F es (List.replicate n z) (List.replicate n cs).flatten
  | 0 => by simp; exact .nil
  | n + 1 => by rw [List.replicate_succ, List.replicate_succ, List.flatten_cons]; exact .cons h hs (RelE.replicate h hs n)

theorem made_reads {z : Value} {n : Nat} : ∀ (j : Nat) (v : Value), (List.replicate n z.cells.toList).flatten[j]? = some v → (madeCells z.cells (n * z.cells.size))[j]? = some v := by
  intro j v hj
  have hlt : j < n * z.cells.size := by
    have := (List.getElem?_eq_some_iff.1 hj).1
    simpa [List.length_flatten] using this
  rw [flat_get n j (by simpa using hlt)] at hj
  have hpos : 0 < z.cells.size := by
    rcases Nat.eq_zero_or_pos z.cells.size with h0 | h0
    · rw [h0] at hlt; simp at hlt
    · exact h0
  simp only [madeCells, Array.getElem?_map]
  rw [Array.getElem?_eq_getElem (by simpa using hlt)]
  simp only [Array.getElem_range, Option.map_some]
  have h3 : j % z.cells.size < z.cells.size := Nat.mod_lt _ hpos
  simp only [Array.length_toList, Array.getElem?_toList] at hj
  rw [Array.getElem?_eq_getElem h3] at hj
  rw [getElem!_pos z.cells _ h3]
  exact hj

theorem sd_mks {t e : TypeId} {i : TypeInfo} {z : AV} {l c : Operand} {l' : AX} (ht : elemT P t = some (e, i)) (hz : zeroT P e = some z) (hl : trX l = some l') (hsl : sameLen l c = true) (hzs : z.size = i.size) : Sound P (.makeSlice t l c) (.mks i.size i.bytes z l') := by
  intro σ σ' v hs
  simp only [stepE] at hs
  split at hs
  · rename_i n hn
    split at hs
    · rename_i hc
      obtain ⟨hc1, hc3, hc2⟩ := hc
      simp only [Option.some.injEq, Prod.mk.injEq] at hs
      obtain ⟨rfl, rfl⟩ := hs
      refine ⟨.new (.arr n.toNat i.size (List.replicate n.toNat z)), rfl, fun k hk => by simp [Chg.key] at hk, fun fr oper G w H U a ho hw hf hr hH hU => ?_⟩
      obtain ⟨hu, hi⟩ := elemT_inv ht
      obtain ⟨i2, zv, h1, h2, h3, h4⟩ := zeroT_rel hz
      rw [hi] at h1
      simp only [Option.some.injEq] at h1
      subst h1
      have hlv := hr l l' (by simp [Op.operands]) hl
      obtain ⟨k, hle⟩ := asI_inv hn hlv
      have hce : ∃ kc, a.eval c = .int kc n := by
        unfold sameLen at hsl
        split at hsl
        · simp only [decide_eq_true_eq] at hsl
          subst hsl
          exact ⟨_, hle⟩
        · simp only [Bool.and_eq_true, decide_eq_true_eq] at hsl
          obtain ⟨⟨rfl, rfl⟩, rfl⟩ := hsl
          exact ⟨_, hle⟩
        · cases hsl
      obtain ⟨kc, hce⟩ := hce
      have hb1 : (i.bytes : Int) * n ≤ 281474976710656 := by
        have e2 : (i.bytes : Int) * n = ((n.toNat * i.bytes : Nat) : Int) := by
          rw [Int.natCast_mul, Int.mul_comm, Int.toNat_of_nonneg hc1]
        rw [e2]; omega
      have hb2 : n ≤ 9223372036854775807 := by
        have : n.toNat * 1 ≤ n.toNat * i.bytes := Nat.mul_le_mul_left _ (by omega)
        omega
      have hrun0 := run_make (P := P) w t e i zv hu hi h2 k kc n n hc1 (Int.le_refl _) hb1 hb2
      have hrun : (execOp a.eval oper).run P w = .ok (.value (.slice (some ⟨w.heap.size, 0, none⟩) n.toNat n.toNat)) (w.alloc (.cells (madeCells zv.cells (n.toNat * i.size)) e)) := by
        simp only [execOp, ho, hle, hce]
        exact run_val hrun0
      have hzc : zv.cells.toList.length = i.size := by rw [((h4 w G.F noIds).1).size, hzs]
      have hzc' : zv.cells.size = i.size := by simpa using hzc
      have h5 := Nxt.own hw hf (pushed_alloc w (.cells (madeCells zv.cells (n.toNat * i.size)) e)) (hU rfl) (t := .arr n.toNat i.size (List.replicate n.toNat z)) (cs := (List.replicate n.toNat zv.cells.toList).flatten)
        (.arr (RelE.replicate (h4 w G.F noIds).1 hzc _) (by simp)) (by rw [← hzc']; exact made_reads) (U' := fun j => U j ∧ ((Chg.new (.arr n.toNat i.size (List.replicate n.toNat z))).isNew = true → j ≠ σ.n)) (fun j hj => ⟨hj.1, hj.2 rfl⟩)
      refine ⟨_, _, _, .inl hrun, h5, .one (.sl (b := w.heap.size) (o := 0) (upd_self _ _ _) (Nat.le_refl _) (pushed_alloc w _).new ?_) rfl⟩
      rw [size_madeCells]; omega
    · cases hs
  · cases hs

theorem upd_same {α : Type} (f : Nat → Option α) {k : Nat} {t : α} (h : f k = some t) : upd (upd f k none) k (some t) = f := by
  funext j
  by_cases hj : j = k
  · subst hj; rw [upd_self, h]
  · rw [upd_ne _ _ hj, upd_ne _ _ hj]

theorem run_copyAny {w : World} {dT sT ty e : TypeId} {i : TypeInfo} (hu : P.underlying dT = some (.slice e)) (hi : P.info? e = some i) {b o dLen dCap : Nat} {a : Option Addr} {sLen sCap : Nat} {cur : Array Value} {t : TypeId} {cs : List Value}
    (hg : w.heap[b]? = some (.cells cur t (0, 0))) (hn : cs.length = Nat.min sLen dLen * i.size) (hsrc : Nat.min sLen dLen = 0 ∨ ∃ b' o', a = some ⟨b', o', none⟩ ∧ Reads w b' o' cs) (hfit : o + cs.length ≤ cur.size) (h1 : ∀ v ∈ cs, v.oneCell' = true) :
    (Builtin.copy_ #[dT, sT] ty #[.slice (some ⟨b, o, none⟩) dLen dCap, .slice a sLen sCap]).run P w =
      .ok (goInt (Nat.min sLen dLen : Nat)) (w.setRow b (cur.toList.take o ++ cs ++ cur.toList.drop (o + cs.length)).toArray) := by
  have hs := run_storeCells_at P b o t cs 0 cur w hg (by simpa using hfit) h1
  simp only [Nat.add_zero] at hs
  have hf : (Builtin.firstCells i.size (Nat.min sLen dLen) (.slice a sLen sCap)).run P w = .ok cs.toArray w := by
    rcases hsrc with h0 | ⟨b', o', rfl, hr⟩
    · rw [h0] at hn ⊢
      have : cs = [] := List.eq_nil_of_length_eq_zero (by simpa using hn)
      subst this
      cases a with
      | none => simp [Builtin.firstCells]
      | some a => simp [Builtin.firstCells, loadCells, loadCellsFrom]
    · exact run_firstCells_some (P := P) w i.size _ ⟨b', o', none⟩ sLen sCap cs hn (fun j v hj => by rw [add_lit]; exact hr j v hj)
  simp only [Builtin.copy_, Sem.run_bind, run_underlying hu, Result.andThen, Builtin.lenOf, Sem.run_pure, sizeOf, typeInfo, hi, hf, hs, List.getElem?_toArray]
  simp [hf, hs, hi, sizeOf, typeInfo, run_underlying hu, Builtin.lenOf]

theorem run_copy0 {w : World} {dT sT ty e : TypeId} {i : TypeInfo} (hu : P.underlying dT = some (.slice e)) (hi : P.info? e = some i) {dLen dCap : Nat} {d a : Option Addr} {sLen sCap : Nat} (hn : Nat.min sLen dLen = 0) :
    (Builtin.copy_ #[dT, sT] ty #[.slice d dLen dCap, .slice a sLen sCap]).run P w = .ok (goInt (Nat.min sLen dLen : Nat)) w := by
  rw [hn]
  cases a <;> cases d <;> simp [Builtin.copy_, run_underlying hu, Builtin.lenOf, sizeOf, typeInfo, hi, hn, Builtin.firstCells, loadCells, loadCellsFrom, storeCells]

theorem sd_copy {dT sT e e' : TypeId} {i i' : TypeInfo} {c : Call} {x y : Operand} {x' y' : AX} (hc : c.callee = .builtin .copy) (ha : c.args = #[x, y]) (hat : c.argTypes = #[dT, sT]) (ht : elemT P dT = some (e, i)) (ht' : elemT P sT = some (e', i')) (hsz : i'.size = i.size)
    (hx : trX x = some x') (hy : trX y = some y') : Sound P (.call c) (.copy i.size x' y') := by
  intro σ σ' v hs
  simp only [stepE] at hs
  obtain ⟨hu, hi⟩ := elemT_inv ht
  split at hs
  · rename_i id off k len es' xs hxe hrow
    split at hs
    · rename_i n es'' ts ht0
      split at hs
      · rename_i hcnd
        obtain ⟨rfl, rfl, rfl, rfl, rfl⟩ := hcnd
        simp only [Option.some.injEq, Prod.mk.injEq] at hs
        obtain ⟨rfl, rfl⟩ := hs
        refine ⟨.put id (.arr n i.size (xs.take ts.length ++ ts.drop xs.length)), rfl, fun k hk => by simp only [Chg.key, Option.some.injEq] at hk; subst hk; simp [ht0], fun fr oper G w H U a ho hw hf hr hH hU => ?_⟩
        have hx1 := hr x x' (by simp [Op.operands, Call.operands, hc, ha]) hx
        have hy1 := hr y y' (by simp [Op.operands, Call.operands, hc, ha]) hy
        rw [hxe] at hx1
        obtain ⟨ad, cap, hxv, hcap, h3⟩ := hx1.sl_inv
        obtain ⟨ad2, cap2, hyv, hcap2, h6⟩ := row_rel hw hH hrow hy1
        have hgo : ∀ u w', (Builtin.copy_ #[dT, sT] oper.type #[a.eval x, a.eval y]).run P w = .ok u w' → (execOp a.eval oper).run P w = .ok (.value u) w' := fun u w' h => by
          simp [execOp, ho, resolve, hc, ha, hat, invoke, builtin, h]
        have hU' : (fun j => U j ∧ ((Chg.put id (.arr n i.size (xs.take ts.length ++ ts.drop xs.length))).isNew = true → j ≠ σ.n)) = U := by funext j; simp [Chg.isNew]
        by_cases h0 : Nat.min xs.length ts.length = 0
        · have hrun := run_copy0 (P := P) (w := w) (dT := dT) (sT := sT) (ty := oper.type) hu hi (dLen := ts.length) (dCap := cap) (sLen := xs.length) (sCap := cap2) (d := ad) (a := ad2) h0
          have hsame : xs.take ts.length ++ ts.drop xs.length = ts := by
            rcases Nat.min_eq_zero_iff.1 h0 with h | h
            · rw [List.eq_nil_of_length_eq_zero h]; simp
            · rw [List.eq_nil_of_length_eq_zero h]; simp
          have h7 := Nxt.same hw hf (SameHeap.refl w)
          refine ⟨_, _, G, .inl (hgo _ _ (by rw [hxv, hyv]; exact hrun)), ?_, .one (.sc rfl) rfl⟩
          rw [hU', hsame]
          simp only [Chg.H]
          rw [upd_same H (hH _ _ ht0)]
          exact h7
        · have hts : ts.length ≠ 0 := fun h => h0 (Nat.min_eq_zero_iff.2 (.inr h))
          have hxs : xs.length ≠ 0 := fun h => h0 (Nat.min_eq_zero_iff.2 (.inl h))
          rcases h3 with ⟨h3, _⟩ | ⟨b, o, cur, e2, h3, hρ, hheap, hfit⟩
          · exact absurd h3 hts
          rcases h6 with h6 | ⟨b2, o2, cs2, h6, hrel2, hrd2⟩
          · subst h6; exact absurd rfl hxs
          obtain ⟨cs, cur1, e1, hrel, hheap1, hrd, hnF⟩ := hw.place hρ (hH _ _ ht0)
          rw [hheap] at hheap1
          simp only [Option.some.injEq, Obj.cells.injEq, and_true] at hheap1
          obtain ⟨rfl, rfl⟩ := hheap1
          cases hrel with
          | arr hrel hn =>
            have hm1 : Nat.min xs.length ts.length ≤ xs.length := Nat.min_le_left _ _
            have hm2 : Nat.min xs.length ts.length ≤ ts.length := Nat.min_le_right _ _
            generalize hm : Nat.min xs.length ts.length = m at *
            have hl2 := hrel2.size
            have hl1 := hrel.size
            have hmul1 : m * i.size ≤ xs.length * i.size := Nat.mul_le_mul_right _ hm1
            have hmul2 : m * i.size ≤ ts.length * i.size := Nat.mul_le_mul_right _ hm2
            have hmul3 : ts.length * i.size ≤ cap * i.size := Nat.mul_le_mul_right _ hcap
            have hnew := hrel2.take m
            have hlen : (cs2.take (m * i.size)).length = m * i.size := by simp; omega
            have hrun := run_copyAny (P := P) (w := w) (dT := dT) (sT := sT) (ty := oper.type) hu hi (b := b) (o := o) (dLen := ts.length) (dCap := cap) (a := ad2) (sLen := xs.length) (sCap := cap2) hheap (cs := cs2.take (m * i.size)) (by rw [hm]; exact hlen)
              (.inr ⟨b2, o2, h6, hrd2.take _⟩) (by omega) hnew.ones
            have hR := rowed_setRow hheap (cs := (cur.toList.take o ++ cs2.take (m * i.size) ++ cur.toList.drop (o + (cs2.take (m * i.size)).length)).toArray) (by
              simp only [List.size_toArray, List.length_append, List.length_take, List.length_drop, Array.length_toList] at hlen ⊢; omega)
            have e3 : cs = [] ++ (cs.take (m * i.size) ++ cs.drop (m * i.size)) := by simp
            have hcell := laid_reads (cur := cur) (o := o) (pre := []) (mid := cs.take (m * i.size)) (new := cs2.take (m * i.size)) (post := cs.drop (m * i.size)) (by rw [← e3]; exact reads_cur hrd hheap) (by rw [hlen]; simp; omega) (by simp only [List.length_nil]; omega)
            have e4 : xs.take ts.length ++ ts.drop xs.length = xs.take m ++ ts.drop m := by
              rcases Nat.le_total xs.length ts.length with h | h
              · have : m = xs.length := by rw [← hm]; exact Nat.min_eq_left h
                rw [this, List.take_of_length_le h, List.take_of_length_le (Nat.le_refl _)]
              · have : m = ts.length := by rw [← hm]; exact Nat.min_eq_right h
                rw [this, List.drop_of_length_le h, List.drop_of_length_le (Nat.le_refl _)]
            have hC : RelC w G.F G.ρ (.arr n i.size (xs.take ts.length ++ ts.drop xs.length)) ([] ++ (cs2.take (m * i.size) ++ cs.drop (m * i.size))) := by
              rw [e4]
              refine .arr (hnew.append (hrel.drop m)) ?_
              simp; omega
            have h7 := Nxt.rewrite hw hf (hH _ _ ht0) hρ hR (i := id) (o' := o) (.inl ⟨rfl, rfl⟩) hC (by simpa using hcell) (U' := fun j => U j ∧ ((Chg.put id (.arr n i.size (xs.take ts.length ++ ts.drop xs.length))).isNew = true → j ≠ σ.n))
              (fun j hj => ⟨hj.1, fun hji => by subst hji; have := (hw.free j hj.1).1; rw [hH _ _ ht0] at this; cases this⟩)
            refine ⟨_, _, _, .inl (hgo _ _ (by rw [hxv, hyv, h3]; exact hrun)), h7, ?_⟩
            rw [hm]
            exact .one (.sc rfl) rfl
      · cases hs
    · cases hs
  · cases hs

theorem run_app0 {w : World} {t ty e : TypeId} {i : TypeInfo} (hu : P.underlying t = some (.slice e)) (hi : P.info? e = some i) {s a : Option Addr} {n cap c : Nat} (hn : n ≤ cap) :
    (Builtin.append_ #[t, t] ty #[.slice s n cap, .slice a 0 c]).run P w = .ok (.slice s n cap) w := by
  cases a <;> cases s <;> simp [Builtin.append_, run_underlying hu, sizeOf, typeInfo, hi, Builtin.lenOf, hn, Builtin.firstCells, loadCells, loadCellsFrom, storeCells]

theorem run_appRoom {w : World} {t ty e : TypeId} {i : TypeInfo} (hu : P.underlying t = some (.slice e)) (hi : P.info? e = some i) {b o sLen sCap : Nat} {cur : Array Value} {e2 : TypeId} (hg : w.heap[b]? = some (.cells cur e2 (0, 0)))
    {b2 o2 m c : Nat} {news : List Value} (hl : news.length = m * i.size) (hr : Reads w b2 o2 news) (h1 : ∀ u ∈ news, u.oneCell' = true) (hroom : sLen + m ≤ sCap) (hfit : o + sLen * i.size + news.length ≤ cur.size) :
    (Builtin.append_ #[t, t] ty #[.slice (some ⟨b, o, none⟩) sLen sCap, .slice (some ⟨b2, o2, none⟩) m c]).run P w =
      .ok (.slice (some ⟨b, o, none⟩) (sLen + m) sCap) (w.setRow b (cur.toList.take (o + sLen * i.size) ++ news ++ cur.toList.drop (o + sLen * i.size + news.length)).toArray) := by
  have hf := run_firstCells_some (P := P) w i.size m ⟨b2, o2, none⟩ m c news hl (fun j v hj => by rw [add_lit]; exact hr j v hj)
  have hst := run_storeCells_at P b (o + sLen * i.size) e2 news 0 cur w hg (by simpa using hfit) h1
  simp only [Nat.add_zero] at hst
  simp [Builtin.append_, run_underlying hu, sizeOf, typeInfo, hi, Builtin.lenOf, hroom, hf, add_lit, hst]

theorem run_appGrow {w : World} {t ty e : TypeId} {i : TypeInfo} {z : Value} (hu : P.underlying t = some (.slice e)) (hi : P.info? e = some i) (hz : i.zero = some z) (hzs : z.cells.size = i.size) {ad : Option Addr} {sLen sCap : Nat} {olds : List Value} (hlo : olds.length = sLen * i.size)
    (hold : (sLen = 0 ∧ sCap = 0) ∨ ∃ b o, ad = some ⟨b, o, none⟩ ∧ Reads w b o olds) {b2 o2 m c : Nat} {news : List Value} (hl : news.length = m * i.size) (hr : Reads w b2 o2 news) (hm : m ≠ 0) (hg : sCap < sLen + m) (hb0 : 0 < i.bytes) (hby1 : (sLen + m) * i.bytes ≤ 140737488355328) :
    ∃ cap' cur', (Builtin.append_ #[t, t] ty #[.slice ad sLen sCap, .slice (some ⟨b2, o2, none⟩) m c]).run P w = .ok (.slice (some ⟨w.heap.size, 0, none⟩) (sLen + m) cap') (w.drew.alloc (.cells cur' e)) ∧
      sLen + m ≤ cap' ∧ cur'.size = cap' * i.size ∧ ∀ (j : Nat) (v : Value), (olds ++ news)[j]? = some v → cur'[j]? = some v := by
  have hby2 : (sLen + m) * 1 ≤ (sLen + m) * i.bytes := Nat.mul_le_mul_left _ hb0
  have hread : ∀ j v, news[j]? = some v → w.cell? ((⟨b2, o2, none⟩ : Addr).add j) = some v := fun j v hj => by rw [add_lit]; exact hr j v hj
  have hge := grownCap_ge w (sLen + m) sCap e
  have hsz : (olds.toArray ++ news.toArray ++ Builtin.zeroCells z.cells (grownCap w (sLen + m) sCap e - (sLen + m))).size = grownCap w (sLen + m) sCap e * i.size := by
    simp only [Array.size_append, List.size_toArray, size_zeroCells, hzs, hlo, hl, ← Nat.add_mul]
    congr 1
    omega
  have hcells : ∀ (j : Nat) (v : Value), (olds ++ news)[j]? = some v → (olds.toArray ++ news.toArray ++ Builtin.zeroCells z.cells (grownCap w (sLen + m) sCap e - (sLen + m)))[j]? = some v := by
    intro j v hj
    have hlt := (List.getElem?_eq_some_iff.1 hj).1
    have h1 : (olds.toArray ++ news.toArray ++ Builtin.zeroCells z.cells (grownCap w (sLen + m) sCap e - (sLen + m)))[j]? = (olds.toArray ++ news.toArray)[j]? := Array.getElem?_append_left (by simpa using hlt)
    rw [h1]
    simpa using hj
  have hgrow : ∀ b o, ad = some ⟨b, o, none⟩ → (∀ j v, olds[j]? = some v → w.cell? ((⟨b, o, none⟩ : Addr).add j) = some v) → ∃ cap' cur', (Builtin.append_ #[t, t] ty #[.slice ad sLen sCap, .slice (some ⟨b2, o2, none⟩) m c]).run P w = .ok (.slice (some ⟨w.heap.size, 0, none⟩) (sLen + m) cap') (w.drew.alloc (.cells cur' e)) ∧
      sLen + m ≤ cap' ∧ cur'.size = cap' * i.size ∧ ∀ (j : Nat) (v : Value), (olds ++ news)[j]? = some v → cur'[j]? = some v := fun b o had hro => by
    subst had
    have hrun := run_append_grow (P := P) w t ty e i z hu hi hz ⟨b, o, none⟩ sLen sCap olds hlo hro ⟨b2, o2, none⟩ m c news hl hread hg (by omega) (growslice_fits (by omega) (by omega))
    exact ⟨_, _, hrun, hge, hsz, hcells⟩
  rcases hold with ⟨rfl, rfl⟩ | ⟨b, o, had, hro⟩
  · have h0 : olds = [] := List.eq_nil_of_length_eq_zero (by simpa using hlo)
    subst h0
    cases ad with
    | none =>
      have hb0' : m * i.bytes ≤ 140737488355328 := by simpa using hby1
      have hrun := run_append_nil (P := P) w t ty e i z hu hi hz ⟨b2, o2, none⟩ m c news hl hread (by omega) (by omega) (by omega)
      simp only [Nat.zero_add, List.nil_append] at hge hsz hcells ⊢
      refine ⟨_, _, hrun, hge, ?_, ?_⟩
      · simpa using hsz
      · simpa using hcells
    | some ad =>
      obtain ⟨b, o, f⟩ := ad
      have hrun := run_append_grow (P := P) w t ty e i z hu hi hz ⟨b, o, f⟩ 0 0 [] hlo (by simp) ⟨b2, o2, none⟩ m c news hl hread hg (by omega) (growslice_fits (by omega) (by omega))
      exact ⟨_, _, hrun, hge, hsz, hcells⟩
  · exact hgrow b o had (fun j v hj => by rw [add_lit]; exact hro j v hj)

theorem laid_end {cur : Array Value} {o : Nat} {pre new : List Value} (h : ∀ (j : Nat) (v : Value), pre[j]? = some v → cur[o + j]? = some v) (hb : o + pre.length + new.length ≤ cur.size) :
    ∀ (j : Nat) (v : Value), (pre ++ new)[j]? = some v → (cur.toList.take (o + pre.length) ++ new ++ cur.toList.drop (o + pre.length + new.length)).toArray[o + j]? = some v := by
  intro j v hj
  have hlen : (cur.toList.take (o + pre.length)).length = o + pre.length := by simp; omega
  simp only [List.getElem?_toArray, List.append_assoc]
  by_cases h1 : j < pre.length
  · rw [List.getElem?_append_left (by omega), List.getElem?_take, if_pos (by omega)]
    rw [List.getElem?_append_left h1] at hj
    simpa using h j v hj
  · rw [List.getElem?_append_right (by omega), hlen]
    rw [List.getElem?_append_right (by omega)] at hj
    have hlt := (List.getElem?_eq_some_iff.1 hj).1
    rw [List.getElem?_append_left (by omega)]
    have e1 : o + j - (o + pre.length) = j - pre.length := by omega
    rw [e1]; exact hj

/-- A row laid anew, under a new name. -/
theorem app_own {fr : Fr} {G : Gh} {w : World} {H : Nat → Option AV} {U U' : Nat → Prop} (hw : Wf G w H U) (hf : FrOk fr G w H) {i n es cap : Nat} {e : TypeId} {cur : Array Value} {ts : List AV} {cs : List Value} {r : Result Next} (hU : U i)
    (hrun : r = .ok (.value (.slice (some ⟨w.heap.size, 0, none⟩) n cap)) (w.drew.alloc (.cells cur e))) (hts : ts.length = n) (hrel : RelE w G.F es ts cs) (hcap : n ≤ cap) (hsz : cur.size = cap * es) (hc : ∀ (j : Nat) (v : Value), cs[j]? = some v → cur[j]? = some v) (hU' : ∀ j, U' j → U j ∧ j ≠ i) :
    Goes fr G w r (.sl i [] 0 0 n es) (upd H i (some (.arr n es ts))) U' := by
  have h1 := Nxt.own hw hf (pushed_drew w (.cells cur e)) hU (t := .arr n es ts) (cs := cs) (.arr hrel hts) hc hU'
  refine ⟨_, _, _, .inl hrun, h1, .one (.sl (b := w.heap.size) (o := 0) (upd_self _ _ _) hcap (pushed_drew w _).new ?_) rfl⟩
  rw [hsz]; omega

theorem sd_app {t e : TypeId} {i : TypeInfo} {z : Value} {c : Call} {s x : Operand} {s' x' : AX} (hc : c.callee = .builtin .append) (ha : c.args = #[s, x]) (hat : c.argTypes = #[t, t]) (ht : elemT P t = some (e, i)) (hz : i.zero = some z) (hzs : z.cells.size = i.size) (hs' : trX s = some s') (hx : trX x = some x') :
    Sound P (.call c) (.app i.size i.bytes s' x') := by
  intro σ σ' v hs
  obtain ⟨hu, hi⟩ := elemT_inv ht
  simp only [stepE] at hs
  split at hs
  · rename_i xs hrow
    have hgo : ∀ (oper : Oper) (a : Act) (w : World) u w', oper.op = .call c → (Builtin.append_ #[t, t] oper.type #[a.eval s, a.eval x]).run P w = .ok u w' → (execOp a.eval oper).run P w = .ok (.value u) w' := fun oper a w u w' ho h => by
      simp [execOp, ho, resolve, hc, ha, hat, invoke, builtin, h]
    unfold appA at hs
    split at hs
    · rename_i es' ts hse
      split at hs
      · rename_i hcnd
        obtain ⟨hes, hne, hb0, hby⟩ := hcnd
        simp only [Option.some.injEq, Prod.mk.injEq] at hs
        obtain ⟨rfl, rfl⟩ := hs
        refine ⟨.new (.arr (ts.length + xs.length) i.size (ts ++ xs)), rfl, fun k hk => by simp [Chg.key] at hk, fun fr oper G w H U a ho hw hf hr hH hU => ?_⟩
        have hs1 := hr s s' (by simp [Op.operands, Call.operands, hc, ha]) hs'
        have hx1 := hr x x' (by simp [Op.operands, Call.operands, hc, ha]) hx
        rw [hse] at hs1
        obtain ⟨ad, cap, hsv, hcap, hxt, h3⟩ := hs1.fro_inv
        have hcap' := hxt rfl
        subst hcap'
        obtain ⟨ad2, cap2, hxv, hcap2, h6⟩ := row_rel hw hH hrow hx1
        have hU2 : ∀ j, (U j ∧ ((Chg.new (.arr (ts.length + xs.length) i.size (ts ++ xs))).isNew = true → j ≠ σ.n)) → U j ∧ j ≠ σ.n := fun j hj => ⟨hj.1, hj.2 rfl⟩
        by_cases hx0 : xs = []
        · subst hx0
          have ht0 : ts = [] := by simpa using hne
          subst ht0
          have h1 := Nxt.none hw hf (SameHeap.refl w) (hU rfl) i.size hU2
          exact ⟨_, _, G, .inl (hgo oper a w _ _ ho (by rw [hsv, hxv]; exact run_app0 hu hi (Nat.le_refl _))), h1, .one .sl0 rfl⟩
        · rcases h6 with h6 | ⟨b2, o2, cs2, rfl, hrel2, hrd2⟩
          · exact absurd h6 hx0
          have hxl : xs.length ≠ 0 := fun h => hx0 (List.eq_nil_of_length_eq_zero h)
          have hold : ∃ olds, RelE w G.F i.size ts olds ∧ ((ts.length = 0 ∧ ts.length = 0) ∨ ∃ b o, ad = some ⟨b, o, none⟩ ∧ Reads w b o olds) := by
            rcases h3 with h3 | ⟨b, o, cs, rfl, h3, h4, _⟩
            · subst h3; exact ⟨[], .nil, .inl ⟨rfl, rfl⟩⟩
            · rcases hes with rfl | rfl
              · exact ⟨cs, h3, .inr ⟨b, o, rfl, h4⟩⟩
              · exact ⟨[], .nil, .inl ⟨rfl, rfl⟩⟩
          obtain ⟨olds, hrel1, hold⟩ := hold
          obtain ⟨cap', cur', hrun, h7, h8, h9⟩ := run_appGrow (P := P) (ty := oper.type) (c := cap2) hu hi hz hzs hrel1.size hold hrel2.size hrd2 hxl (by omega) hb0 hby
          exact app_own hw hf (hU rfl) (hgo oper a w _ _ ho (by rw [hsv, hxv]; exact hrun)) (by simp) (hrel1.append hrel2) h7 h8 h9 hU2
      · cases hs
    · rename_i id off k len es' hse
      split at hs
      · rename_i n es'' ts ht0
        split at hs
        · rename_i hcnd
          obtain ⟨rfl, rfl, hoff, hkl, hb0, hby⟩ := hcnd
          simp only [Option.some.injEq, Prod.mk.injEq] at hs
          obtain ⟨rfl, rfl⟩ := hs
          refine ⟨.move id (.arr (len + xs.length) i.size ((ts.drop k).take len ++ xs)), rfl, fun k hk => by simp only [Chg.key, Option.some.injEq] at hk; subst hk; simp [ht0], fun fr oper G w H U a ho hw hf hr hH hU => ?_⟩
          have hs1 := hr s s' (by simp [Op.operands, Call.operands, hc, ha]) hs'
          have hx1 := hr x x' (by simp [Op.operands, Call.operands, hc, ha]) hx
          rw [hse] at hs1
          obtain ⟨ad, cap, hsv, hcap, h3⟩ := hs1.sl_inv
          obtain ⟨ad2, cap2, hxv, hcap2, h6⟩ := row_rel hw hH hrow hx1
          have hU2 : ∀ j, (U j ∧ ((Chg.move id (.arr (len + xs.length) i.size ((ts.drop k).take len ++ xs))).isNew = true → j ≠ σ.n)) → U j ∧ j ≠ σ.n := fun j hj => ⟨hj.1, hj.2 rfl⟩
          have hlen : ((ts.drop k).take len ++ xs).length = len + xs.length := by simp; omega
          rcases h3 with ⟨rfl, rfl⟩ | ⟨b, o, cur, e2, rfl, hρ, hheap, hfit⟩
          · by_cases hx0 : xs = []
            · subst hx0
              have h1 := Nxt.none (hw.kill id) (hf.kill id) (SameHeap.refl w) (hU rfl) i.size hU2
              refine ⟨_, _, G, .inl (hgo oper a w _ _ ho (by rw [hsv, hxv]; exact run_app0 hu hi (Nat.le_refl _))), ?_, .one .sl0 rfl⟩
              simpa [Chg.H] using h1
            · rcases h6 with h6 | ⟨b2, o2, cs2, rfl, hrel2, hrd2⟩
              · exact absurd h6 hx0
              have hxl : xs.length ≠ 0 := fun h => hx0 (List.eq_nil_of_length_eq_zero h)
              obtain ⟨cap', cur', hrun, h7, h8, h9⟩ := run_appGrow (P := P) (ty := oper.type) (c := cap2) (ad := ad) (sLen := 0) (sCap := 0) (olds := []) hu hi hz hzs (by simp) (.inl ⟨rfl, rfl⟩) hrel2.size hrd2 hxl (by omega) hb0 hby
              exact app_own (hw.kill id) (hf.kill id) (hU rfl) (hgo oper a w _ _ ho (by rw [hsv, hxv]; exact hrun)) hlen (by simpa using hrel2) h7 h8 (by simpa using h9) hU2
          · obtain ⟨cs, cur1, e1, hrel, hheap1, hrd, hnF⟩ := hw.place hρ (hH _ _ ht0)
            rw [hheap] at hheap1
            simp only [Option.some.injEq, Obj.cells.injEq, and_true] at hheap1
            obtain ⟨rfl, rfl⟩ := hheap1
            cases hrel with
            | arr hrel hn =>
              have hrel1 := (hrel.drop k).take len
              have hrd1 : Reads w b (o + off) ((cs.drop (k * i.size)).take (len * i.size)) := by
                rw [hoff]; exact (hrd.drop (k * i.size)).take (len * i.size)
              generalize holds : (cs.drop (k * i.size)).take (len * i.size) = olds at hrel1 hrd1
              have hlo : olds.length = len * i.size := by
                have := hrel1.size
                rw [this]; congr 1; simp; omega
              have hoc := reads_cur hrd1 hheap
              by_cases hx0 : xs = []
              · subst hx0
                have h1 := Nxt.rewrite hw hf (hH _ _ ht0) hρ (rowed_self hheap) (i := σ.n) (o' := o + off) (.inr (hU rfl)) (t' := .arr (len + 0) i.size ((ts.drop k).take len ++ [])) (cs' := olds) (.arr (by simpa using hrel1) hlen) hoc hU2
                refine ⟨_, _, _, .inl (hgo oper a w _ _ ho (by rw [hsv, hxv]; exact run_app0 hu hi hcap)), h1, .one (.sl (b := b) (o := o + off) (upd_self _ _ _) hcap hheap (by omega)) rfl⟩
              · rcases h6 with h6 | ⟨b2, o2, cs2, rfl, hrel2, hrd2⟩
                · exact absurd h6 hx0
                have hxl : xs.length ≠ 0 := fun h => hx0 (List.eq_nil_of_length_eq_zero h)
                by_cases hroom : len + xs.length ≤ cap
                · have hmul : (len + xs.length) * i.size ≤ cap * i.size := Nat.mul_le_mul_right _ hroom
                  rw [Nat.add_mul] at hmul
                  have hl2 := hrel2.size
                  have hrun := run_appRoom (P := P) (ty := oper.type) (c := cap2) hu hi hheap (o := o + off) hl2 hrd2 hrel2.ones hroom (by omega)
                  have hR := rowed_setRow hheap (cs := (cur.toList.take (o + off + len * i.size) ++ cs2 ++ cur.toList.drop (o + off + len * i.size + cs2.length)).toArray) (by
                    simp only [List.size_toArray, List.length_append, List.length_take, List.length_drop, Array.length_toList]; omega)
                  have hcell := laid_end (cur := cur) (o := o + off) (pre := olds) (new := cs2) hoc (by omega)
                  rw [hlo] at hcell
                  have h1 := Nxt.rewrite hw hf (hH _ _ ht0) hρ hR (i := σ.n) (o' := o + off) (.inr (hU rfl)) (t' := .arr (len + xs.length) i.size ((ts.drop k).take len ++ xs)) (cs' := olds ++ cs2) (.arr (hrel1.append hrel2) hlen) hcell hU2
                  refine ⟨_, _, _, .inl (hgo oper a w _ _ ho (by rw [hsv, hxv]; exact hrun)), h1, .one (.sl (b := b) (o := o + off) (upd_self _ _ _) hroom hR.new ?_) rfl⟩
                  rw [hR.size]; omega
                · obtain ⟨cap', cur', hrun, h7, h8, h9⟩ := run_appGrow (P := P) (ty := oper.type) (c := cap2) (sLen := len) (sCap := cap) hu hi hz hzs hlo (.inr ⟨b, o + off, rfl, hrd1⟩) hrel2.size hrd2 hxl (by omega) hb0 hby
                  exact app_own (hw.kill id) (hf.kill id) (hU rfl) (hgo oper a w _ _ ho (by rw [hsv, hxv]; exact hrun)) hlen (hrel1.append hrel2) h7 h8 h9 hU2
        · cases hs
      · cases hs
    · cases hs
  · cases hs
end
end Go.Ra

/- Each abstract operation is sound: all of them. -/
namespace Go.Ra
set_option linter.unusedVariables false
set_option linter.unusedSimpArgs false
section
variable {P : Program}

theorem some_map {α β : Type} {x : Option α} {f : α → β} {b : β} (h : x.map f = some b) : ∃ a, x = some a ∧ f a = b := by
  cases x with
  | none => cases h
  | some a => exact ⟨a, rfl, by simpa using h⟩

theorem trXs_one {l : List Operand} {a : AX} (h : trXs l = some [a]) : ∃ x, l = [x] ∧ trX x = some a := by
  cases l with
  | nil => simp [trXs] at h
  | cons x r =>
    simp only [trXs] at h
    split at h
    · rename_i a' b' h1 h2
      simp only [Option.some.injEq, List.cons.injEq] at h
      obtain ⟨rfl, rfl⟩ := h
      cases r with
      | nil => exact ⟨x, rfl, h1⟩
      | cons y r =>
        simp only [trXs] at h2
        split at h2 <;> simp at h2
    · cases h

theorem trXs_two {l : List Operand} {a b : AX} (h : trXs l = some [a, b]) : ∃ x y, l = [x, y] ∧ trX x = some a ∧ trX y = some b := by
  cases l with
  | nil => simp [trXs] at h
  | cons x r =>
    simp only [trXs] at h
    split at h
    · rename_i a' b' h1 h2
      simp only [Option.some.injEq, List.cons.injEq] at h
      obtain ⟨rfl, rfl⟩ := h
      obtain ⟨y, rfl, h3⟩ := trXs_one h2
      exact ⟨x, y, rfl, h1, h3⟩
    · cases h

theorem arr_eq {α : Type} {a : Array α} {l : List α} (h : a.toList = l) : a = l.toArray := by rw [← h]

theorem Sound.none {o : Op} {ao : AOp} (h : ∀ σ, stepE ao σ = Option.none) : Sound P o ao := by
  intro σ σ' v hs
  rw [h] at hs
  cases hs

theorem eq_sound {op : BinOp} {t yt : TypeId} {x y : Operand} {x' y' : AX} {ao : AOp} (hp : plainT P t = false) (h : trEq P op t x' y' = some ao) (hx : trX x = some x') (hy : trX y = some y') : Sound P (.binOp op t x y yt) ao := by
  unfold trEq at h
  cases op <;> simp only at h <;> first | (cases h; done) | skip
  all_goals
    split at h
    · rename_i e hu
      split at h
      · rename_i hn
        simp only [Option.some.injEq] at h
        subst h
        first
          | exact (sp_eqn (neg := false) rfl hu hx hy hn).sound
          | exact (sp_eqn (neg := true) rfl hu hx hy hn).sound
      · cases h
    · split at h
      · cases h
      · rename_i hg
        split at h
        · rename_i s hs
          simp only [Option.some.injEq] at h
          subst h
          first
            | exact (sp_eqs (neg := false) rfl hp (by simpa using hg) hs hx hy).sound
            | exact (sp_eqs (neg := true) rfl hp (by simpa using hg) hs hx hy).sound
        · cases h

theorem call_sound {c : Call} {ao : AOp} (h : trOp P (.call c) = some ao) : Sound P (.call c) ao := by
  simp only [trOp] at h
  split at h
  · simp only [Option.some.injEq] at h
    subst h
    exact Sound.none fun _ => rfl
  · obtain ⟨a, h1, rfl⟩ := some_map h
    exact Sound.none fun _ => rfl
  · rename_i s x hc hxs
    obtain ⟨s0, x0, ha, hs, hx⟩ := trXs_two hxs
    split at h
    · rename_i t u hat
      split at h
      · rename_i htu
        subst htu
        unfold trApp at h
        split at h
        · rename_i e i ht
          split at h
          · rename_i z hz
            split at h
            · rename_i hzs
              simp only [Option.some.injEq] at h
              subst h
              exact sd_app hc (arr_eq ha) (arr_eq hat) ht hz hzs hs hx
            · cases h
          · cases h
        · cases h
      · cases h
    · cases h
  · rename_i x hc hxs
    obtain ⟨x0, ha, hx⟩ := trXs_one hxs
    split at h
    · rename_i t hat
      split at h
      · rename_i e hu
        simp only [Option.some.injEq] at h
        subst h
        exact (sp_len_slice hc (arr_eq ha) (arr_eq hat) hu hx).sound
      · rename_i hu
        simp only [Option.some.injEq] at h
        subst h
        exact (sp_lens hc (arr_eq ha) (arr_eq hat) hu hx).sound
      · rename_i n e hu
        simp only [Option.some.injEq] at h
        subst h
        exact (sp_len_arr hc (arr_eq ha) (arr_eq hat) (.inl ⟨e, hu⟩) hx).sound
      · rename_i u hu
        split at h
        · rename_i n e hu2
          simp only [Option.some.injEq] at h
          subst h
          exact (sp_len_arr hc (arr_eq ha) (arr_eq hat) (.inr ⟨u, e, hu, hu2⟩) hx).sound
        · cases h
      · cases h
    · cases h
  · rename_i x y hc hxs
    obtain ⟨x0, y0, ha, hx, hy⟩ := trXs_two hxs
    split at h
    · rename_i t u hat
      split at h
      · rename_i e i e' i' ht ht'
        split at h
        · rename_i hsz
          simp only [Option.some.injEq] at h
          subst h
          exact sd_copy hc (arr_eq ha) (arr_eq hat) ht ht' hsz hx hy
        · cases h
      · cases h
    · cases h
  · rename_i xs hc hxs
    simp only [Option.some.injEq] at h
    subst h
    exact (sp_min hc hxs).sound
  · rename_i xs hc hxs
    simp only [Option.some.injEq] at h
    subst h
    exact (sp_max hc hxs).sound
  · cases h

theorem op_sound {o : Op} {ao : AOp} (h : trOp P o = some ao) : Sound P o ao := by
  cases o with
  | call c => exact call_sound h
  | move x =>
    obtain ⟨x', hx, rfl⟩ := some_map h
    exact (sp_move hx).sound
  | assign x =>
    obtain ⟨x', hx, rfl⟩ := some_map h
    exact (sp_assign hx).sound
  | pick c a b =>
    simp only [trOp] at h
    split at h
    · rename_i h1 h2 h3
      simp only [Option.some.injEq] at h
      subst h
      exact (sp_pick h1 h2 h3).sound
    · cases h
  | alloc t =>
    obtain ⟨z, hz, rfl⟩ := some_map h
    exact sd_alloc hz
  | box t x =>
    obtain ⟨x', hx, rfl⟩ := some_map h
    exact sd_box hx
  | build t parts =>
    simp only [trOp] at h
    split at h
    · rename_i fs n zs hu hz
      split at h
      · rename_i ps hp
        split at h
        · rename_i hf
          simp only [Option.some.injEq] at h
          subst h
          exact (sp_build hu hz hp hf).sound
        · cases h
      · cases h
    · rename_i m el n es zs hu hz
      split at h
      · rename_i xs i hx hi
        split at h
        · rename_i hc
          simp only [Option.some.injEq] at h
          subst h
          exact (sp_barr hu hz hx hi hc.1 hc.2.1 hc.2.2.1 hc.2.2.2).sound
        · cases h
      · cases h
    · cases h
  | buildSlice t len parts =>
    simp only [trOp] at h
    split at h
    · rename_i e i ht
      split at h
      · rename_i xs z hx hz
        split at h
        · rename_i hc
          simp only [Option.some.injEq] at h
          subst h
          exact sd_bsl ht hz hx hc.1 hc.2.1 hc.2.2
        · cases h
      · cases h
    · cases h
  | load t x =>
    simp only [trOp] at h
    split at h
    · rename_i h1 h2 h3
      simp only [Option.some.injEq] at h
      subst h
      exact (sp_load h1 h2 h3).sound
    · cases h
  | store t a x =>
    simp only [trOp] at h
    split at h
    · rename_i h1 h2 h3
      split at h
      · cases h
      · rename_i hn
        simp only [Option.some.injEq] at h
        subst h
        exact sd_store h1 hn h2 h3
    · cases h
  | nilCheck x =>
    obtain ⟨x', hx, rfl⟩ := some_map h
    exact (sp_nilck hx).sound
  | binOp op t x y yt =>
    simp only [trOp] at h
    split at h
    · rename_i hx hy
      split at h
      · rename_i hp
        simp only [Option.some.injEq] at h
        subst h
        exact (sp_bin hp hx hy).sound
      · rename_i hp
        exact eq_sound (by simpa using hp) h hx hy
    · cases h
  | unOp op t x =>
    obtain ⟨x', hx, rfl⟩ := some_map h
    exact (sp_un hx).sound
  | convert src dst x =>
    simp only [trOp] at h
    split at h
    · rename_i h1 h2 h3
      simp only [Option.some.injEq] at h
      subst h
      exact (sp_conv h1 h2 h3).sound
    · rename_i h1 h2 h3
      split at h
      · rename_i h4
        simp only [Option.some.injEq] at h
        subst h
        exact (sp_b2s h1 h2 h4 h3).sound
      · cases h
    · cases h
  | slice t x lo hi mx =>
    cases mx with
    | some m => simp [trOp] at h
    | none =>
      simp only [trOp] at h
      split at h
      · rename_i h1 h2 h3 h4
        simp only [Option.some.injEq] at h
        subst h
        exact (sp_slice h1 h2 h3 h4).sound
      · rename_i h1 h2 h3 h4 _
        simp only [Option.some.injEq] at h
        subst h
        exact (sp_aslice h1 h2 h3 h4).sound
      · cases h
  | fieldAddr s x i =>
    simp only [trOp] at h
    split at h
    · rename_i h1 h2
      split at h
      · rename_i f h3
        split at h
        · rename_i n h4
          split at h
          · cases h
          · rename_i h5
            simp only [Option.some.injEq] at h
            subst h
            exact (sp_fadr h1 h3 h4 h5 h2).sound
        · cases h
      · cases h
    · cases h
  | indexAddr t x i =>
    simp only [trOp] at h
    split at h
    · rename_i h1 h2 h3
      simp only [Option.some.injEq] at h
      subst h
      exact (sp_iadr_slice h1 h2 h3).sound
    · rename_i h1 h2 h3 _
      simp only [Option.some.injEq] at h
      subst h
      exact (sp_iadr_arr h1 h2 h3).sound
    · cases h
  | extract x i =>
    obtain ⟨x', hx, rfl⟩ := some_map h
    exact (sp_extract hx).sound
  | makeFunc fn first caps =>
    cases fn with
    | func f =>
      simp only [trOp] at h
      split at h
      · rename_i cs hc
        split at h
        · rename_i hf
          simp only [Option.some.injEq] at h
          subst h
          exact (sp_mkf hf hc).sound
        · cases h
      · cases h
    | _ => simp [trOp] at h
  | makeSlice t l c =>
    simp only [trOp] at h
    split at h
    · rename_i h1 h2
      split at h
      · rename_i z h3
        split at h
        · rename_i h4
          simp only [Option.some.injEq] at h
          subst h
          exact sd_mks h1 h3 h2 h4.1 h4.2
        · cases h
      · cases h
    · cases h
  | _ => simp [trOp] at h
def AOp.isCall : AOp → Bool
  | .call .. => true
  | .callv .. => true
  | .callq .. => true
  | _ => false

/-- It is a call, of that function, or of that value. -/
def CallIs (o : Op) (ao : AOp) : Prop := ∃ c y, o = .call c ∧ c.callee = .value y ∧ ((∃ f args, y = .func f ∧ trXs c.args.toList = some args ∧ (ao = .call f args ∨ ao = .callq f args)) ∨ (∃ x args, trX y = some x ∧ trXs c.args.toList = some args ∧ ao = .callv x args))

/-- What a translation owes. -/
def TrO (P : Program) (o : Op) (ao : AOp) : Prop := Sound P o ao ∧ (ao.isCall = true → CallIs o ao)

theorem trApp_inv {t : TypeId} {s x : AX} {ao : AOp} (h : trApp P t s x = some ao) : ∃ e i z, elemT P t = some (e, i) ∧ i.zero = some z ∧ z.cells.size = i.size ∧ ao = .app i.size i.bytes s x := by
  unfold trApp at h
  split at h
  · rename_i e i ht
    split at h
    · rename_i z hz
      split at h
      · rename_i hzs
        simp only [Option.some.injEq] at h
        exact ⟨e, i, z, ht, hz, hzs, h.symm⟩
      · cases h
    · cases h
  · cases h

theorem trEq_na {op : BinOp} {t : TypeId} {x y : AX} {es b : Nat} {s u : AX} (h : trEq P op t x y = some (.app es b s u)) : False := by
  unfold trEq at h
  cases op <;> simp only at h <;> first | (cases h; done) | skip
  all_goals
    repeat' split at h
    all_goals first | (cases h; done)

theorem trOp_app {o : Op} {es b : Nat} {s x : AX} (h : trOp P o = some (.app es b s x)) : ∃ c s0 x0 t e i z, o = .call c ∧ c.callee = .builtin .append ∧ c.args = #[s0, x0] ∧ c.argTypes = #[t, t] ∧ elemT P t = some (e, i) ∧ i.zero = some z ∧ z.cells.size = i.size ∧
    trX s0 = some s ∧ trX x0 = some x ∧ es = i.size ∧ b = i.bytes := by
  cases o with
  | call c =>
    simp only [trOp] at h
    split at h
    · cases h
    · obtain ⟨a, h1, h2⟩ := some_map h
      cases h2
    · rename_i s' x' hc hxs
      obtain ⟨s0, x0, ha, hs, hx⟩ := trXs_two hxs
      split at h
      · rename_i t u hat
        split at h
        · rename_i htu
          subst htu
          obtain ⟨e, i, z, h1, h2, h3, h4⟩ := trApp_inv h
          simp only [AOp.app.injEq] at h4
          obtain ⟨rfl, rfl, rfl, rfl⟩ := h4
          exact ⟨c, s0, x0, t, e, i, z, rfl, hc, arr_eq ha, arr_eq hat, h1, h2, h3, hs, hx, rfl, rfl⟩
        · cases h
      · cases h
    all_goals
      repeat' split at h
      all_goals first | (cases h; done)
  | _ =>
    simp only [trOp] at h
    repeat' split at h
    all_goals first | (cases h; done) | contradiction | (obtain ⟨a, h1, h2⟩ := some_map h; cases h2; done) | exact (trEq_na h).elim

theorem trX_nil {s : Operand} (h : trX s = some (.c (.fro true 0 []))) : s = .const (.slice none 0 0) := by
  unfold trX at h
  split at h
  · cases h
  · rename_i v
    split at h
    · rename_i a hv
      simp only [Option.some.injEq, AX.c.injEq] at h
      subst h
      unfold trV at hv
      split at hv <;> first | rfl | (cases hv; done)
    · cases h
  · cases h
  · cases h

theorem soft_sound {o : Op} {es b : Nat} {x : AX} (h : trOp P o = some (.app es b (.c (.fro true 0 [])) x)) : Sound P o (.appf es b x) := by
  obtain ⟨c, s0, x0, t, e, i, z, rfl, hc, ha, hat, ht, hz, hzs, hs, hx, rfl, rfl⟩ := trOp_app h
  have hs0 := trX_nil hs
  obtain ⟨hu, hi⟩ := elemT_inv ht
  intro σ σ' v hst
  simp only [stepE] at hst
  split at hst
  · rename_i xs hrow
    split at hst
    · rename_i hcnd
      obtain ⟨hb0, hby⟩ := hcnd
      simp only [Option.some.injEq, Prod.mk.injEq] at hst
      obtain ⟨rfl, rfl⟩ := hst
      refine ⟨.same, rfl, fun k hk => by simp [Chg.key] at hk, fun fr oper G w H U a ho hw hf hr hH hU => ?_⟩
      have hgo : ∀ u w', (Builtin.append_ #[t, t] oper.type #[.slice none 0 0, a.eval x0]).run P w = .ok u w' → (execOp a.eval oper).run P w = .ok (.value u) w' := fun u w' h => by
        have hsv : a.eval s0 = .slice none 0 0 := by rw [hs0]; rfl
        simp [execOp, ho, resolve, hc, ha, hat, invoke, builtin, hsv, h]
      have hx1 := hr x0 x (by simp [Op.operands, Call.operands, hc, ha]) hx
      obtain ⟨ad, cap, hxv, hcap, h6⟩ := row_rel hw hH hrow hx1
      have e3 : (fun j => U j ∧ (Chg.same.isNew = true → j ≠ σ.n)) = U := by funext j; simp [Chg.isNew]
      by_cases hx0 : xs = []
      · subst hx0
        refine ⟨_, _, G, .inl (hgo _ _ (by rw [hxv]; exact run_app0 hu hi (Nat.le_refl _))), ?_, .one (.fro0 fun h => by cases h) rfl⟩
        rw [e3]; exact Nxt.same hw hf (SameHeap.refl w)
      · rcases h6 with h6 | ⟨b2, o2, cs2, rfl, hrel2, hrd2⟩
        · exact absurd h6 hx0
        have hxl : xs.length ≠ 0 := fun h => hx0 (List.eq_nil_of_length_eq_zero h)
        obtain ⟨cap', cur', hrun, h7, h8, h9⟩ := run_appGrow (P := P) (ty := oper.type) (c := cap) (ad := none) (sLen := 0) (sCap := 0) (olds := []) hu hi hz hzs (by simp) (.inl ⟨rfl, rfl⟩) hrel2.size hrd2 hxl (by omega) hb0 (by simpa using hby)
        rw [Nat.zero_add] at hrun h7
        have h5 := Nxt.frozen hw hf (pushed_drew w (.cells cur' e))
        refine ⟨_, _, ⟨G.ρ, fun b => G.F b ∨ b = w.heap.size⟩, .inl (hgo _ _ (by rw [hxv]; exact hrun)), ?_, ?_⟩
        · rw [e3]; exact h5
        · have hx2 := (pushed_drew w (.cells cur' e)).ext G.F hw.fsz
          refine .one (.fro (b := w.heap.size) (o := 0) (hrel2.mono hx2 (fun _ h => .inl h)) (fun j v hj => ?_) (.inr rfl) (fun h => by cases h) h7) rfl
          rw [World.cell?, (pushed_drew w (.cells cur' e)).new]
          simpa using h9 j v (by simpa using hj)
    · cases hst
  · cases hst

theorem trEq_nm {op : BinOp} {t : TypeId} {x y : AX} {es b : Nat} {z : AV} {l : AX} (h : trEq P op t x y = some (.mks es b z l)) : False := by
  unfold trEq at h
  cases op <;> simp only at h <;> first | (cases h; done) | skip
  all_goals
    repeat' split at h
    all_goals first | (cases h; done)
theorem trApp_nm {t : TypeId} {s x : AX} {es b : Nat} {z : AV} {l : AX} (h : trApp P t s x = some (.mks es b z l)) : False := by
  obtain ⟨e, i, z, h1, h2, h3, h4⟩ := trApp_inv h
  cases h4

theorem trOp_mks {o : Op} {es b : Nat} {z : AV} {l : AX} (h : trOp P o = some (.mks es b z l)) : ∃ t l0 c e i, o = .makeSlice t l0 c ∧ elemT P t = some (e, i) ∧ trX l0 = some l ∧ zeroT P e = some z ∧ sameLen l0 c = true ∧ z.size = i.size ∧ es = i.size ∧ b = i.bytes := by
  cases o with
  | makeSlice t l0 c =>
    simp only [trOp] at h
    split at h
    · rename_i h1 h2
      split at h
      · rename_i z' h3
        split at h
        · rename_i h4
          simp only [Option.some.injEq, AOp.mks.injEq] at h
          obtain ⟨rfl, rfl, rfl, rfl⟩ := h
          exact ⟨t, l0, c, _, _, rfl, h1, h2, h3, h4.1, h4.2, rfl, rfl⟩
        · cases h
      · cases h
    · cases h
  | _ =>
    simp only [trOp] at h
    repeat' split at h
    all_goals first | (cases h; done) | contradiction | (obtain ⟨a, h1, h2⟩ := some_map h; cases h2; done) | exact (trEq_nm h).elim | exact (trApp_nm h).elim

theorem softm_sound {o : Op} {es b : Nat} {z : AV} {l' : AX} (h : trOp P o = some (.mks es b z l')) : Sound P o (.mksf es b z l') := by
  obtain ⟨t, l, c, e, i, rfl, ht, hl, hz, hsl, hzs, rfl, rfl⟩ := trOp_mks h
  intro σ σ' v hs
  simp only [stepE] at hs
  split at hs
  · rename_i n hn
    split at hs
    · rename_i hc
      obtain ⟨hc1, hc3, hc2⟩ := hc
      simp only [Option.some.injEq, Prod.mk.injEq] at hs
      obtain ⟨rfl, rfl⟩ := hs
      refine ⟨.same, rfl, fun k hk => by simp [Chg.key] at hk, fun fr oper G w H U a ho hw hf hr hH hU => ?_⟩
      obtain ⟨hu, hi⟩ := elemT_inv ht
      obtain ⟨i2, zv, h1, h2, h3, h4⟩ := zeroT_rel hz
      rw [hi] at h1
      simp only [Option.some.injEq] at h1
      subst h1
      have hlv := hr l l' (by simp [Op.operands]) hl
      obtain ⟨k, hle⟩ := asI_inv hn hlv
      have hce : ∃ kc, a.eval c = .int kc n := by
        unfold sameLen at hsl
        split at hsl
        · simp only [decide_eq_true_eq] at hsl
          subst hsl
          exact ⟨_, hle⟩
        · simp only [Bool.and_eq_true, decide_eq_true_eq] at hsl
          obtain ⟨⟨rfl, rfl⟩, rfl⟩ := hsl
          exact ⟨_, hle⟩
        · cases hsl
      obtain ⟨kc, hce⟩ := hce
      have hb1 : (i.bytes : Int) * n ≤ 281474976710656 := by
        have e2 : (i.bytes : Int) * n = ((n.toNat * i.bytes : Nat) : Int) := by
          rw [Int.natCast_mul, Int.mul_comm, Int.toNat_of_nonneg hc1]
        rw [e2]; omega
      have hb2 : n ≤ 9223372036854775807 := by
        have : n.toNat * 1 ≤ n.toNat * i.bytes := Nat.mul_le_mul_left _ (by omega)
        omega
      have hrun0 := run_make (P := P) w t e i zv hu hi h2 k kc n n hc1 (Int.le_refl _) hb1 hb2
      have hrun : (execOp a.eval oper).run P w = .ok (.value (.slice (some ⟨w.heap.size, 0, none⟩) n.toNat n.toNat)) (w.alloc (.cells (madeCells zv.cells (n.toNat * i.size)) e)) := by
        simp only [execOp, ho, hle, hce]
        exact run_val hrun0
      have e3 : (fun j => U j ∧ (Chg.same.isNew = true → j ≠ σ.n)) = U := by funext j; simp [Chg.isNew]
      have hzc : zv.cells.toList.length = i.size := by rw [((h4 w G.F noIds).1).size, hzs]
      have hzc' : zv.cells.size = i.size := by simpa using hzc
      have h5 := Nxt.frozen hw hf (pushed_alloc w (.cells (madeCells zv.cells (n.toNat * i.size)) e))
      have hrel := RelE.replicate (h4 (w.alloc (.cells (madeCells zv.cells (n.toNat * i.size)) e)) (fun b => G.F b ∨ b = w.heap.size) noIds).1 hzc n.toNat
      have hR : RelC (w.alloc (.cells (madeCells zv.cells (n.toNat * i.size)) e)) (fun b => G.F b ∨ b = w.heap.size) G.ρ (.fro false i.size (List.replicate n.toNat z)) [.slice (some ⟨w.heap.size, 0, none⟩) (List.replicate n.toNat z).length n.toNat] := by
        refine .fro (b := w.heap.size) (o := 0) hrel (fun j v hj => ?_) (.inr rfl) (fun h => by cases h) (by simp)
        rw [World.cell?, (pushed_alloc w (.cells (madeCells zv.cells (n.toNat * i.size)) e)).new]
        have := made_reads j v hj
        rw [hzc'] at this
        simpa using this
      rw [List.length_replicate] at hR
      refine ⟨_, _, ⟨G.ρ, fun b => G.F b ∨ b = w.heap.size⟩, .inl hrun, ?_, .one hR rfl⟩
      rw [e3]; exact h5
    · cases hs
  · cases hs

theorem trEq_nc {op : BinOp} {t : TypeId} {x y : AX} {ao : AOp} (h : trEq P op t x y = some ao) : ao.isCall = false := by
  unfold trEq at h
  cases op <;> simp only at h <;> first | (cases h; done) | skip
  all_goals
    repeat' split at h
    all_goals first | (cases h; done) | (simp only [Option.some.injEq] at h; subst h; rfl)

theorem trApp_nc {t : TypeId} {x y : AX} {ao : AOp} (h : trApp P t x y = some ao) : ao.isCall = false := by
  unfold trApp at h
  repeat' split at h
  all_goals first | (cases h; done) | (simp only [Option.some.injEq] at h; subst h; rfl)

theorem trOp_isCall {o : Op} {ao : AOp} (h : trOp P o = some ao) (hc : ao.isCall = true) : ∃ c y, o = .call c ∧ c.callee = .value y ∧ ((∃ f args, y = .func f ∧ trXs c.args.toList = some args ∧ ao = .call f args) ∨ (∃ x args, trX y = some x ∧ trXs c.args.toList = some args ∧ ao = .callv x args)) := by
  cases o with
  | call c =>
    simp only [trOp] at h
    split at h
    · rename_i f xs hc2 hx
      simp only [Option.some.injEq] at h
      exact ⟨c, _, rfl, hc2, .inl ⟨f, xs, rfl, hx, h.symm⟩⟩
    · rename_i y xs hx _ hc2
      obtain ⟨a, h1, h2⟩ := some_map h
      exact ⟨c, _, rfl, by assumption, .inr ⟨a, _, h1, by assumption, h2.symm⟩⟩
    all_goals
      repeat' split at h
      all_goals first | (cases h; done) | (have := trApp_nc h; rw [this] at hc; cases hc; done) | (simp only [Option.some.injEq] at h; subst h; cases hc)
  | _ =>
    simp only [trOp] at h
    repeat' split at h
    all_goals first | (cases h; done) | contradiction | (obtain ⟨a, h1, h2⟩ := some_map h; subst h2; cases hc; done) | (have := trEq_nc h; rw [this] at hc; cases hc; done) | (simp only [Option.some.injEq] at h; subst h; cases hc; done)

theorem callIs_of {o : Op} {ao : AOp} (h : trOp P o = some ao) (hc : ao.isCall = true) : CallIs o ao := by
  obtain ⟨c, y, e1, e2, e3⟩ := trOp_isCall h hc
  refine ⟨c, y, e1, e2, e3.imp (fun ⟨f, args, h1, h2, h3⟩ => ⟨f, args, h1, h2, .inl h3⟩) id⟩
theorem trO_of {o : Op} {ao : AOp} (h : trOp P o = some ao) (z : ZM) : TrO P o (zmO z ao) := by
  have h1 : TrO P o (if z.soft then softO ao else ao) := by
    cases z.soft with
    | false => exact ⟨op_sound h, fun hc => callIs_of h hc⟩
    | true =>
      simp only [if_true]
      unfold softO
      split
      · exact ⟨soft_sound h, fun hc => by simp [AOp.isCall] at hc⟩
      · exact ⟨softm_sound h, fun hc => by simp [AOp.isCall] at hc⟩
      · exact ⟨op_sound h, fun hc => callIs_of h hc⟩
  unfold zmO
  generalize (if z.soft then softO ao else ao) = a1 at h1
  unfold dualO
  split
  · rename_i f args
    split
    · obtain ⟨c, y, e1, e2, e3⟩ := h1.2 rfl
      refine ⟨fun σ τ v hs => by simp [stepE] at hs, fun _ => ⟨c, y, e1, e2, .inl ?_⟩⟩
      rcases e3 with ⟨f', args', rfl, h3, h4 | h4⟩ | ⟨x, args', _, _, h4⟩
      · simp only [AOp.call.injEq] at h4
        obtain ⟨rfl, rfl⟩ := h4
        exact ⟨f, args, rfl, h3, .inr rfl⟩
      · cases h4
      · cases h4
    · exact h1
  · exact h1
end
end Go.Ra

/- Rewriting rules for walks over abstract code. -/
namespace Go.Ra
set_option linter.unusedVariables false

def wpE (C : Orc) (e : Option (AV × St)) (d : Option Nat) (r : List AG) (K : St → Prop) : Prop :=
  match e with
  | some (v, σ) => wpOps C r (σ.put d v) K
  | none => False

def wpG (v : AV) (b : Bool) (p q : Prop) : Prop :=
  match v with
  | .sc (.bool b') => (b' = b → p) ∧ (b' ≠ b → q)
  | .tup [] => q
  | _ => False

def wpGd (C : Orc) (v : AV) (b : Bool) (d : Option Nat) (o : AOp) (r : List AG) (σ : St) (K : St → Prop) : Prop :=
  wpG v b (wpOps C (⟨d, o, none⟩ :: r) σ K) (wpOps C r (σ.put d (.tup [])) K)

section
variable {C : Orc} {d : Option Nat} {r : List AG} {σ : St} {K : St → Prop}
theorem wpE_some (v : AV) (σ : St) : wpE C (some (v, σ)) d r K = wpOps C r (σ.put d v) K := rfl
theorem wpOps_nil : wpOps C [] σ K = K σ := rfl
theorem wpOps_mv (x : AX) : wpOps C (⟨d, .mv x, none⟩ :: r) σ K = wpOps C r (σ.put d (σ.ev x)) K := rfl
theorem wpOps_pick (c a b : AX) : wpOps C (⟨d, .pick c a b, none⟩ :: r) σ K = wpE C (stepE (.pick c a b) σ) d r K := rfl
theorem wpOps_box (x : AX) : wpOps C (⟨d, .box x, none⟩ :: r) σ K = wpE C (stepE (.box x) σ) d r K := rfl
theorem wpOps_build (n : Nat) (z : List AV) (p : List (Nat × AX)) : wpOps C (⟨d, .build n z p, none⟩ :: r) σ K = wpE C (stepE (.build n z p) σ) d r K := rfl
theorem wpOps_bsl (n : Nat) (xs : List AX) : wpOps C (⟨d, .bsl n xs, none⟩ :: r) σ K = wpE C (stepE (.bsl n xs) σ) d r K := rfl
theorem wpOps_load (a : Bool) (n : Nat) (x : AX) : wpOps C (⟨d, .load a n x, none⟩ :: r) σ K = wpE C (stepE (.load a n x) σ) d r K := rfl
theorem wpOps_store (n : Nat) (x v : AX) : wpOps C (⟨d, .store n x v, none⟩ :: r) σ K = wpE C (stepE (.store n x v) σ) d r K := rfl
theorem wpOps_nilck (x : AX) : wpOps C (⟨d, .nilck x, none⟩ :: r) σ K = wpE C (stepE (.nilck x) σ) d r K := rfl
theorem wpOps_bin (op : BinOp) (x y : AX) : wpOps C (⟨d, .bin op x y, none⟩ :: r) σ K = wpE C (stepE (.bin op x y) σ) d r K := rfl
theorem wpOps_eqn (b : Bool) (x : AX) : wpOps C (⟨d, .eqn b x, none⟩ :: r) σ K = wpE C (stepE (.eqn b x) σ) d r K := rfl
theorem wpOps_eqs (b : Bool) (t : TS) (x y : AX) : wpOps C (⟨d, .eqs b t x y, none⟩ :: r) σ K = wpE C (stepE (.eqs b t x y) σ) d r K := rfl
theorem wpOps_un (op : UnOp) (x : AX) : wpOps C (⟨d, .un op x, none⟩ :: r) σ K = wpE C (stepE (.un op x) σ) d r K := rfl
theorem wpOps_conv (k : IntKind) (x : AX) : wpOps C (⟨d, .conv k x, none⟩ :: r) σ K = wpE C (stepE (.conv k x) σ) d r K := rfl
theorem wpOps_b2s (x : AX) : wpOps C (⟨d, .b2s x, none⟩ :: r) σ K = wpE C (stepE (.b2s x) σ) d r K := rfl
theorem wpOps_slice (n : Nat) (x : AX) (a b : Option AX) : wpOps C (⟨d, .slice n x a b, none⟩ :: r) σ K = wpE C (stepE (.slice n x a b) σ) d r K := rfl
theorem wpOps_aslice (m n : Nat) (x : AX) (a b : Option AX) : wpOps C (⟨d, .aslice m n x a b, none⟩ :: r) σ K = wpE C (stepE (.aslice m n x a b) σ) d r K := rfl
theorem wpOps_fadr (i o n : Nat) (x : AX) : wpOps C (⟨d, .fadr i o n x, none⟩ :: r) σ K = wpE C (stepE (.fadr i o n x) σ) d r K := rfl
theorem wpOps_iadr (a : Option Nat) (n : Nat) (x i : AX) : wpOps C (⟨d, .iadr a n x i, none⟩ :: r) σ K = wpE C (stepE (.iadr a n x i) σ) d r K := rfl
theorem wpOps_ext (x : AX) (i : Nat) : wpOps C (⟨d, .ext x i, none⟩ :: r) σ K = wpE C (stepE (.ext x i) σ) d r K := rfl
theorem wpOps_mkf (f : Nat) (xs : List AX) : wpOps C (⟨d, .mkf f xs, none⟩ :: r) σ K = wpE C (stepE (.mkf f xs) σ) d r K := rfl
theorem wpOps_mks (a b : Nat) (z : AV) (x : AX) : wpOps C (⟨d, .mks a b z x, none⟩ :: r) σ K = wpE C (stepE (.mks a b z x) σ) d r K := rfl
theorem wpOps_app (a b : Nat) (x y : AX) : wpOps C (⟨d, .app a b x y, none⟩ :: r) σ K = wpE C (stepE (.app a b x y) σ) d r K := rfl
theorem wpOps_appf (a b : Nat) (x : AX) : wpOps C (⟨d, .appf a b x, none⟩ :: r) σ K = wpE C (stepE (.appf a b x) σ) d r K := rfl
theorem wpOps_len (a : Option Nat) (x : AX) : wpOps C (⟨d, .len a x, none⟩ :: r) σ K = wpE C (stepE (.len a x) σ) d r K := rfl
theorem wpOps_lens (x : AX) : wpOps C (⟨d, .lens x, none⟩ :: r) σ K = wpE C (stepE (.lens x) σ) d r K := rfl
theorem wpOps_copy (n : Nat) (x y : AX) : wpOps C (⟨d, .copy n x y, none⟩ :: r) σ K = wpE C (stepE (.copy n x y) σ) d r K := rfl
theorem wpOps_min (xs : List AX) : wpOps C (⟨d, .min xs, none⟩ :: r) σ K = wpE C (stepE (.min xs) σ) d r K := rfl
theorem wpOps_max (xs : List AX) : wpOps C (⟨d, .max xs, none⟩ :: r) σ K = wpE C (stepE (.max xs) σ) d r K := rfl
theorem wpOps_guard (o : AOp) (t : Nat) (b : Bool) : wpOps C (⟨d, o, some (t, b)⟩ :: r) σ K = wpGd C (get σ.env t) b d o r σ K := rfl
theorem wpG_tt (o : AOp) : wpGd C (.sc (.bool true)) true d o r σ K = wpOps C (⟨d, o, none⟩ :: r) σ K := by simp [wpGd, wpG]
theorem wpG_ff (o : AOp) : wpGd C (.sc (.bool false)) false d o r σ K = wpOps C (⟨d, o, none⟩ :: r) σ K := by simp [wpGd, wpG]
theorem wpG_tf (o : AOp) : wpGd C (.sc (.bool true)) false d o r σ K = wpOps C r (σ.put d (.tup [])) K := by simp [wpGd, wpG]
theorem wpG_ft (o : AOp) : wpGd C (.sc (.bool false)) true d o r σ K = wpOps C r (σ.put d (.tup [])) K := by simp [wpGd, wpG]
theorem wpG_n (b : Bool) (o : AOp) : wpGd C (.tup []) b d o r σ K = wpOps C r (σ.put d (.tup [])) K := rfl
theorem wpG_true {b' : Bool} {o : AOp} (h1 : b' = true → wpOps C (⟨d, o, none⟩ :: r) σ K) (h2 : b' = false → wpOps C r (σ.put d (.tup [])) K) : wpGd C (.sc (.bool b')) true d o r σ K :=
  ⟨h1, fun h => h2 (by simpa using h)⟩
theorem wpG_false {b' : Bool} {o : AOp} (h1 : b' = true → wpOps C r (σ.put d (.tup [])) K) (h2 : b' = false → wpOps C (⟨d, o, none⟩ :: r) σ K) : wpGd C (.sc (.bool b')) false d o r σ K :=
  ⟨h2, fun h => h1 (by simpa using h)⟩

variable {e : List (Nat × AV)} {hl : List (Nat × Option AV)} {hb : Nat → Option AV} {n : Nat}
theorem put_some (i : Nat) (v : AV) : St.put ⟨e, hl, hb, n⟩ (some i) v = ⟨(i, v) :: e, hl, hb, n⟩ := rfl
theorem put_none (v : AV) : St.put ⟨e, hl, hb, n⟩ none v = ⟨e, hl, hb, n⟩ := rfl
theorem ev_t (i : Nat) : St.ev ⟨e, hl, hb, n⟩ (.t i) = get e i := rfl
theorem ev_c (v : AV) : St.ev ⟨e, hl, hb, n⟩ (.c v) = v := rfl
theorem St_H : St.H ⟨e, hl, hb, n⟩ = look hl hb := rfl
theorem hput_mk (i : Nat) (t : Option AV) : St.hput ⟨e, hl, hb, n⟩ i t = ⟨e, hset hl i t, hb, n⟩ := rfl
theorem new_mk (t : AV) : St.new ⟨e, hl, hb, n⟩ t = ⟨e, (n, some t) :: hl, hb, n + 1⟩ := rfl
theorem get_self (i : Nat) (v : AV) : get ((i, v) :: e) i = v := by simp [get]
theorem get_cons (i k : Nat) (v : AV) : get ((k, v) :: e) i = if i = k then v else get e i := rfl
theorem look_cons (i k : Nat) (v : Option AV) : look ((k, v) :: hl) hb i = if i = k then v else look hl hb i := rfl
theorem look_nil (i : Nat) : look [] hb i = hb i := rfl
theorem hset_nil (i : Nat) (t : Option AV) : hset [] i t = [(i, t)] := rfl
theorem hset_cons (i k : Nat) (v t : Option AV) : hset ((k, v) :: hl) i t = if i = k then (k, t) :: hl else (k, v) :: hset hl i t := rfl
end

/-- What stands behind, out of the sight of simp. -/
structure KK (K P : St → Prop) : Prop where
  out : ∀ σ, P σ → K σ

def cnd (v : AV) (p q : Prop) : Prop :=
  match v with
  | .sc (.bool b) => (b = true → p) ∧ (b = false → q)
  | .anyb => p ∧ q
  | _ => False

section
variable {k : IntKind} {a b : Int}
theorem intBin_add : intBin .add k a b = some (.int k (k.wrap (a + b))) := rfl
theorem intBin_sub : intBin .sub k a b = some (.int k (k.wrap (a - b))) := rfl
theorem intBin_mul : intBin .mul k a b = some (.int k (k.wrap (a * b))) := rfl
theorem intBin_quo (h : ¬ b = 0) : intBin .quo k a b = some (.int k (k.wrap (a.tdiv b))) := by simp [intBin, h]
theorem intBin_rem (h : ¬ b = 0) : intBin .rem k a b = some (.int k (a.tmod b)) := by simp [intBin, h]
theorem intBin_and : intBin .and k a b = some (.int k (bitsI .and k a b)) := rfl
theorem intBin_or : intBin .or k a b = some (.int k (bitsI .or k a b)) := rfl
theorem intBin_xor : intBin .xor k a b = some (.int k (bitsI .xor k a b)) := rfl
theorem intBin_eql : intBin .eql k a b = some (.bool (decide (a = b))) := rfl
theorem intBin_neq : intBin .neq k a b = some (.bool (decide (¬ a = b))) := rfl
theorem intBin_lss : intBin .lss k a b = some (.bool (decide (a < b))) := rfl
theorem intBin_leq : intBin .leq k a b = some (.bool (decide (a ≤ b))) := rfl
theorem intBin_gtr : intBin .gtr k a b = some (.bool (decide (a > b))) := rfl
theorem intBin_geq : intBin .geq k a b = some (.bool (decide (a ≥ b))) := rfl
theorem wrap_i64 {x : Int} (h1 : -9223372036854775808 ≤ x) (h2 : x ≤ 9223372036854775807) : IntKind.i64.wrap x = x := IntWalk.i64_in x ⟨h1, h2⟩
theorem wrap_u32 {x : Int} (h1 : 0 ≤ x) (h2 : x ≤ 4294967295) : IntKind.u32.wrap x = x := IntWalk.u32_in x ⟨h1, h2⟩
end
section
theorem isAgg_sc (v : Value) : AV.isAgg (.sc v) = false := rfl
theorem size_sc (v : Value) : AV.size (.sc v) = 1 := rfl
theorem storable_sc (v : Value) : AV.storable (.sc v) = true := rfl
theorem isAgg_agg (n : Nat) (ts : List AV) : AV.isAgg (.agg n ts) = true := rfl
theorem size_agg (n : Nat) (ts : List AV) : AV.size (.agg n ts) = n := rfl
theorem storable_agg (n : Nat) (ts : List AV) : AV.storable (.agg n ts) = true := rfl
theorem isAgg_arr (n es : Nat) (ts : List AV) : AV.isAgg (.arr n es ts) = true := rfl
theorem size_arr (n es : Nat) (ts : List AV) : AV.size (.arr n es ts) = n * es := rfl
theorem storable_arr (n es : Nat) (ts : List AV) : AV.storable (.arr n es ts) = true := rfl
theorem isAgg_fro (x : Bool) (es : Nat) (ts : List AV) : AV.isAgg (.fro x es ts) = false := rfl
theorem size_fro (x : Bool) (es : Nat) (ts : List AV) : AV.size (.fro x es ts) = 1 := rfl
theorem storable_fro (x : Bool) (es : Nat) (ts : List AV) : AV.storable (.fro x es ts) = true := rfl
theorem isAgg_fptr (t : AV) : AV.isAgg (.fptr t) = false := rfl
theorem size_fptr (t : AV) : AV.size (.fptr t) = 1 := rfl
theorem storable_fptr (t : AV) : AV.storable (.fptr t) = true := rfl
theorem isAgg_sl (id : Nat) (path : List Nat) (off k len es : Nat) : AV.isAgg (.sl id path off k len es) = false := rfl
theorem size_sl (id : Nat) (path : List Nat) (off k len es : Nat) : AV.size (.sl id path off k len es) = 1 := rfl
theorem storable_sl (id : Nat) (path : List Nat) (off k len es : Nat) : AV.storable (.sl id path off k len es) = true := rfl
theorem isAgg_ptr (id : Nat) (path : List Nat) (off : Nat) : AV.isAgg (.ptr id path off) = false := rfl
theorem size_ptr (id : Nat) (path : List Nat) (off : Nat) : AV.size (.ptr id path off) = 1 := rfl
theorem storable_ptr (id : Nat) (path : List Nat) (off : Nat) : AV.storable (.ptr id path off) = true := rfl
theorem isAgg_clo (f : Nat) (caps : List AV) : AV.isAgg (.clo f caps) = false := rfl
theorem size_clo (f : Nat) (caps : List AV) : AV.size (.clo f caps) = 1 := rfl
theorem storable_clo (f : Nat) (caps : List AV) : AV.storable (.clo f caps) = true := rfl
end
end Go.Ra

/- One step of abstract code, and what it means. -/
namespace Go.Ra
set_option linter.unusedVariables false
set_option linter.unusedSimpArgs false

/-- May an operation come up (true), or is it passed by (false)? -/
def Pass (σ : St) (g : Option (Nat × Bool)) (y : Bool) : Prop :=
  match g with
  | none => y = true
  | some (t, b) =>
    match get σ.env t with
    | .sc (.bool b') => y = decide (b' = b)
    | .tup [] => y = false
    | _ => False

inductive Stp (C : Orc) (σ : St) : AG → AV → St → Prop
  | op {d : Option Nat} {o : AOp} {g : Option (Nat × Bool)} {v : AV} {τ : St} : Pass σ g true → stepE o σ = some (v, τ) → Stp C σ ⟨d, o, g⟩ v τ
  | call {d : Option Nat} {f : Nat} {args : List AX} {g : Option (Nat × Bool)} {v : AV} {τ : St} : Pass σ g true → C f (args.map σ.ev) σ v τ → Stp C σ ⟨d, .call f args, g⟩ v (σ.back τ)
  | callv {d : Option Nat} {x : AX} {f : Nat} {caps : List AV} {args : List AX} {g : Option (Nat × Bool)} {v : AV} {τ : St} : Pass σ g true → σ.ev x = .clo f caps → C f (args.map σ.ev ++ caps) σ v τ → τ.hl = σ.hl ∧ τ.hb = σ.hb ∧ τ.n = σ.n →
      Stp C σ ⟨d, .callv x args, g⟩ v (σ.back τ)
  | callq {d : Option Nat} {f : Nat} {args : List AX} {g : Option (Nat × Bool)} {v : AV} : Pass σ g true → (∀ σ', C f (args.map σ.ev) σ' v σ') → Stp C σ ⟨d, .callq f args, g⟩ v σ
  | skip {d : Option Nat} {o : AOp} {g : Option (Nat × Bool)} : Pass σ g false → Stp C σ ⟨d, o, g⟩ (.tup []) σ

section
variable {C : Orc} {σ : St}
theorem wpOps_run {d : Option Nat} {o : AOp} {g : Option (Nat × Bool)} {r : List AG} {K : St → Prop} (hp : Pass σ g true) (h : wpOps C (⟨d, o, none⟩ :: r) σ K) : ∃ v τ, Stp C σ ⟨d, o, g⟩ v τ ∧ wpOps C r (τ.put d v) K := by
  unfold wpOps at h
  simp only at h
  split at h
  · obtain ⟨v, τ, h1, h2⟩ := h
    exact ⟨v, _, .call hp h1, h2⟩
  · split at h
    · rename_i hx
      obtain ⟨v, τ, h1, h3, h2⟩ := h
      exact ⟨v, _, .callv hp hx h1 h3, h2⟩
    · cases h
  · obtain ⟨v, h1, h2⟩ := h
    exact ⟨v, _, .callq hp h1, h2⟩
  · split at h
    · rename_i hs
      exact ⟨_, _, .op hp hs, h⟩
    · cases h

theorem wpOps_step {ag : AG} {r : List AG} {K : St → Prop} (h : wpOps C (ag :: r) σ K) : ∃ v τ, Stp C σ ag v τ ∧ wpOps C r (τ.put ag.d v) K := by
  obtain ⟨d, o, g⟩ := ag
  cases g with
  | none => exact wpOps_run (by simp [Pass]) h
  | some g =>
    obtain ⟨t, b⟩ := g
    rw [wpOps_guard] at h
    unfold wpGd wpG at h
    split at h
    · rename_i b' hb
      by_cases hbb : b' = b
      · exact wpOps_run (by simp [Pass, hb, hbb]) (h.1 hbb)
      · exact ⟨_, σ, .skip (by simp [Pass, hb, hbb]), h.2 hbb⟩
    · rename_i hb
      exact ⟨_, σ, .skip (by simp [Pass, hb]), h⟩
    · cases h
end

theorem look_hset : ∀ (hl : List (Nat × Option AV)) (hb : Nat → Option AV) (i : Nat) (t : Option AV), look (hset hl i t) hb = upd (look hl hb) i t
  | [], hb, i, t => by
    funext j
    simp only [hset, look, upd]
  | (k, v) :: hl, hb, i, t => by
    have ih := look_hset hl hb i t
    funext j
    simp only [hset]
    split
    · rename_i hik
      subst hik
      simp only [look, upd]
      split <;> rfl
    · rename_i hik
      simp only [look, upd, ih]
      by_cases hjk : j = k
      · subst hjk
        rw [if_pos rfl, if_neg (fun h => hik h.symm), if_pos rfl]
      · rw [if_neg hjk, if_neg hjk]

theorem Chg.st_H (c : Chg) (σ : St) : (c.st σ).H = c.H σ.n σ.H := by
  cases c with
  | same => rfl
  | new t => funext j; simp [Chg.st, Chg.H, St.new, St.H, look, upd]
  | put k t =>
    simp only [Chg.st, Chg.H, St.hput, St.H, look_hset]
    funext j
    by_cases hj : j = k
    · subst hj; rw [upd_self, upd_self]
    · rw [upd_ne _ _ hj, upd_ne _ _ hj, upd_ne _ _ hj]
  | move k t =>
    simp only [Chg.st, Chg.H, St.hput, St.H, St.new]
    funext j
    simp only [look, upd, look_hset]

theorem Chg.st_env (c : Chg) (σ : St) : (c.st σ).env = σ.env := by cases c <;> rfl
theorem Chg.st_n (c : Chg) (σ : St) : (c.st σ).n = if c.isNew = true then σ.n + 1 else σ.n := by cases c <;> rfl

/-- Memory as an abstract state tells it. -/
def Own (fr : Fr) (G : Gh) (w : World) (σ : St) : Prop := Wf G w σ.H (fun i => σ.n ≤ i) ∧ FrOk fr G w σ.H

/-- From one world to a later one, as two abstract states tell it. -/
def Goto (fr : Fr) (G : Gh) (w : World) (G' : Gh) (w' : World) (τ : St) : Prop := Nxt fr G w G' w' τ.H (fun i => τ.n ≤ i)

theorem Goto.own {fr : Fr} {G G' : Gh} {w w' : World} {τ : St} (h : Goto fr G w G' w' τ) : Own fr G' w' τ := ⟨h.wf, h.fr⟩
theorem Goto.mono {fr : Fr} {G G' : Gh} {w w' : World} {τ : St} (h : Goto fr G w G' w' τ) {t : AV} {v : Value} (hr : RelV w G.F G.ρ t v) : RelV w' G'.F G'.ρ t v := hr.mono h.ext h.leF h.leR
theorem Own.goto {fr : Fr} {G : Gh} {w : World} {σ : St} (h : Own fr G w σ) : Goto fr G w G w σ := Nxt.same h.1 h.2 (SameHeap.refl w)

/-- A function with a body. -/
def Known (P : Program) (f : Nat) : Prop := ∃ fn, P.funcs[f]? = some fn ∧ (fn.name == "runtime.NumGoroutine") = false ∧ fn.body.isNone = false

/-- What is known of calls is so. -/
def OrcOk (P : Program) (C : Orc) : Prop :=
  ∀ f args σ v τ, C f args σ v τ → Known P f ∧ ∀ fr G w vs, Own fr G w σ → RelVs w G.F G.ρ args vs →
    Calls P f vs.toArray w fun e w' => ∃ u G', e = .returned u ∧ Goto fr G w G' w' τ ∧ RelV w' G'.F G'.ρ v u

section
variable {P : Program}
theorem trV_rel {w : World} {F : Nat → Prop} {ρ : Nat → Option Loc} {v : Value} {t : AV} (h : trV v = some t) : RelV w F ρ t v := by
  unfold trV at h
  split at h
  · simp only [Option.some.injEq] at h; subst h; exact .one (.sc rfl) rfl
  · simp only [Option.some.injEq] at h; subst h; exact .one (.sc rfl) rfl
  · simp only [Option.some.injEq] at h; subst h; exact .one (.sc rfl) rfl
  · simp only [Option.some.injEq] at h; subst h; exact .one (.fro0 (fun _ => rfl)) rfl
  · simp only [Option.some.injEq] at h; subst h; exact .one (.sc rfl) rfl
  · cases h

theorem trX_rel {w : World} {G : Gh} {σ : St} {a : Act} {x : Operand} {x' : AX} (h : trX x = some x') (ht : ∀ t, x = .tmp t → RelV w G.F G.ρ (get σ.env t) (a.tmps.getD t undef)) : RelV w G.F G.ρ (σ.ev x') (a.eval x) := by
  unfold trX at h
  split at h
  · simp only [Option.some.injEq] at h; subst h
    exact ht _ rfl
  · split at h
    · rename_i hv
      simp only [Option.some.injEq] at h; subst h
      exact trV_rel hv
    · cases h
  · simp only [Option.some.injEq] at h; subst h
    exact .one (.clo .nil) rfl
  · cases h

theorem opRel_of {w : World} {G : Gh} {σ : St} {a : Act} {o : Op} (h : ∀ t, Operand.tmp t ∈ o.operands → RelV w G.F G.ρ (get σ.env t) (a.tmps.getD t undef)) : OpRel σ G w a o :=
  fun x x' hx hx' => trX_rel hx' fun t ht => h t (ht ▸ hx)

theorem mem_looks {ops : Array Oper} {o : Oper} {t : Nat} (h : Operand.tmp t ∈ o.op.operands) : t ∈ o.looksAt ops := by
  unfold Oper.looksAt
  refine List.mem_append_left _ (List.mem_filterMap.2 ⟨.tmp t, ?_, rfl⟩)
  simpa using h

theorem pass_wanted {w : World} {G : Gh} {σ : St} {a : Act} {ops : Array Oper} {o : Oper} {g : Option (Nat × Bool)} {y : Bool} (hg : trG ops o.guard = some g) (hp : Pass σ g y)
    (hr : ∀ t ∈ o.looksAt ops, RelV w G.F G.ρ (get σ.env t) (a.tmps.getD t undef)) : Region.wanted o (yielded ops a.tmps) = y := by
  unfold trG at hg
  unfold Region.wanted
  split at hg
  · rename_i h0
    simp only [Option.some.injEq] at hg
    subst hg
    rw [h0]
    simp only [Pass] at hp
    rw [hp]
  · rename_i j b h0
    split at hg
    · rename_i t ht
      simp only [Option.some.injEq] at hg
      subst hg
      rw [h0]
      have h1 := hr t (by
        unfold Oper.looksAt
        refine List.mem_append_right _ ?_
        rw [h0]
        simp only [ht, Option.toList_some, List.mem_singleton])
      simp only [Pass] at hp
      simp only [yielded, ht, Option.bind_some]
      split at hp
      · rename_i b' hb
        rw [hb] at h1
        obtain ⟨h2, _⟩ := h1.sc_inv
        rw [hp]
        rw [Array.getD_eq_getD_getElem?] at h2
        cases hq : a.tmps[t]? with
        | none => rw [hq] at h2; cases h2
        | some q =>
          rw [hq] at h2
          simp only [Option.getD_some] at h2
          subst h2
          cases b' <;> cases b <;> rfl
      · rename_i hb
        rw [hb] at h1
        obtain ⟨vs, h2, h3⟩ := h1.tup_inv
        cases h3
        rw [hp]
        rw [Array.getD_eq_getD_getElem?] at h2
        cases hq : a.tmps[t]? with
        | none => rfl
        | some q =>
          rw [hq] at h2
          simp only [Option.getD_some] at h2
          subst h2
          rfl
      · cases hp
    · cases hg

theorem RelVs.append {w : World} {F : Nat → Prop} {ρ : Nat → Option Loc} : ∀ {ts us : List AV} {vs xs : List Value}, RelVs w F ρ ts vs → RelVs w F ρ us xs → RelVs w F ρ (ts ++ us) (vs ++ xs)
  | _, _, _, _, .nil, h => h
  | _, _, _, _, .cons h1 h2, h => .cons h1 (RelVs.append h2 h)

theorem RelVs.of_relO {w : World} {F : Nat → Prop} {ρ : Nat → Option Loc} : ∀ {ts : List AV} {cs : List Value}, RelO w F ρ ts cs → RelVs w F ρ ts cs
  | _, _, .nil => .nil
  | _, _, .cons h1 h2 h3 => .cons (.one h1 h2) (RelVs.of_relO h3)

theorem run_call {o : Oper} {c : Call} {y : Operand} {a : Act} {w : World} {f : Nat} {cs : List Value} (ho : o.op = .call c) (hc : c.callee = .value y) (hy : a.eval y = .func (.func f) #[] cs.toArray) (hk : Known P f) :
    (execOp a.eval o).run P w = .ok (.enter f (c.args.toList.map a.eval ++ cs).toArray) w := by
  obtain ⟨fn, h1, h2, h3⟩ := hk
  have e : (c.args.toList.map a.eval ++ cs).toArray = c.args.map a.eval ++ cs.toArray := by
    apply Array.ext'
    simp
  rw [e]
  have h2' : ¬ fn.name = "runtime.NumGoroutine" := by simpa using h2
  have h3' : ¬ fn.body = none := by
    intro h4
    rw [h4] at h3
    cases h3
  simp [execOp, ho, resolve, hc, hy, Deferred.ofValue, invoke, callFunc, h1, h2', h3']

/-- One step is what the operation does. -/
theorem stp_sound {C : Orc} (hC : OrcOk P C) {ops : Array Oper} {o : Oper} {ao : AOp} {g : Option (Nat × Bool)} (htr : TrO P o.op ao) (hg : trG ops o.guard = some g) {σ τ : St} {v : AV} (h : Stp C σ ⟨o.dst, ao, g⟩ v τ)
    {fr : Fr} {G : Gh} {w : World} {a : Act} (hw : Own fr G w σ) (hr : ∀ t ∈ o.looksAt ops, RelV w G.F G.ρ (get σ.env t) (a.tmps.getD t undef)) {K : Act → World → Prop} {Q : Exit → Act → World → Prop}
    (hK : ∀ u w' G', Goto fr G w G' w' τ → RelV w' G'.F G'.ρ v u → K (a.put o.dst u) w') :
    if Region.wanted o (yielded ops a.tmps) = true then o.wp P a w K Q else K (a.put o.dst undef) w := by
  have hor : OpRel σ G w a o.op := opRel_of fun t ht => hr t (mem_looks ht)
  cases h with
  | op hp hs =>
    rw [if_pos (pass_wanted hg hp hr)]
    obtain ⟨c, rfl, hk, h1⟩ := htr.1 σ τ v hs
    obtain ⟨u, w', G', hrun, hn, hrel⟩ := h1 fr o G w σ.H (fun i => σ.n ≤ i) a rfl hw.1 hw.2 hor (fun k t h => h) (fun _ => Nat.le_refl _)
    have hgo : Goto fr G w G' w' (c.st σ) := by
      unfold Goto
      rw [c.st_H]
      refine ⟨⟨fun i hi => hn.wf.free i ?_, hn.wf.fsz, hn.wf.blk, hn.wf.dis⟩, hn.fr, hn.ext, hn.leF, hn.leR⟩
      rw [c.st_n] at hi
      split at hi
      · exact ⟨by omega, fun _ => by omega⟩
      · rename_i hne
        exact ⟨hi, fun h => absurd h hne⟩
    unfold Oper.wp
    rcases hrun with hrun | ⟨hrun, rfl⟩
    · rw [hrun]; exact hK u w' G' hgo hrel
    · rw [hrun]; exact hK undef w' G' hgo hrel
  | call hp hc =>
    rw [if_pos (pass_wanted hg hp hr)]
    obtain ⟨c, y, ho, hcal, hor2⟩ := (htr.2 rfl)
    rcases hor2 with ⟨f', args', rfl, hargs, heq | heq⟩ | ⟨x', args', hy, hargs, heq⟩
    · simp only [AOp.call.injEq] at heq
      obtain ⟨rfl, rfl⟩ := heq
      have h1 := RelVs.of_tr (σ := σ) (G := G) (w := w) (a := a) hargs fun x x' hx hx' => hor x x' (by rw [ho]; simp [Op.operands, Call.operands, hcal]; first | exact .inr (by simpa using hx) | exact .inl (by simpa using hx) | simpa using hx) hx'
      obtain ⟨hkn, h2⟩ := hC _ _ _ _ _ hc
      have h3 := h2 fr G w _ hw h1
      unfold Oper.wp
      rw [run_call ho hcal (cs := []) rfl hkn, List.append_nil]
      exact h3.mono fun e w' ⟨u, G', he, hgo, hrel⟩ => by subst he; exact hK u w' G' hgo hrel
    · cases heq
    · cases heq
  | callv hp hx hc _ =>
    rw [if_pos (pass_wanted hg hp hr)]
    obtain ⟨c, y, ho, hcal, hor2⟩ := (htr.2 rfl)
    rcases hor2 with ⟨f', args', rfl, hargs, heq | heq⟩ | ⟨x', args', hy, hargs, heq⟩
    · cases heq
    · cases heq
    · simp only [AOp.callv.injEq] at heq
      obtain ⟨rfl, rfl⟩ := heq
      have h1 := RelVs.of_tr (σ := σ) (G := G) (w := w) (a := a) hargs fun x x' hx hx' => hor x x' (by rw [ho]; simp [Op.operands, Call.operands, hcal]; first | exact .inr (by simpa using hx) | exact .inl (by simpa using hx) | simpa using hx) hx'
      have hyr := hor y _ (by rw [ho]; simp [Op.operands, Call.operands, hcal]) hy
      rw [hx] at hyr
      obtain ⟨cs, hyv, hcs⟩ := hyr.clo_inv
      obtain ⟨hkn, h2⟩ := hC _ _ _ _ _ hc
      have h3 := h2 fr G w _ hw (h1.append (.of_relO hcs))
      unfold Oper.wp
      rw [run_call ho hcal hyv hkn]
      exact h3.mono fun e w' ⟨u, G', he, hgo, hrel⟩ => by subst he; exact hK u w' G' hgo hrel
  | callq hp hc =>
    rw [if_pos (pass_wanted hg hp hr)]
    obtain ⟨c, y, ho, hcal, hor2⟩ := (htr.2 rfl)
    rcases hor2 with ⟨f', args', rfl, hargs, heq | heq⟩ | ⟨x', args', hy, hargs, heq⟩
    · cases heq
    · simp only [AOp.callq.injEq] at heq
      obtain ⟨rfl, rfl⟩ := heq
      have h1 := RelVs.of_tr (σ := σ) (G := G) (w := w) (a := a) hargs fun x x' hx hx' => hor x x' (by rw [ho]; simp [Op.operands, Call.operands, hcal]; first | exact .inr (by simpa using hx) | exact .inl (by simpa using hx) | simpa using hx) hx'
      obtain ⟨hkn, h2⟩ := hC _ _ _ _ _ (hc σ)
      have h3 := h2 fr G w _ hw h1
      unfold Oper.wp
      rw [run_call ho hcal (cs := []) rfl hkn, List.append_nil]
      exact h3.mono fun e w' ⟨u, G', he, hgo, hrel⟩ => by subst he; exact hK u w' G' hgo hrel
    · cases heq
  | skip hp =>
    rw [if_neg (by rw [pass_wanted hg hp hr]; simp)]
    exact hK undef w G hw.goto (.tup .nil)
end

theorem wpOps_mono {C : Orc} {K K' : St → Prop} (hK : ∀ σ, K σ → K' σ) : ∀ (l : List AG) (σ : St), wpOps C l σ K → wpOps C l σ K'
  | [], σ, h => hK σ h
  | ⟨d, o, g⟩ :: r, σ, h => by
    have ih : ∀ σ, wpOps C r σ K → wpOps C r σ K' := wpOps_mono hK r
    have run : ∀ o, wpOps C (⟨d, o, none⟩ :: r) σ K → wpOps C (⟨d, o, none⟩ :: r) σ K' := fun o h => by
      unfold wpOps at h ⊢
      simp only at h ⊢
      split at h
      · obtain ⟨v, τ, h1, h2⟩ := h
        exact ⟨v, τ, h1, ih _ h2⟩
      · split at h
        · obtain ⟨v, τ, h1, h3, h2⟩ := h
          exact ⟨v, τ, h1, h3, ih _ h2⟩
        · cases h
      · obtain ⟨v, h1, h2⟩ := h
        exact ⟨v, h1, ih _ h2⟩
      · split at h
        · exact ih _ h
        · cases h
    cases g with
    | none => exact run o h
    | some g =>
      obtain ⟨t, b⟩ := g
      rw [wpOps_guard] at h ⊢
      unfold wpGd wpG at h ⊢
      split at h
      · exact ⟨fun hb => run o (h.1 hb), fun hb => ih _ (h.2 hb)⟩
      · exact ih _ h
      · cases h

end Go.Ra

/- Regions: in the order of the text, and in any order. -/
namespace Go.Ra
set_option linter.unusedVariables false
set_option linter.unusedSimpArgs false

def AOp.eff (q : Nat → Bool) : AOp → Bool
  | .box _ => true
  | .store .. => true
  | .app .. => true
  | .copy .. => true
  | .mks .. => true
  | .call f _ => !q f
  | _ => false

def AOp.sens (q : Nat → Bool) (o : AOp) : Bool :=
  o.eff q || match o with
    | .load .. => true
    | .b2s .. => true
    | .appf .. => true
    | .mksf .. => true
    | .aslice .. => true
    | .call .. => true
    | .callv .. => true
    | .callq .. => true
    | _ => false

def edgesOf (o : Oper) : List Nat := (o.after.toList.filter (Region.binds .any)).map (·.on)

def dstIn (d : Option Nat) (l : List Nat) : Bool :=
  match d with
  | some d => l.contains d
  | none => false

/-- A constant without memory of one's own. -/
def okConst : AV → Bool
  | .sc _ => true
  | .fro .. => true
  | .clo _ [] => true
  | _ => false
/-- A load, or a call that leaves memory alone, by names that are looked at. -/
def rdC (q : Nat → Bool) (ops : Array Oper) (x : Oper) (g : AG) : Bool :=
  match g.o with
  | .load _ _ (.t i) => (x.looksAt ops).contains i
  | .call f args => q f && args.all fun y =>
    match y with
    | .t i => (x.looksAt ops).contains i
    | .c v => okConst v
  | .callq _ _ => true
  | _ => false
/-- What only makes new memory; of calls q says so of the function's number plus 1000000. -/
def alC (q : Nat → Bool) (g : AG) : Bool :=
  match g.o with
  | .box _ => true
  | .mks .. => true
  | .app _ _ (.c (.fro true _ _)) _ => true
  | .call f _ => q (f + 1000000)
  | _ => false
/-- The one reads, the other only makes new memory: they may come in either order. -/
def excused (q : Nat → Bool) (ops : Array Oper) (x : Oper) (g : AG) (y : Oper) (h : AG) : Bool := (rdC q ops x g && alC q h) || (alC q g && rdC q ops y h)

def allN (f : Nat → Bool) : Nat → Bool
  | 0 => true
  | n + 1 => f n && allN f n

theorem allN_spec {f : Nat → Bool} : ∀ {n : Nat}, allN f n = true → ∀ k, k < n → f k = true
  | 0, _, k, hk => by omega
  | n + 1, h, k, hk => by
    simp only [allN, Bool.and_eq_true] at h
    by_cases hkn : k = n
    · subst hkn; exact h.1
    · exact allN_spec h.2 k (by omega)

def needN (ops : Array Oper) (x y : Oper) : Bool := dstIn x.dst (y.looksAt ops) || dstIn y.dst (x.looksAt ops)
def needM (q : Nat → Bool) (ops : Array Oper) (x : Oper) (g : AG) (y : Oper) (h : AG) : Bool :=
  ((g.o.eff q && h.o.sens q) || (g.o.sens q && h.o.eff q)) && !excused q ops x g y h
/-- The name of the address that is loaded from. -/
def ldN (g : AG) : Option Nat :=
  match g.o with
  | .load _ _ (.t i) => some i
  | _ => none
/-- The name of the memory that is written, or given up. -/
def efN (g : AG) : Option Nat :=
  match g.o with
  | .store _ (.t i) _ => some i
  | .app _ _ (.t i) _ => some i
  | .copy _ (.t i) _ => some i
  | _ => none
/-- No operation from the k-th on sets this name. -/
def stays (ops : Array Oper) (k t : Nat) : Bool := allN (fun j => match ops[j]? with | some o => decide (j < k) || !dstIn o.dst [t] | none => true) ops.size
/-- A load (x) and an effect (y) that may come in either order if their addresses lie apart. -/
def dynP (ops : Array Oper) (k : Nat) (x : Oper) (g : AG) (j : Nat) (y : Oper) (h : AG) : Option (Nat × Nat) :=
  match ldN g, efN h with
  | some i, some a => if (x.looksAt ops).contains i && (y.looksAt ops).contains a && stays ops k i && stays ops j a then some (i, a) else none
  | _, _ => none

def apartD (x y : Option Nat) : Bool :=
  match x, y with
  | some a, some b => decide (a ≠ b)
  | _, _ => true

mutual
/-- No memory stands behind it. -/
def AV.flat : AV → Bool
  | .sc _ => true
  | .agg _ ts => AV.flats ts
  | .arr _ _ ts => AV.flats ts
  | .fro _ _ [] => true
  | _ => false
def AV.flats : List AV → Bool
  | [] => true
  | t :: ts => t.flat && AV.flats ts
end
/-- A new variable of a constant, that waits for nothing; what waits for it waits for all that is done ahead of it in the text. -/
def flChk (q : Nat → Bool) (ops : Array Oper) (l : List AG) (ms : Array Nat) (k : Nat) : Bool :=
  match ops[k]?, l[k]? with
  | some o, some ⟨_, .box (.c z), none⟩ => z.flat && (edgesOf o).isEmpty && (o.looksAt ops).isEmpty && allN (fun m =>
      match ops[m]? with
      | some x => !(edgesOf x).contains k || allN (fun j =>
        match l[j]? with
        | some g => !g.o.eff q || (ms.getD m 0).testBit j
        | none => true) k
      | none => true) ops.size
  | _, _ => false
def fstN (p : Nat → Bool) : Nat → Option Nat
  | 0 => none
  | n + 1 => match fstN p n with
    | some k => some k
    | none => if p n then some n else none
theorem fstN_spec {p : Nat → Bool} : ∀ {n k : Nat}, fstN p n = some k → p k = true
  | 0, k, h => by cases h
  | n + 1, k, h => by
    simp only [fstN] at h
    split at h
    · rename_i k' hk
      simp only [Option.some.injEq] at h
      subst h
      exact fstN_spec hk
    · split at h
      · rename_i hp
        simp only [Option.some.injEq] at h
        subst h
        exact hp
      · cases h

/-- Are two operations in order, or may they come in either? Those whose addresses must lie apart are told. -/
def okPair (q : Nat → Bool) (ops : Array Oper) (l : List AG) (ms : Array Nat) (f0 : Option Nat) (k j : Nat) : Option (List (Nat × Nat)) :=
  match ops[k]?, l[k]?, ops[j]?, l[j]? with
  | some y, some h, some x, some g =>
    if (!(ms.getD k 0).testBit j || (edgesOf y).any fun e => e == j || (decide (j < e) && (ms.getD e 0).testBit j)) && ((ms.getD k 0).testBit j || !needN ops x y) && apartD x.dst y.dst then
      if (ms.getD k 0).testBit j || !needM q ops x g y h || (f0 == some k && g.o.eff q) then some [] else
      match dynP ops j x g k y h, dynP ops k y h j x g with
      | some p, _ => some [p]
      | _, some p => some [p]
      | none, none => none
    else none
  | _, _, _, _ => none

/-- All lists, one behind the other. -/
def catN {α : Type} (f : Nat → Option (List α)) : Nat → Option (List α)
  | 0 => some []
  | n + 1 =>
    match f n, catN f n with
    | some a, some b => some (a ++ b)
    | _, _ => none

theorem catN_spec {α : Type} {f : Nat → Option (List α)} : ∀ {n : Nat} {l : List α}, catN f n = some l → ∀ k, k < n → ∃ a, f k = some a ∧ ∀ x ∈ a, x ∈ l
  | 0, l, h, k, hk => by omega
  | n + 1, l, h, k, hk => by
    simp only [catN] at h
    split at h
    · rename_i a b ha hb
      simp only [Option.some.injEq] at h
      subst h
      by_cases hkn : k = n
      · subst hkn; exact ⟨a, ha, fun x hx => List.mem_append_left _ hx⟩
      · obtain ⟨c, h1, h2⟩ := catN_spec hb k (by omega)
        exact ⟨c, h1, fun x hx => List.mem_append_right _ (h2 x hx)⟩
    · cases h

/-- May the operations of a region come up in any order that its edges allow, as if it were the text's? The names whose addresses must lie apart for that. -/
def okR (q : Nat → Bool) (ops : Array Oper) (l : List AG) : Option (List (Nat × Nat)) :=
  let ms := Region.before ops
  if allN (fun k => match ops[k]? with | some o => (edgesOf o).all fun e => decide (e < k) | none => false) ops.size then
    catN (fun k => catN (okPair q ops l ms (fstN (flChk q ops l ms) ops.size) k) k) ops.size
  else none

/-- A state of a walk: what is known of the temporaries and of memory. -/
def Env (G : Gh) (w : World) (σ : St) (a : Act) : Prop := ∀ t, RelV w G.F G.ρ (get σ.env t) (a.tmps.getD t undef)

def Sim (fr : Fr) (G0 : Gh) (w0 : World) (nt : Nat) (σ : St) (a : Act) (w : World) : Prop :=
  ∃ G, Goto fr G0 w0 G w σ ∧ Env G w σ a ∧ a.defers = [] ∧ a.tmps.size = nt

theorem Goto.trans {fr : Fr} {G0 G G' : Gh} {w0 w w' : World} {σ τ : St} (h : Goto fr G0 w0 G w σ) (k : Goto fr G w G' w' τ) : Goto fr G0 w0 G' w' τ :=
  ⟨k.wf, k.fr, h.ext.trans k.ext h.leF, fun b hb => k.leF b (h.leF b hb), fun i l hi => k.leR i l (h.leR i l hi)⟩

theorem Goto.same {fr : Fr} {G0 G : Gh} {w0 w : World} {σ τ : St} (h : Goto fr G0 w0 G w σ) (h1 : τ.hl = σ.hl) (h2 : τ.hb = σ.hb) (h3 : τ.n = σ.n) : Goto fr G0 w0 G w τ := by
  have e : τ.H = σ.H := by unfold St.H; rw [h1, h2]
  unfold Goto at *
  rw [e, h3]; exact h

theorem Goto.drew {fr : Fr} {G0 G : Gh} {w0 w : World} {σ : St} (h : Goto fr G0 w0 G w σ) {w' : World} (hs : SameHeap w w') : Goto fr G0 w0 G w' σ :=
  h.trans (Nxt.same h.wf h.fr hs)

theorem put_get {a : Act} {nt d t : Nat} {u : Value} (hs : a.tmps.size = nt) (hd : d < nt) : (a.put (some d) u).tmps.getD t undef = if t = d then u else a.tmps.getD t undef := by
  simp only [Act.put, Array.getD_eq_getD_getElem?, Array.getElem?_setIfInBounds]
  by_cases h : d = t
  · subst h; simp [hs, hd]
  · rw [if_neg h, if_neg (fun e => h e.symm)]
theorem put_defers {a : Act} {d : Option Nat} {u : Value} : (a.put d u).defers = a.defers := by cases d <;> rfl
theorem put_size {a : Act} {d : Option Nat} {u : Value} : (a.put d u).tmps.size = a.tmps.size := by cases d <;> simp [Act.put]
theorem put_env {σ : St} {d : Option Nat} {v : AV} {t : Nat} : get (σ.put d v).env t = if d = some t then v else get σ.env t := by
  cases d with
  | none => simp [St.put]
  | some d =>
    simp only [St.put, get, Option.some.injEq]
    by_cases h : d = t
    · subst h; simp
    · rw [if_neg h, if_neg (fun e => h e.symm)]
theorem put_hl {σ : St} {d : Option Nat} {v : AV} : (σ.put d v).hl = σ.hl := by cases d <;> rfl
theorem put_hb {σ : St} {d : Option Nat} {v : AV} : (σ.put d v).hb = σ.hb := by cases d <;> rfl
theorem put_n {σ : St} {d : Option Nat} {v : AV} : (σ.put d v).n = σ.n := by cases d <;> rfl

theorem env_put {G G' : Gh} {fr : Fr} {w w' : World} {σ τ : St} {a : Act} {nt : Nat} {d : Option Nat} {v : AV} {u : Value} (he : Env G w σ a) (hs : a.tmps.size = nt) (hd : ∀ t, d = some t → t < nt) (hgo : Goto fr G w G' w' τ) (henv : τ.env = σ.env) (hr : RelV w' G'.F G'.ρ v u) :
    Env G' w' (τ.put d v) (a.put d u) := by
  intro t
  rw [put_env]
  cases d with
  | none =>
    rw [if_neg (by simp), henv]
    exact hgo.mono (he t)
  | some d =>
    rw [put_get hs (hd d rfl)]
    by_cases h : d = t
    · subst h; simpa using hr
    · rw [if_neg (by simpa using h), if_neg (fun e => h e.symm), henv]
      exact hgo.mono (he t)

theorem mapM_cons_inv {α β : Type} {f : α → Option β} {x : α} {xs : List α} {r : List β} (h : (x :: xs).mapM f = some r) : ∃ y ys, f x = some y ∧ xs.mapM f = some ys ∧ r = y :: ys := by
  rw [List.mapM_cons] at h
  cases hx : f x with
  | none => rw [hx] at h; cases h
  | some y =>
    rw [hx] at h
    cases hxs : xs.mapM f with
    | none => rw [hxs] at h; cases h
    | some ys =>
      rw [hxs] at h
      exact ⟨y, ys, rfl, rfl, by simpa using h.symm⟩

theorem mapM_get {α β : Type} {f : α → Option β} : ∀ {l : List α} {r : List β}, l.mapM f = some r → ∀ (k : Nat) (x : α), l[k]? = some x → ∃ y, r[k]? = some y ∧ f x = some y
  | [], r, h, k, x, hk => by simp at hk
  | a :: l, r, h, k, x, hk => by
    obtain ⟨y, ys, h1, h2, rfl⟩ := mapM_cons_inv h
    cases k with
    | zero =>
      simp only [List.getElem?_cons_zero, Option.some.injEq] at hk
      subst hk
      exact ⟨y, rfl, h1⟩
    | succ k => exact mapM_get h2 k x (by simpa using hk)

theorem mapM_len {α β : Type} {f : α → Option β} : ∀ {l : List α} {r : List β}, l.mapM f = some r → r.length = l.length
  | [], r, h => by simp at h; subst h; rfl
  | a :: l, r, h => by
    obtain ⟨y, ys, h1, h2, rfl⟩ := mapM_cons_inv h
    simp [mapM_len h2]

section
variable {P : Program} {z : ZM}
theorem trOper_inv {nt : Nat} {ops : Array Oper} {o : Oper} {g : AG} (h : trOper z P nt ops o = some g) : TrO P o.op g.o ∧ trG ops o.guard = some g.g ∧ g.d = o.dst ∧ ∀ t, o.dst = some t → t < nt := by
  unfold trOper at h
  split at h
  · rename_i ao g' h1 h2
    cases hd : o.dst with
    | none =>
      rw [hd] at h
      simp only [if_true, Option.some.injEq] at h
      subst h
      exact ⟨trO_of h1 z, h2, rfl, fun t ht => by cases ht⟩
    | some d =>
      rw [hd] at h
      simp only [decide_eq_true_eq] at h
      split at h
      · rename_i h3
        simp only [Option.some.injEq] at h
        subst h
        refine ⟨trO_of h1 z, h2, rfl, fun t ht => ?_⟩
        simp only [Option.some.injEq] at ht
        subst ht
        exact h3
      · cases h
  · cases h

theorem Stp.env {C : Orc} {σ τ : St} {o : Op} {g : AG} {v : AV} (htr : TrO P o g.o) (h : Stp C σ g v τ) : τ.env = σ.env := by
  cases h with
  | op hp hs =>
    obtain ⟨c, rfl, _⟩ := htr.1 σ τ v hs
    exact c.st_env σ
  | call hp hc => rfl
  | callv hp hx hc _ => rfl
  | callq hp hc => rfl
  | skip hp => rfl

theorem step_of {P : Program} {z : ZM} {C : Orc} (hC : OrcOk P C) {nt : Nat} {ops : Array Oper} {o : Oper} {g : AG} (htr : trOper z P nt ops o = some g) {σ τ : St} {v : AV} (h : Stp C σ g v τ)
    {fr : Fr} {G : Gh} {w : World} {a : Act} (hw : Own fr G w σ) (hr : ∀ t ∈ o.looksAt ops, RelV w G.F G.ρ (get σ.env t) (a.tmps.getD t undef)) {K : Act → World → Prop} {Q : Exit → Act → World → Prop}
    (hK : ∀ u w' G', Goto fr G w G' w' τ → RelV w' G'.F G'.ρ v u → K (a.put o.dst u) w') :
    if Region.wanted o (yielded ops a.tmps) = true then o.wp P a w K Q else K (a.put o.dst undef) w := by
  obtain ⟨h1, h2, h3, h4⟩ := trOper_inv htr
  obtain ⟨d, ao, g'⟩ := g
  simp only at h1 h2 h3
  subst h3
  exact stp_sound hC h1 h2 h hw hr hK

/-- A region in the order of the text. -/
theorem text_list {C : Orc} (hC : OrcOk P C) {nt : Nat} {ops : Array Oper} {fr : Fr} {G0 : Gh} {w0 : World} {KA : St → Prop} {Q : Exit → Act → World → Prop} (hQ : ∀ σ a w, Sim fr G0 w0 nt σ a w → KA σ → Q .normal a w) :
    ∀ (l : List Oper) (r : List AG), l.mapM (trOper z P nt ops) = some r → ∀ (σ : St) (a : Act) (w : World), Sim fr G0 w0 nt σ a w → wpOps C r σ KA → wpList P ops Q l a w
  | [], r, hr, σ, a, w, hs, h => by
    simp at hr
    subst hr
    exact hQ σ a w hs h
  | o :: l, r, hr, σ, a, w, hs, h => by
    obtain ⟨g, gs, h1, h2, rfl⟩ := mapM_cons_inv hr
    obtain ⟨v, τ, h3, h4⟩ := wpOps_step h
    obtain ⟨t1, t2, t3, t4⟩ := trOper_inv h1
    obtain ⟨G, s1, s2, s3, s4⟩ := hs
    have := step_of hC h1 h3 (a := a) s1.own (fun t _ => s2 t) (K := wpList P ops Q l) (Q := Q) (fun u w' G' hgo hrel => by
      refine text_list hC hQ l gs h2 (τ.put g.d v) _ w' ⟨G', ?_, ?_, ?_, ?_⟩ h4
      · exact (s1.trans hgo).same put_hl put_hb put_n
      · rw [t3]
        exact env_put s2 s4 t4 hgo (h3.env t1) hrel
      · rw [put_defers]; exact s3
      · rw [put_size]; exact s4)
    unfold wpList
    split
    · rename_i hw
      rw [if_pos hw] at this
      exact .inl this
    · rename_i hw
      rw [if_neg hw] at this
      exact this
end

theorem stepE_same {q : Nat → Bool} {o : AOp} {σ τ : St} {v : AV} (he : o.eff q = false) (h : stepE o σ = some (v, τ)) : τ = σ := by
  cases o <;> simp only [AOp.eff] at he <;> first | (cases he; done) | skip
  all_goals
    simp only [stepE] at h
    repeat' split at h
    all_goals first
      | (cases h; done)
      | (simp only [Option.some.injEq, Prod.mk.injEq] at h; exact h.2.symm)

theorem ev_env {σ : St} {hl : List (Nat × Option AV)} {hb : Nat → Option AV} {n : Nat} : St.ev ⟨σ.env, hl, hb, n⟩ = σ.ev := by
  funext x; cases x <;> rfl

theorem stepE_pure {q : Nat → Bool} {o : AOp} {σ τ : St} {v : AV} (he : o.sens q = false) (h : stepE o σ = some (v, τ)) (hl : List (Nat × Option AV)) (hb : Nat → Option AV) (n : Nat) : stepE o ⟨σ.env, hl, hb, n⟩ = some (v, ⟨σ.env, hl, hb, n⟩) := by
  cases o <;> simp only [AOp.sens, AOp.eff, Bool.or_false, Bool.or_true, Bool.true_or, Bool.or_eq_false_iff] at he <;> first | (cases he; done) | (cases he.2; done) | skip
  all_goals
    simp only [stepE, ev_env] at h ⊢
    repeat' split at h
    all_goals first
      | (cases h; done)
      | (simp only [Option.some.injEq, Prod.mk.injEq] at h; obtain ⟨rfl, rfl⟩ := h; simp_all)
end Go.Ra

