/- Abstract values, abstract code and its step function: no theorem on Go here. -/
import GoSem.Dispatch
import GoSem.Core.Region
namespace Go.Ra
set_option linter.unusedVariables false

/-- Abstract values. -/
inductive AV where
  | sc (v : Value)
  | agg (n : Nat) (ts : List AV)
  | arr (n es : Nat) (ts : List AV)
  | fro (x : Bool) (es : Nat) (ts : List AV)
  | fptr (t : AV)
  | sl (id : Nat) (path : List Nat) (off k len es : Nat)
  | ptr (id : Nat) (path : List Nat) (off : Nat)
  | clo (f : Nat) (caps : List AV)
  | tup (vs : List AV)
  | anyb
  | unk
  deriving Inhabited

def AV.size : AV → Nat
  | .agg n _ => n
  | .arr n es _ => n * es
  | _ => 1

def AV.isAgg : AV → Bool
  | .agg _ _ => true
  | .arr _ _ _ => true
  | _ => false

def I (n : Int) : AV := .sc (.int .i64 n)
def U32 (n : Int) : AV := .sc (.int .u32 n)
def U8 (n : Int) : AV := .sc (.int .u8 n)
def B (b : Bool) : AV := .sc (.bool b)

/-- Operands of abstract code. -/
inductive AX where
  | t (i : Nat)
  | c (v : AV)
  deriving Inhabited

/-- Shapes of types whose values can be compared. -/
inductive TS where
  | int
  | bool
  | agg (l : List (Nat × TS))
  | arr (n es : Nat) (e : TS)
  deriving Inhabited

/-- Abstract operations: all that hangs on types is resolved. -/
inductive AOp where
  | mv (x : AX)
  | pick (c a b : AX)
  | box (x : AX)                                          -- a new variable
  | build (n : Nat) (zero : List AV) (parts : List (Nat × AX))      -- a struct
  | bsl (es : Nat) (xs : List AX)                         -- a slice literal without gaps
  | barr (n es : Nat) (xs : List AX)                      -- an array literal without gaps
  | load (ag : Bool) (n : Nat) (x : AX)
  | store (n : Nat) (x v : AX)
  | nilck (x : AX)
  | bin (op : BinOp) (x y : AX)
  | eqs (neg : Bool) (ts : TS) (x y : AX)                 -- == and != of bools, structs and arrays
  | eqn (neg : Bool) (x : AX)                             -- == and != of a slice and nil
  | un (op : UnOp) (x : AX)
  | conv (k : IntKind) (x : AX)
  | b2s (x : AX)                                          -- []byte to string
  | slice (es : Nat) (x : AX) (lo hi : Option AX)         -- of a slice
  | aslice (n es : Nat) (x : AX) (lo hi : Option AX)      -- of an array behind a pointer
  | fadr (i off n : Nat) (x : AX)
  | iadr (arr : Option Nat) (es : Nat) (x i : AX)
  | ext (x : AX) (i : Nat)
  | mkf (f : Nat) (caps : List AX)
  | mks (es bytes : Nat) (zero : AV) (len : AX)           -- make([]T, len)
  | app (es bytes : Nat) (s x : AX)
  | appf (es bytes : Nat) (x : AX)                        -- append([]T(nil), x...), for reading
  | mksf (es bytes : Nat) (zero : AV) (len : AX)          -- make([]T, len), for reading
  | len (arr : Option Nat) (x : AX)
  | lens (x : AX)
  | copy (es : Nat) (x y : AX)
  | min (xs : List AX)
  | max (xs : List AX)
  | call (f : Nat) (args : List AX)
  | callv (f : AX) (args : List AX)
  deriving Inhabited

structure AG where
  d : Option Nat
  o : AOp
  g : Option (Nat × Bool) := none
  deriving Inhabited

inductive AC where
  | skip
  | ops (l : List AG)
  | seq (a b : AC)
  | cond (c : AX) (x y : AC)
  | block (id : Nat) (c : AC)
  | loop (c : AC)
  | exit (id : Nat)
  | ret
  deriving Inhabited

/-- Abstract states. -/
structure St where
  env : List (Nat × AV)
  hl : List (Nat × Option AV)
  hb : Nat → Option AV
  n : Nat

def get : List (Nat × AV) → Nat → AV
  | [], _ => .unk
  | (k, v) :: l, i => if i = k then v else get l i

def look : List (Nat × Option AV) → (Nat → Option AV) → Nat → Option AV
  | [], h, i => h i
  | (k, v) :: l, h, i => if i = k then v else look l h i

def hset : List (Nat × Option AV) → Nat → Option AV → List (Nat × Option AV)
  | [], i, t => [(i, t)]
  | (k, v) :: l, i, t => if i = k then (k, t) :: l else (k, v) :: hset l i t

def St.ev (σ : St) : AX → AV
  | .t i => get σ.env i
  | .c v => v
def St.H (σ : St) : Nat → Option AV := look σ.hl σ.hb
def St.put (σ : St) (d : Option Nat) (v : AV) : St :=
  match d with
  | some d => ⟨(d, v) :: σ.env, σ.hl, σ.hb, σ.n⟩
  | none => σ
def St.hput (σ : St) (i : Nat) (t : Option AV) : St := ⟨σ.env, hset σ.hl i t, σ.hb, σ.n⟩
def St.new (σ : St) (t : AV) : St := ⟨σ.env, (σ.n, some t) :: σ.hl, σ.hb, σ.n + 1⟩

def sizes : List AV → Nat
  | [] => 0
  | t :: ts => t.size + sizes ts

/-- The part at a path, and how many cells lie ahead of it. -/
def AV.at? : AV → List Nat → Option (Nat × AV)
  | t, [] => some (0, t)
  | .agg _ ts, i :: p =>
    match ts[i]? with
    | some t =>
      match AV.at? t p with
      | some (o, u) => some (sizes (ts.take i) + o, u)
      | none => none
    | none => none
  | .arr _ es ts, i :: p =>
    match ts[i]? with
    | some t =>
      match AV.at? t p with
      | some (o, u) => some (i * es + o, u)
      | none => none
    | none => none
  | _, _ :: _ => none
  termination_by t p => p.length

mutual
/-- No name of own memory stands in it. -/
def AV.idfree : AV → Bool
  | .agg _ ts => AV.idfrees ts
  | .clo _ cs => AV.idfrees cs
  | .sl .. => false
  | .ptr .. => false
  | .tup _ => false
  | _ => true
def AV.idfrees : List AV → Bool
  | [] => true
  | t :: ts => t.idfree && AV.idfrees ts
end

def AV.set? : AV → List Nat → AV → Option AV
  | _, [], v => some v
  | .agg n ts, i :: p, v =>
    match ts[i]? with
    | some t =>
      match AV.set? t p v with
      | some u => some (.agg n (ts.set i u))
      | none => none
    | none => none
  | .arr n es ts, i :: p, v =>
    match ts[i]? with
    | some t =>
      match AV.set? t p v with
      | some u => if v.idfree then some (.arr n es (ts.set i u)) else none
      | none => none
    | none => none
  | _, _ :: _, _ => none
  termination_by t p _ => p.length

def AV.storable : AV → Bool
  | .tup _ => false
  | .anyb => false
  | .unk => false
  | _ => true

/-- The elements of a slice. -/
def St.row (σ : St) (es : Nat) : AV → Option (List AV)
  | .fro _ es' ts => if es' = es ∨ ts = [] then some ts else none
  | .sl id path off k len es2 => if len = 0 then some [] else
    match σ.H id with
    | some t =>
      match t.at? path with
      | some (o, .arr _ es' ts) => if es2 = es ∧ es' = es ∧ off = o + k * es ∧ k + len ≤ ts.length then some ((ts.drop k).take len) else none
      | _ => none
    | none => none
  | _ => none

def St.loadA (σ : St) : AV → Option AV
  | .fptr t => some t
  | .ptr id path off =>
    match σ.H id with
    | some t =>
      match t.at? path with
      | some (o, u) => if o = off then some u else none
      | none => none
    | none => none
  | _ => none

def wrap64 (n : Int) : Int := IntKind.i64.wrap n

def bitsI (op : BinOp) (k : IntKind) (a b : Int) : Int :=
  match op with
  | .and => k.wrap (BitVec.ofInt k.bits a &&& BitVec.ofInt k.bits b).toNat
  | .or => k.wrap (BitVec.ofInt k.bits a ||| BitVec.ofInt k.bits b).toNat
  | .xor => k.wrap (BitVec.ofInt k.bits a ^^^ BitVec.ofInt k.bits b).toNat
  | _ => k.wrap (BitVec.ofInt k.bits a &&& ~~~ BitVec.ofInt k.bits b).toNat

def intBin (op : BinOp) (k : IntKind) (a b : Int) : Option Value :=
  match op with
  | .add => some (.int k (k.wrap (a + b)))
  | .sub => some (.int k (k.wrap (a - b)))
  | .mul => some (.int k (k.wrap (a * b)))
  | .quo => if b = 0 then none else some (.int k (k.wrap (a.tdiv b)))
  | .rem => if b = 0 then none else some (.int k (a.tmod b))
  | .and => some (.int k (bitsI .and k a b))
  | .or => some (.int k (bitsI .or k a b))
  | .xor => some (.int k (bitsI .xor k a b))
  | .andNot => some (.int k (bitsI .andNot k a b))
  | .eql => some (.bool (decide (a = b)))
  | .neq => some (.bool (decide (¬ a = b)))
  | .lss => some (.bool (decide (a < b)))
  | .leq => some (.bool (decide (a ≤ b)))
  | .gtr => some (.bool (decide (a > b)))
  | .geq => some (.bool (decide (a ≥ b)))
  | _ => none

def shI (op : BinOp) (k : IntKind) (a b : Int) : Option Value :=
  if b < 0 then none else
  match op with
  | .shl => some (.int k (k.wrap (a * 2 ^ (Nat.min b.toNat k.bits))))
  | .shr => some (.int k (a.fdiv (2 ^ (Nat.min b.toNat k.bits))))
  | _ => none

def isShift : BinOp → Bool
  | .shl => true
  | .shr => true
  | _ => false

def binV (op : BinOp) (x y : Value) : Option Value :=
  match x, y with
  | .int k a, .int k' b => if isShift op then shI op k a b else if k = k' then intBin op k a b else none
  | .string a, .string b =>
    match op with
    | .eql => some (.bool (decide (a.toList = b.toList)))
    | .neq => some (.bool (!decide (a.toList = b.toList)))
    | .add => if a.size + b.size ≤ 140737488351232 then some (.string (a ++ b)) else none
    | _ => none
  | _, _ => none

mutual
/-- == of two values of a shape. -/
def eqT : TS → AV → AV → Option Bool
  | .int, .sc (.int k a), .sc (.int k' b) => if k = k' then some (decide (a = b)) else none
  | .bool, .sc (.bool a), .sc (.bool b) => some (a == b)
  | .agg l, .agg _ ts, .agg _ us => eqTs l ts us
  | .arr n es e, .arr _ es' ts, .arr _ es'' us => if es' = es ∧ es'' = es ∧ ts.length = n ∧ us.length = n then eqTe e ts us else none
  | _, _, _ => none
def eqTs : List (Nat × TS) → List AV → List AV → Option Bool
  | [], [], [] => some true
  | (n, e) :: l, t :: ts, u :: us =>
    if t.size = n ∧ u.size = n then
      match eqT e t u, eqTs l ts us with
      | some a, some b => some (a && b)
      | _, _ => none
    else none
  | _, _, _ => none
def eqTe (e : TS) : List AV → List AV → Option Bool
  | [], [] => some true
  | t :: ts, u :: us =>
    match eqT e t u, eqTe e ts us with
    | some a, some b => some (a && b)
    | _, _ => none
  | _, _ => none
end

def eqnV (neg : Bool) : AV → Option AV
  | .fro _ _ ts => some (if ts.isEmpty then .anyb else B neg)
  | .sl _ _ _ _ len _ => some (if len = 0 then .anyb else B neg)
  | _ => none

def notV : AV → Option AV
  | .sc (.bool b) => some (B (!b))
  | .anyb => some .anyb
  | _ => none

def bytesOf : List AV → Option (List UInt8)
  | [] => some []
  | .sc (.int .u8 n) :: l =>
    match bytesOf l with
    | some r => some (UInt8.ofNat n.toNat :: r)
    | none => none
  | _ :: _ => none

def asI : AV → Option Int
  | .sc (.int _ n) => some n
  | _ => none

def boundsA (len : Nat) (lo hi : Option AV) : Option (Nat × Nat) :=
  match (match lo with | some v => asI v | none => some 0), (match hi with | some v => asI v | none => some (len : Int)) with
  | some l, some h => if 0 ≤ l ∧ l ≤ h ∧ h ≤ len then some (l.toNat, h.toNat) else none
  | _, _ => none

def partsA (zero : List AV) : List (Nat × AV) → Option (List AV)
  | [] => some zero
  | (i, v) :: r =>
    match zero[i]? with
    | some z => if v.size = z.size ∧ v.storable = true ∧ v.isAgg = z.isAgg then partsA (zero.set i v) r else none
    | none => none

def allOk (es : Nat) : List AV → Bool
  | [] => true
  | v :: r => v.size == es && v.storable && v.idfree && allOk es r

def capsOk : List AV → Bool
  | [] => true
  | v :: r => v.storable && !v.isAgg && capsOk r

def appA (σ : St) (es bytes : Nat) (s : AV) (xs : List AV) : Option (AV × St) :=
  match s with
  | .fro true es' ts => if (es' = es ∨ ts = []) ∧ (ts = [] ∨ xs ≠ []) ∧ 0 < bytes ∧ (ts.length + xs.length) * bytes ≤ 140737488355328 then
      some (.sl σ.n [] 0 0 (ts.length + xs.length) es, σ.new (.arr (ts.length + xs.length) es (ts ++ xs))) else none
  | .sl id [] off k len es' =>
    match σ.H id with
    | some (.arr _ es'' ts) => if es'' = es ∧ es' = es ∧ off = k * es ∧ k + len ≤ ts.length ∧ 0 < bytes ∧ (len + xs.length) * bytes ≤ 140737488355328 then
        some (.sl σ.n [] 0 0 (len + xs.length) es, (σ.hput id none).new (.arr (len + xs.length) es ((ts.drop k).take len ++ xs))) else none
    | _ => none
  | _ => none

def foldJ (f : Int → Int → Int) (k : IntKind) (a : Int) : List AV → Option AV
  | [] => some (.sc (.int k a))
  | .sc (.int k' b) :: l => if k = k' then foldJ f k (f a b) l else none
  | _ => none

def foldI (f : Int → Int → Int) : List AV → Option AV
  | .sc (.int k a) :: l => foldJ f k a l
  | _ => none

def stepE (o : AOp) (σ : St) : Option (AV × St) :=
  match o with
  | .mv x => some (σ.ev x, σ)
  | .pick c a b =>
    match σ.ev c with
    | .sc (.bool b') => some (if b' then σ.ev a else σ.ev b, σ)
    | _ => none
  | .box x => if (σ.ev x).storable then some (.ptr σ.n [] 0, σ.new (σ.ev x)) else none
  | .build n zero parts =>
    match partsA zero (parts.map fun p => (p.1, σ.ev p.2)) with
    | some ts => some (.agg n ts, σ)
    | none => none
  | .barr n es xs => if allOk es (xs.map σ.ev) ∧ xs.length = n then some (.arr n es (xs.map σ.ev), σ) else none
  | .bsl es xs => if allOk es (xs.map σ.ev) then some (.fro true es (xs.map σ.ev), σ) else none
  | .load ag n x =>
    match σ.loadA (σ.ev x) with
    | some u => if u.isAgg = ag ∧ u.size = n then some (u, σ) else none
    | none => none
  | .store n x v =>
    match σ.ev x with
    | .ptr id path off =>
      match σ.H id with
      | some t =>
        match t.at? path, t.set? path (σ.ev v) with
        | some (o, u), some t' => if o = off ∧ u.size = n ∧ (σ.ev v).size = n ∧ (σ.ev v).storable = true then some (.tup [], σ.hput id (some t')) else none
        | _, _ => none
      | none => none
    | _ => none
  | .nilck x =>
    match σ.ev x with
    | .ptr id p o => some (.ptr id p o, σ)
    | .fptr t => some (.fptr t, σ)
    | .clo f c => some (.clo f c, σ)
    | _ => none
  | .bin op x y =>
    match σ.ev x, σ.ev y with
    | .sc a, .sc b =>
      match binV op a b with
      | some v => some (.sc v, σ)
      | none => none
    | _, _ => none
  | .eqs neg ts x y =>
    match eqT ts (σ.ev x) (σ.ev y) with
    | some b => some (B (if neg then !b else b), σ)
    | none => none
  | .eqn neg x =>
    match eqnV neg (σ.ev x) with
    | some v => some (v, σ)
    | none => none
  | .un op x =>
    match op, σ.ev x with
    | .not, v =>
      match notV v with
      | some v => some (v, σ)
      | none => none
    | .neg, .sc (.int k a) => some (.sc (.int k (k.wrap (0 - a))), σ)
    | .xor, .sc (.int k a) => some (.sc (.int k (bitsI .xor k (if k.signed then -1 else k.max) a)), σ)
    | _, _ => none
  | .conv k x =>
    match σ.ev x with
    | .sc (.int _ a) => some (.sc (.int k (k.wrap a)), σ)
    | _ => none
  | .b2s x =>
    match σ.row 1 (σ.ev x) with
    | some ts =>
      match bytesOf ts with
      | some l => some (.sc (.string ⟨l.toArray⟩), σ)
      | none => none
    | none => none
  | .slice es x lo hi =>
    match σ.ev x with
    | .fro _ es' ts =>
      match boundsA ts.length (lo.map σ.ev) (hi.map σ.ev) with
      | some (l, h) => if es' = es then some (.fro false es ((ts.take h).drop l), σ) else none
      | none => none
    | .sl id path off k len es' =>
      match boundsA len (lo.map σ.ev) (hi.map σ.ev) with
      | some (l, h) => if es' = es then some (.sl id path (off + l * es) (k + l) (h - l) es, σ) else none
      | none => none
    | _ => none
  | .aslice n es x lo hi =>
    match σ.ev x with
    | .ptr id path off =>
      match boundsA n (lo.map σ.ev) (hi.map σ.ev), σ.H id with
      | some (l, h), some t =>
        match t.at? path with
        | some (o, .arr n' es' _) => if o = off ∧ n' = n ∧ es' = es ∧ 0 < es then some (.sl id path (off + l * es) l (h - l) es, σ) else none
        | _ => none
      | _, _ => none
    | .fptr (.arr n' es' ts) =>
      match boundsA n (lo.map σ.ev) (hi.map σ.ev) with
      | some (l, h) => if es' = es ∧ n' = n then some (.fro false es ((ts.take h).drop l), σ) else none
      | none => none
    | _ => none
  | .fadr i off n x =>
    match σ.ev x with
    | .ptr id path o => some (.ptr id (path ++ [i]) (o + off), σ)
    | .fptr (.agg _ ts) =>
      match ts[i]? with
      | some u => if sizes (ts.take i) = off then some (.fptr u, σ) else none
      | none => none
    | _ => none
  | .iadr a es x i =>
    match a, σ.ev x, asI (σ.ev i) with
    | none, .fro _ es' ts, some j => if 0 ≤ j ∧ es' = es then
        match ts[j.toNat]? with
        | some t => some (.fptr t, σ)
        | none => none
      else none
    | none, .sl id path off k len es', some j => if 0 ≤ j ∧ j < len ∧ es' = es then some (.ptr id (path ++ [k + j.toNat]) (off + j.toNat * es), σ) else none
    | some n, .ptr id path off, some j => if 0 ≤ j ∧ j < n then some (.ptr id (path ++ [j.toNat]) (off + j.toNat * es), σ) else none
    | some n, .fptr (.arr n' es' ts), some j => if 0 ≤ j ∧ es' = es ∧ n' = n then
        match ts[j.toNat]? with
        | some t => some (.fptr t, σ)
        | none => none
      else none
    | _, _, _ => none
  | .ext x i =>
    match σ.ev x with
    | .tup vs =>
      match vs[i]? with
      | some v => some (v, σ)
      | none => none
    | _ => none
  | .mkf f caps => if capsOk (caps.map σ.ev) then some (.clo f (caps.map σ.ev), σ) else none
  | .mks es bytes zero len =>
    match asI (σ.ev len) with
    | some n => if 0 ≤ n ∧ 0 < bytes ∧ n.toNat * bytes ≤ 140737488355328 then
        some (.sl σ.n [] 0 0 n.toNat es, σ.new (.arr n.toNat es (List.replicate n.toNat zero))) else none
    | none => none
  | .app es bytes s x =>
    match σ.row es (σ.ev x) with
    | some xs => appA σ es bytes (σ.ev s) xs
    | none => none
  | .mksf es bytes zero len =>
    match asI (σ.ev len) with
    | some n => if 0 ≤ n ∧ 0 < bytes ∧ n.toNat * bytes ≤ 140737488355328 then some (.fro false es (List.replicate n.toNat zero), σ) else none
    | none => none
  | .appf es bytes x =>
    match σ.row es (σ.ev x) with
    | some xs => if 0 < bytes ∧ xs.length * bytes ≤ 140737488355328 then some (.fro false es xs, σ) else none
    | none => none
  | .len a x =>
    match a, σ.ev x with
    | some n, _ => some (I n, σ)
    | none, .fro _ _ ts => some (I ts.length, σ)
    | none, .sl _ _ _ _ len _ => some (I len, σ)
    | _, _ => none
  | .lens x =>
    match σ.ev x with
    | .sc (.string s) => some (I s.size, σ)
    | _ => none
  | .copy es x y =>
    match σ.ev x, σ.row es (σ.ev y) with
    | .sl id [] off k len es', some xs =>
      match σ.H id with
      | some (.arr n es'' ts) => if es' = es ∧ es'' = es ∧ off = 0 ∧ k = 0 ∧ len = ts.length then
          some (I (Nat.min xs.length len), σ.hput id (some (.arr n es (xs.take len ++ ts.drop xs.length)))) else none
      | _ => none
    | _, _ => none
  | .min xs =>
    match foldI (fun a b => if b < a then b else a) (xs.map σ.ev) with
    | some v => some (v, σ)
    | none => none
  | .max xs =>
    match foldI (fun a b => if b > a then b else a) (xs.map σ.ev) with
    | some v => some (v, σ)
    | none => none
  | .call .. => none
  | .callv .. => none

/-- What is known of calls: of a function, arguments and a state: the result, and the memory behind it. -/
abbrev Orc := Nat → List AV → St → AV → St → Prop

/-- The temporaries of the one, the memory of the other. -/
def St.back (σ τ : St) : St := ⟨σ.env, τ.hl, τ.hb, τ.n⟩

def wpOps (C : Orc) : List AG → St → (St → Prop) → Prop
  | [], σ, K => K σ
  | ⟨d, o, g⟩ :: r, σ, K =>
    let run := match o with
      | .call f args => ∃ v τ, C f (args.map σ.ev) σ v τ ∧ wpOps C r ((σ.back τ).put d v) K
      | .callv x args =>
        match σ.ev x with
        | .clo f caps => ∃ v τ, C f (args.map σ.ev ++ caps) σ v τ ∧ (τ.hl = σ.hl ∧ τ.hb = σ.hb ∧ τ.n = σ.n) ∧ wpOps C r ((σ.back τ).put d v) K
        | _ => False
      | o =>
        match stepE o σ with
        | some (v, σ') => wpOps C r (σ'.put d v) K
        | none => False
    match g with
    | none => run
    | some (t, b) =>
      match get σ.env t with
      | .sc (.bool b') => (b' = b → run) ∧ (b' ≠ b → wpOps C r (σ.put d (.tup [])) K)
      | .tup [] => wpOps C r (σ.put d (.tup [])) K
      | _ => False

inductive AE where
  | normal
  | exit (id : Nat)
  | ret

def AE.then (next : St → Prop) (Φ : AE → St → Prop) : AE → St → Prop
  | .normal, σ => next σ
  | e, σ => Φ e σ

def AE.inBlock (id : Nat) (Φ : AE → St → Prop) : AE → St → Prop
  | .exit i, σ => if i = id then Φ .normal σ else Φ (.exit i) σ
  | e, σ => Φ e σ

/-- Less is said by the second value. -/
def leA (a b : AV) : Prop := b = .unk ∨ b = a ∨ ∃ x es es' ts, a = .fro x es ts ∧ b = .fro false es' ts ∧ (es' = es ∨ ts = [])
/-- Less is known of the second state. -/
def Weak (σ τ : St) : Prop :=
  (∀ i, leA (get σ.env i) (get τ.env i)) ∧ (∀ i, τ.H i = none ∨ τ.H i = σ.H i) ∧ σ.n ≤ τ.n

def wpC (C : Orc) : AC → St → (AE → St → Prop) → Prop
  | .skip, σ, Φ => Φ .normal σ
  | .ops l, σ, Φ => wpOps C l σ (Φ .normal)
  | .seq a b, σ, Φ => wpC C a σ (AE.then (fun σ' => wpC C b σ' Φ) Φ)
  | .cond c x y, σ, Φ =>
    match σ.ev c with
    | .sc (.bool b) => (b = true → wpC C x σ Φ) ∧ (b = false → wpC C y σ Φ)
    | .anyb => wpC C x σ Φ ∧ wpC C y σ Φ
    | _ => False
  | .block id c, σ, Φ => wpC C c σ (AE.inBlock id Φ)
  | .loop c, σ, Φ => ∃ (Inv : St → Prop) (μ : St → Nat), (∃ τ, Weak σ τ ∧ Inv τ) ∧
      ∀ τ, Inv τ → wpC C c τ (AE.then (fun τ' => ∃ τ'', Weak τ' τ'' ∧ Inv τ'' ∧ μ τ'' < μ τ) Φ)
  | .exit id, σ, Φ => Φ (.exit id) σ
  | .ret, σ, Φ => Φ .ret σ
end Go.Ra
