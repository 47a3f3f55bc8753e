/- Texts put together. -/
import GoSem.Dispatch
import GoSem.Core.Region
import GoSem.Core.Layout
import Derived.Laws.AppendOwn
import Derived.Laws.IdiomCopy
import Derived.Laws.Rows
import Derived.Still
import Derived.Below
import Derived.WalkKit
import Derived.Laws.Bits
import Derived.Laws.MakeOwn
import Derived.IntWalk
import Derived.Tactics
import Derived.Orders
namespace Go
theorem zaA : type_of% @Option.some.injEq := @Option.some.injEq
theorem zaB : type_of% @cond_true := @cond_true
theorem zaC : type_of% @decide_true := @decide_true
theorem zaD : type_of% @cond_false := @cond_false
theorem zaE : type_of% @decide_false := @decide_false
theorem zaF : type_of% @Nat.le_refl := @Nat.le_refl
theorem zaG : type_of% @Bool.and_eq_true := @Bool.and_eq_true
theorem zaH : type_of% @Bool.not_false := @Bool.not_false
theorem zaI : type_of% @Bool.not_true := @Bool.not_true
theorem zaJ : type_of% @Prod.mk.injEq := @Prod.mk.injEq
theorem zaK : type_of% @decide_eq_true_eq := @decide_eq_true_eq
theorem zaL : type_of% @Nat.eq_of_beq_eq_true := @Nat.eq_of_beq_eq_true
theorem zaM : type_of% @not_false_eq_true := @not_false_eq_true
theorem zaN : type_of% @not_true_eq_false := @not_true_eq_false
theorem zaO : type_of% @Int.toNat_natCast := @Int.toNat_natCast
theorem zaP : type_of% @decide_eq_false_iff_not := @decide_eq_false_iff_not
theorem zaQ : type_of% @Nat.beq_refl := @Nat.beq_refl
theorem zaR : type_of% @Bool.true_and := @Bool.true_and
theorem zaS : type_of% @Bool.and_self := @Bool.and_self
theorem zaT : type_of% @Bool.and_true := @Bool.and_true
theorem zaU : type_of% @Bool.false_eq_true := @Bool.false_eq_true
theorem zaV : type_of% @Bool.or_eq_true := @Bool.or_eq_true
theorem zaW : type_of% @Bool.and_eq_false_iff := @Bool.and_eq_false_iff
end Go
namespace Go.Ra
set_option linter.unusedVariables false
inductive AV where
 | sc (v : Value)
 | agg (n : Nat) (ts : List AV)
 | arr (n es : Nat) (ts : List AV)
 | fro (x : Bool) (es : Nat) (ts : List AV)
 | cC (t : AV)
 | sl (id : Nat) (path : List Nat) (off k len es : Nat)
 | ptr (id : Nat) (path : List Nat) (off : Nat)
 | clo (f : Nat) (caps : List AV)
 | tup (vs : List AV)
 | dV
 | unk
 deriving Inhabited
def AV.size : AV → Nat
 | .agg n _ => n
 | .arr n es _ => n * es
 | _ => 1
def AV.isAgg : AV → Bool
 | .agg _ _ => true
 | .arr _ _ _ => true
 | _ => false
def I (n : Int) : AV:=.sc (.int .i64 n)
def U32 (n : Int) : AV:=.sc (.int .u32 n)
def U8 (n : Int) : AV:=.sc (.int .u8 n)
def B (b : Bool) : AV:=.sc (.bool b)
inductive AX where
 | t (i : Nat)
 | c (v : AV)
 deriving Inhabited
inductive TS where
 | int
 | bool
 | agg (l : List (Nat × TS))
 | arr (n es : Nat) (e : TS)
 deriving Inhabited
inductive AOp where
 | mv (x : AX)
 | pick (c a b : AX)
 | box (x : AX)
 | build (n : Nat) (zero : List AV) (parts : List (Nat × AX))
 | bsl (es : Nat) (xs : List AX)
 | aRV (n es : Nat) (xs : List AX)
 | load (ag : Bool) (n : Nat) (x : AX)
 | store (n : Nat) (x v : AX)
 | xV (x : AX)
 | bin (op : BinOp) (x y : AX)
 | eqs (neg : Bool) (ts : TS) (x y : AX)
 | eqn (neg : Bool) (x : AX)
 | un (op : UnOp) (x : AX)
 | conv (k : IntKind) (x : AX)
 | b2s (x : AX)
 | slice (es : Nat) (x : AX) (lo hi : Option AX)
 | qP (n es : Nat) (x : AX) (lo hi : Option AX)
 | aJ6 (i off n : Nat) (x : AX)
 | aFS (arr : Option Nat) (es : Nat) (x i : AX)
 | ext (x : AX) (i : Nat)
 | mkf (f : Nat) (caps : List AX)
 | mks (es bytes : Nat) (zero : AV) (len : AX)
 | app (es bytes : Nat) (s x : AX)
 | aHZ (es bytes : Nat) (x : AX)
 | aM6 (es bytes : Nat) (zero : AV) (len : AX)
 | len (arr : Option Nat) (x : AX)
 | lens (x : AX)
 | copy (es : Nat) (x y : AX)
 | min (xs : List AX)
 | max (xs : List AX)
 | call (f : Nat) (args : List AX)
 | mD (f : AX) (args : List AX)
 | j6 (f : Nat) (args : List AX)
 deriving Inhabited
structure AG where
 d : Option Nat
 o : AOp
 g : Option (Nat × Bool):=none
 deriving Inhabited
inductive AC where
 | skip
 | ops (l : List AG)
 | aFT (l : List AG) (ps : List (Nat × Nat))
 | seq (a b : AC)
 | cond (c : AX) (x y : AC)
 | block (id : Nat) (c : AC)
 | loop (c : AC)
 | exit (id : Nat)
 | ret
 | frz
 deriving Inhabited
structure St where
 env : List (Nat × AV)
 hl : List (Nat × Option AV)
 hb : Nat → Option AV
 n : Nat
def get : List (Nat × AV) → Nat → AV
 | [],_ => .unk
 |(k,v) :: l,i => if i = k then v else get l i
def look : List (Nat × Option AV) → (Nat → Option AV) → Nat → Option AV
 | [],h,i => h i
 |(k,v) :: l,h,i => if i = k then v else look l h i
def sI : List (Nat × Option AV) → Nat → Option AV → List (Nat × Option AV)
 | [],i,t => [(i,t)]
 |(k,v) :: l,i,t => if i = k then (k,t) :: l else (k,v) :: sI l i t
def St.ev (σ : St) : AX → AV
 | .t i => get σ.env i
 | .c v => v
def St.H (σ : St) : Nat → Option AV:=look σ.hl σ.hb
def St.put (σ : St) (d : Option Nat) (v : AV) : St :=
 match d with
 | some d => ⟨(d,v) :: σ.env,σ.hl,σ.hb,σ.n⟩
 | none => σ
def St.n7 (σ : St) (i : Nat) (t : Option AV) : St:=⟨σ.env,sI σ.hl i t,σ.hb,σ.n⟩
def St.new (σ : St) (t : AV) : St:=⟨σ.env,(σ.n,some t) :: σ.hl,σ.hb,σ.n + 1⟩
def iV : List AV → Nat
 | [] => 0
 | t :: ts => t.size + iV ts
def AV.at? : AV → List Nat → Option (Nat × AV)
 | t,[] => some (0,t)
 | .agg _ ts,i :: p =>
  match ts[i]? with
  | some t =>
   match AV.at? t p with
   | some (o,u) => some (iV (ts.take i) + o,u)
   | none => none
  | none => none
 | .arr _ es ts,i :: p =>
  match ts[i]? with
  | some t =>
   match AV.at? t p with
   | some (o,u) => some (i * es + o,u)
   | none => none
  | none => none
 | _,_ :: _ => none
 termination_by t p => p.length
mutual
def AV.eJ : AV → Bool
 | .agg _ ts => AV.iW ts
 | .clo _ cs => AV.iW cs
 | .sl .. => false
 | .ptr .. => false
 | .tup _ => false
 | _ => true
def AV.iW : List AV → Bool
 | [] => true
 | t :: ts => t.eJ && AV.iW ts
end
def AV.set? : AV → List Nat → AV → Option AV
 | _,[],v => some v
 | .agg n ts,i :: p,v =>
  match ts[i]? with
  | some t =>
   match AV.set? t p v with
   | some u => some (.agg n (ts.set i u))
   | none => none
  | none => none
 | .arr n es ts,i :: p,v =>
  match ts[i]? with
  | some t =>
   match AV.set? t p v with
   | some u => if v.eJ then some (.arr n es (ts.set i u)) else none
   | none => none
  | none => none
 | _,_ :: _,_ => none
 termination_by t p _ => p.length
def AV.storable : AV → Bool
 | .tup _ => false
 | .dV => false
 | .unk => false
 | _ => true
def St.row (σ : St) (es : Nat) : AV → Option (List AV)
 | .fro _ es' ts => if es' = es ∨ ts = [] then some ts else none
 | .sl id path off k len es2 => if len = 0 then some [] else
  match σ.H id with
  | some t =>
   match t.at? path with
   | some (o,.arr _ es' ts) => if es2 = es ∧ es' = es ∧ off = o + k * es ∧ k + len ≤ ts.length then some ((ts.drop k).take len) else none
   | _ => none
  | none => none
 | _ => none
def St.mS (σ : St) : AV → Option AV
 | .cC t => some t
 | .ptr id path off =>
  match σ.H id with
  | some t =>
   match t.at? path with
   | some (o,u) => if o = off then some u else none
   | none => none
  | none => none
 | _ => none
def eH (op : BinOp) (k : IntKind) (a b : Int) : Int :=
 match op with
 | .and => k.wrap (BitVec.ofInt k.bits a &&& BitVec.ofInt k.bits b).toNat
 | .or => k.wrap (BitVec.ofInt k.bits a ||| BitVec.ofInt k.bits b).toNat
 | .xor => k.wrap (BitVec.ofInt k.bits a ^^^ BitVec.ofInt k.bits b).toNat
 | _ => k.wrap (BitVec.ofInt k.bits a &&& ~~~ BitVec.ofInt k.bits b).toNat
def gY (op : BinOp) (k : IntKind) (a b : Int) : Option Value :=
 match op with
 | .add => some (.int k (k.wrap (a + b)))
 | .sub => some (.int k (k.wrap (a - b)))
 | .mul => some (.int k (k.wrap (a * b)))
 | .quo => if b = 0 then none else some (.int k (k.wrap (a.tdiv b)))
 | .rem => if b = 0 then none else some (.int k (a.tmod b))
 | .and => some (.int k (eH .and k a b))
 | .or => some (.int k (eH .or k a b))
 | .xor => some (.int k (eH .xor k a b))
 | .andNot => some (.int k (eH .andNot k a b))
 | .eql => some (.bool (decide (a = b)))
 | .neq => some (.bool (decide (¬ a = b)))
 | .lss => some (.bool (decide (a < b)))
 | .leq => some (.bool (decide (a ≤ b)))
 | .gtr => some (.bool (decide (a > b)))
 | .geq => some (.bool (decide (a ≥ b)))
 | _ => none
def shI (op : BinOp) (k : IntKind) (a b : Int) : Option Value :=
 if b < 0 then none else
 match op with
 | .shl => some (.int k (k.wrap (a * 2 ^ (Nat.min b.toNat k.bits))))
 | .shr => some (.int k (a.fdiv (2 ^ (Nat.min b.toNat k.bits))))
 | _ => none
def qQ : BinOp → Bool
 | .shl => true
 | .shr => true
 | _ => false
def aC7 (op : BinOp) (x y : Value) : Option Value :=
 match x,y with
 | .int k a,.int k' b => if qQ op then shI op k a b else if k = k' then gY op k a b else none
 | .string a,.string b =>
  match op with
  | .eql => some (.bool (decide (a.toList = b.toList)))
  | .neq => some (.bool (!decide (a.toList = b.toList)))
  | .add => if a.size + b.size ≤ 140737488351232 then some (.string (a ++ b)) else none
  | _ => none
 | _,_ => none
mutual
def eqT : TS → AV → AV → Option Bool
 | .int,.sc (.int k a),.sc (.int k' b) => if k = k' then some (decide (a = b)) else none
 | .bool,.sc (.bool a),.sc (.bool b) => some (a == b)
 | .agg l,.agg _ ts,.agg _ us => aC8 l ts us
 | .arr n es e,.arr _ es' ts,.arr _ es'' us => if es' = es ∧ es'' = es ∧ ts.length = n ∧ us.length = n then aJ7 e ts us else none
 | _,_,_ => none
def aC8 : List (Nat × TS) → List AV → List AV → Option Bool
 | [],[],[] => some true
 |(n,e) :: l,t :: ts,u :: us =>
  if t.size = n ∧ u.size = n then
   match eqT e t u,aC8 l ts us with
   | some a,some b => some (a && b)
   | _,_ => none
  else none
 | _,_,_ => none
def aJ7 (e : TS) : List AV → List AV → Option Bool
 | [],[] => some true
 | t :: ts,u :: us =>
  match eqT e t u,aJ7 e ts us with
  | some a,some b => some (a && b)
  | _,_ => none
 | _,_ => none
end
def aTY (neg : Bool) : AV → Option AV
 | .fro _ _ ts => some (if ts.isEmpty then .dV else B neg)
 | .sl _ _ _ _ len _ => some (if len = 0 then .dV else B neg)
 | _ => none
def aZA : AV → Option AV
 | .sc (.bool b) => some (B (!b))
 | .dV => some .dV
 | _ => none
def bytesOf : List AV → Option (List UInt8)
 | [] => some []
 | .sc (.int .u8 n) :: l =>
  match bytesOf l with
  | some r => some (UInt8.ofNat n.toNat :: r)
  | none => none
 | _ :: _ => none
def asI : AV → Option Int
 | .sc (.int _ n) => some n
 | _ => none
def kE (len : Nat) (lo hi : Option AV) : Option (Nat × Nat) :=
 match (match lo with | some v => asI v | none => some 0),(match hi with | some v => asI v | none => some (len : Int)) with
 | some l,some h => if 0 ≤ l ∧ l ≤ h ∧ h ≤ len then some (l.toNat,h.toNat) else none
 | _,_ => none
def sN (zero : List AV) : List (Nat × AV) → Option (List AV)
 | [] => some zero
 |(i,v) :: r =>
  match zero[i]? with
  | some z => if v.size = z.size ∧ v.storable = true ∧ v.isAgg = z.isAgg then sN (zero.set i v) r else none
  | none => none
def aBR (es : Nat) : List AV → Bool
 | [] => true
 | v :: r => v.size == es && v.storable && v.eJ && aBR es r
def wP : List AV → Bool
 | [] => true
 | v :: r => v.storable && !v.isAgg && wP r
def aRW (σ : St) (es bytes : Nat) (s : AV) (xs : List AV) : Option (AV × St) :=
 match s with
 | .fro true es' ts => if (es' = es ∨ ts = []) ∧ (ts = [] ∨ xs ≠ []) ∧ 0 < bytes ∧ (ts.length + xs.length) * bytes ≤ 140737488355328 then
   some (.sl σ.n [] 0 0 (ts.length + xs.length) es,σ.new (.arr (ts.length + xs.length) es (ts ++ xs))) else none
 | .sl id [] off k len es' =>
  match σ.H id with
  | some (.arr _ es'' ts) => if es'' = es ∧ es' = es ∧ off = k * es ∧ k + len ≤ ts.length ∧ 0 < bytes ∧ (len + xs.length) * bytes ≤ 140737488355328 then
    some (.sl σ.n [] 0 0 (len + xs.length) es,(σ.n7 id none).new (.arr (len + xs.length) es ((ts.drop k).take len ++ xs))) else none
  | _ => none
 | _ => none
def aBS (f : Int → Int → Int) (k : IntKind) (a : Int) : List AV → Option AV
 | [] => some (.sc (.int k a))
 | .sc (.int k' b) :: l => if k = k' then aBS f k (f a b) l else none
 | _ => none
def foldI (f : Int → Int → Int) : List AV → Option AV
 | .sc (.int k a) :: l => aBS f k a l
 | _ => none
def aN (o : AOp) (σ : St) : Option (AV × St) :=
 match o with
 | .mv x => some (σ.ev x,σ)
 | .pick c a b =>
  match σ.ev c with
  | .sc (.bool b') => some (if b' then σ.ev a else σ.ev b,σ)
  | _ => none
 | .box x => if (σ.ev x).storable then some (.ptr σ.n [] 0,σ.new (σ.ev x)) else none
 | .build n zero parts =>
  match sN zero (parts.map fun p => (p.1,σ.ev p.2)) with
  | some ts => some (.agg n ts,σ)
  | none => none
 | .aRV n es xs => if aBR es (xs.map σ.ev) ∧ xs.length = n then some (.arr n es (xs.map σ.ev),σ) else none
 | .bsl es xs => if aBR es (xs.map σ.ev) then some (.fro true es (xs.map σ.ev),σ) else none
 | .load ag n x =>
  match σ.mS (σ.ev x) with
  | some u => if u.isAgg = ag ∧ u.size = n then some (u,σ) else none
  | none => none
 | .store n x v =>
  match σ.ev x with
  | .ptr id path off =>
   match σ.H id with
   | some t =>
    match t.at? path,t.set? path (σ.ev v) with
    | some (o,u),some t' => if o = off ∧ u.size = n ∧ (σ.ev v).size = n ∧ (σ.ev v).storable = true then some (.tup [],σ.n7 id (some t')) else none
    | _,_ => none
   | none => none
  | _ => none
 | .xV x =>
  match σ.ev x with
  | .ptr id p o => some (.ptr id p o,σ)
  | .cC t => some (.cC t,σ)
  | .clo f c => some (.clo f c,σ)
  | _ => none
 | .bin op x y =>
  match σ.ev x,σ.ev y with
  | .sc a,.sc b =>
   match aC7 op a b with
   | some v => some (.sc v,σ)
   | none => none
  | _,_ => none
 | .eqs neg ts x y =>
  match eqT ts (σ.ev x) (σ.ev y) with
  | some b => some (B (if neg then !b else b),σ)
  | none => none
 | .eqn neg x =>
  match aTY neg (σ.ev x) with
  | some v => some (v,σ)
  | none => none
 | .un op x =>
  match op,σ.ev x with
  | .not,v =>
   match aZA v with
   | some v => some (v,σ)
   | none => none
  | .neg,.sc (.int k a) => some (.sc (.int k (k.wrap (0 - a))),σ)
  | .xor,.sc (.int k a) => some (.sc (.int k (eH .xor k (if k.signed then -1 else k.max) a)),σ)
  | _,_ => none
 | .conv k x =>
  match σ.ev x with
  | .sc (.int _ a) => some (.sc (.int k (k.wrap a)),σ)
  | _ => none
 | .b2s x =>
  match σ.row 1 (σ.ev x) with
  | some ts =>
   match bytesOf ts with
   | some l => some (.sc (.string ⟨l.toArray⟩),σ)
   | none => none
  | none => none
 | .slice es x lo hi =>
  match σ.ev x with
  | .fro _ es' ts =>
   match kE ts.length (lo.map σ.ev) (hi.map σ.ev) with
   | some (l,h) => if es' = es then some (.fro false es ((ts.take h).drop l),σ) else none
   | none => none
  | .sl id path off k len es' =>
   match kE len (lo.map σ.ev) (hi.map σ.ev) with
   | some (l,h) => if es' = es then some (.sl id path (off + l * es) (k + l) (h - l) es,σ) else none
   | none => none
  | _ => none
 | .qP n es x lo hi =>
  match σ.ev x with
  | .ptr id path off =>
   match kE n (lo.map σ.ev) (hi.map σ.ev),σ.H id with
   | some (l,h),some t =>
    match t.at? path with
    | some (o,.arr n' es' _) => if o = off ∧ n' = n ∧ es' = es ∧ 0 < es then some (.sl id path (off + l * es) l (h - l) es,σ) else none
    | _ => none
   | _,_ => none
  | .cC (.arr n' es' ts) =>
   match kE n (lo.map σ.ev) (hi.map σ.ev) with
   | some (l,h) => if es' = es ∧ n' = n then some (.fro false es ((ts.take h).drop l),σ) else none
   | none => none
  | _ => none
 | .aJ6 i off n x =>
  match σ.ev x with
  | .ptr id path o => some (.ptr id (path ++ [i]) (o + off),σ)
  | .cC (.agg _ ts) =>
   match ts[i]? with
   | some u => if iV (ts.take i) = off then some (.cC u,σ) else none
   | none => none
  | _ => none
 | .aFS a es x i =>
  match a,σ.ev x,asI (σ.ev i) with
  | none,.fro _ es' ts,some j => if 0 ≤ j ∧ es' = es then
    match ts[j.toNat]? with
    | some t => some (.cC t,σ)
    | none => none
   else none
  | none,.sl id path off k len es',some j => if 0 ≤ j ∧ j < len ∧ es' = es then some (.ptr id (path ++ [k + j.toNat]) (off + j.toNat * es),σ) else none
  | some n,.ptr id path off,some j => if 0 ≤ j ∧ j < n then some (.ptr id (path ++ [j.toNat]) (off + j.toNat * es),σ) else none
  | some n,.cC (.arr n' es' ts),some j => if 0 ≤ j ∧ es' = es ∧ n' = n then
    match ts[j.toNat]? with
    | some t => some (.cC t,σ)
    | none => none
   else none
  | _,_,_ => none
 | .ext x i =>
  match σ.ev x with
  | .tup vs =>
   match vs[i]? with
   | some v => some (v,σ)
   | none => none
  | _ => none
 | .mkf f caps => if wP (caps.map σ.ev) then some (.clo f (caps.map σ.ev),σ) else none
 | .mks es bytes zero len =>
  match asI (σ.ev len) with
  | some n => if 0 ≤ n ∧ 0 < bytes ∧ n.toNat * bytes ≤ 140737488355328 then
    some (.sl σ.n [] 0 0 n.toNat es,σ.new (.arr n.toNat es (List.replicate n.toNat zero))) else none
  | none => none
 | .app es bytes s x =>
  match σ.row es (σ.ev x) with
  | some xs => aRW σ es bytes (σ.ev s) xs
  | none => none
 | .aM6 es bytes zero len =>
  match asI (σ.ev len) with
  | some n => if 0 ≤ n ∧ 0 < bytes ∧ n.toNat * bytes ≤ 140737488355328 then some (.fro false es (List.replicate n.toNat zero),σ) else none
  | none => none
 | .aHZ es bytes x =>
  match σ.row es (σ.ev x) with
  | some xs => if 0 < bytes ∧ xs.length * bytes ≤ 140737488355328 then some (.fro false es xs,σ) else none
  | none => none
 | .len a x =>
  match a,σ.ev x with
  | some n,_ => some (I n,σ)
  | none,.fro _ _ ts => some (I ts.length,σ)
  | none,.sl _ _ _ _ len _ => some (I len,σ)
  | _,_ => none
 | .lens x =>
  match σ.ev x with
  | .sc (.string s) => some (I s.size,σ)
  | _ => none
 | .copy es x y =>
  match σ.ev x,σ.row es (σ.ev y) with
  | .sl id [] off k len es',some xs =>
   match σ.H id with
   | some (.arr n es'' ts) => if es' = es ∧ es'' = es ∧ off = 0 ∧ k = 0 ∧ len = ts.length then
     some (I (Nat.min xs.length len),σ.n7 id (some (.arr n es (xs.take len ++ ts.drop xs.length)))) else none
   | _ => none
  | _,_ => none
 | .min xs =>
  match foldI (fun a b => if b < a then b else a) (xs.map σ.ev) with
  | some v => some (v,σ)
  | none => none
 | .max xs =>
  match foldI (fun a b => if b > a then b else a) (xs.map σ.ev) with
  | some v => some (v,σ)
  | none => none
 | .call .. => none
 | .mD .. => none
 | .j6 .. => none
abbrev Orc:=Nat → List AV → St → AV → St → Prop
def St.back (σ τ : St) : St:=⟨σ.env,τ.hl,τ.hb,τ.n⟩
def wpOps (C : Orc) : List AG → St → (St → Prop) → Prop
 | [],σ,K => K σ
 | ⟨d,o,g⟩ :: r,σ,K =>
  let run:=match o with
   | .call f args => ∃ v τ,C f (args.map σ.ev) σ v τ ∧ wpOps C r ((σ.back τ).put d v) K
   | .mD x args =>
    match σ.ev x with
    | .clo f caps => ∃ v τ,C f (args.map σ.ev ++ caps) σ v τ ∧ (τ.hl = σ.hl ∧ τ.hb = σ.hb ∧ τ.n = σ.n) ∧ wpOps C r ((σ.back τ).put d v) K
    | _ => False
   | .j6 f args => ∃ v,(∀ σ',C f (args.map σ.ev) σ' v σ') ∧ wpOps C r (σ.put d v) K
   | o =>
    match aN o σ with
    | some (v,σ') => wpOps C r (σ'.put d v) K
    | none => False
  match g with
  | none => run
  | some (t,b) =>
   match get σ.env t with
   | .sc (.bool b') => (b' = b → run) ∧ (b' ≠ b → wpOps C r (σ.put d (.tup [])) K)
   | .tup [] => wpOps C r (σ.put d (.tup [])) K
   | _ => False
def oU : AV → Option Nat
 | .ptr id _ _ => some id
 | .sl id _ _ _ _ _ => some id
 | _ => none
def aZB (a b : AV) : Prop:=∀ i,oU a = some i → oU b ≠ some i
def qR (σ : St) : List (Nat × Nat) → Prop
 | [] => True
 |(t,u) :: r => aZB (get σ.env t) (get σ.env u) ∧ qR σ r
inductive AE where
 | normal
 | exit (id : Nat)
 | ret
def AE.then (next : St → Prop) (Φ : AE → St → Prop) : AE → St → Prop
 | .normal,σ => next σ
 | e,σ => Φ e σ
def AE.inBlock (id : Nat) (Φ : AE → St → Prop) : AE → St → Prop
 | .exit i,σ => if i = id then Φ .normal σ else Φ (.exit i) σ
 | e,σ => Φ e σ
def leA (a b : AV) : Prop:=b = .unk ∨ b = a ∨ ∃ x es es' ts,a = .fro x es ts ∧ b = .fro false es' ts ∧ (es' = es ∨ ts = [])
def nF (σ τ : St) : Prop :=
 (∀ i,leA (get σ.env i) (get τ.env i)) ∧ (∀ i,τ.H i = none ∨ τ.H i = σ.H i) ∧ σ.n ≤ τ.n
mutual
inductive leF (L : List Nat) (σ : St) : AV → AV → Prop
 | same {a : AV} : leF L σ a a
 | fz {id off k len es : Nat} {path : List Nat} {ts : List AV} : id ∈ L → σ.row es (.sl id path off k len es) = some ts → leF L σ (.sl id path off k len es) (.fro false es ts)
 | agg {n : Nat} {ts us : List AV} : aH0 L σ ts us → leF L σ (.agg n ts) (.agg n us)
inductive aH0 (L : List Nat) (σ : St) : List AV → List AV → Prop
 | nil : aH0 L σ [] []
 | cons {a b : AV} {l r : List AV} : leF L σ a b → aH0 L σ l r → aH0 L σ (a :: l) (b :: r)
end
def aRX (σ τ : St) : Prop:=∃ L : List Nat,τ.n = σ.n ∧ (∀ t,leF L σ (get σ.env t) (get τ.env t)) ∧ ∀ j,τ.H j = none ∨ (j ∉ L ∧ ∃ t t',σ.H j = some t ∧ τ.H j = some t' ∧ leF L σ t t')
mutual
def AV.pX (n : Nat) : AV → Bool
 | .agg _ ts => AV.rR n ts
 | .clo _ cs => AV.rR n cs
 | .tup ts => AV.rR n ts
 | .sl id _ _ _ _ _ => Nat.blt id n
 | .ptr id _ _ => Nat.blt id n
 | _ => true
def AV.rR (n : Nat) : List AV → Bool
 | [] => true
 | t :: ts => t.pX n && AV.rR n ts
end
def a80 (m : Nat) (σ τ : St) : Prop:=σ.n ≤ τ.n ∨ (m ≤ τ.n ∧ (∀ i,(get τ.env i).pX τ.n = true) ∧ (∀ i,τ.n ≤ i → τ.H i = none) ∧ ∀ i t,τ.H i = some t → t.pX τ.n = true)
def aGM (m : Nat) (σ τ : St) : Prop:=(∀ i,leA (get σ.env i) (get τ.env i)) ∧ (∀ i,τ.H i = none ∨ τ.H i = σ.H i) ∧ a80 m σ τ
mutual
inductive leK (κ : Nat → Option Nat) : AV → AV → Prop
 | same {a : AV} : a.pX 0 = true → leK κ a a
 | sl {i j off k len es : Nat} {path : List Nat} : κ j = some i → leK κ (.sl i path off k len es) (.sl j path off k len es)
 | ptr {i j off : Nat} {path path' : List Nat} : κ j = some i → leK κ (.ptr i path off) (.ptr j path' off)
 | agg {n : Nat} {ts us : List AV} : aA2 κ ts us → leK κ (.agg n ts) (.agg n us)
 | split {n es : Nat} {pre post : List AV} {t u : AV} : n = pre.length + (1 + post.length) → leK κ t u → leK κ (.arr n es (pre ++ t :: post)) (.agg (n * es) [.arr pre.length es pre,u,.arr post.length es post])
 | join {m a b es : Nat} {pre post : List AV} {t u : AV} : u.eJ = true → u.size = es → leK κ t u → leK κ (.agg m [.arr a es pre,t,.arr b es post]) (.arr (a + (1 + b)) es (pre ++ u :: post))
 | clo {f : Nat} {ts us : List AV} : aA2 κ ts us → leK κ (.clo f ts) (.clo f us)
 | fro {x : Bool} {es es' : Nat} {ts : List AV} : (es' = es ∨ ts = []) → leK κ (.fro x es ts) (.fro false es' ts)
 | nil {es es' j off k : Nat} {path : List Nat} : leK κ (.fro true es []) (.sl j path off k 0 es')
inductive aA2 (κ : Nat → Option Nat) : List AV → List AV → Prop
 | nil : aA2 κ [] []
 | cons {a b : AV} {l r : List AV} : leK κ a b → aA2 κ l r → aA2 κ (a :: l) (b :: r)
end
def a3P (m : Nat) (σ τ : St) : Prop:=∃ κ : Nat → Option Nat,(∀ j,j < m → κ j = some j) ∧ (∀ j,τ.n ≤ j → τ.H j = none ∧ κ j = none) ∧ m ≤ τ.n ∧ (∀ i j j',τ.H j ≠ none → τ.H j' ≠ none → κ j = some i → κ j' = some i → j = j') ∧
 (∀ t,get τ.env t = .unk ∨ leK κ (get σ.env t) (get τ.env t)) ∧ ∀ j t',τ.H j = some t' → (∃ i t,κ j = some i ∧ σ.H i = some t ∧ leK κ t t') ∨ (κ j = none ∧ ∃ es,t' = .arr 0 es [])
end Go.Ra
namespace Go.Ra
set_option linter.unusedVariables false
def aCX : Value → Value → Bool
 | .bool a,.bool b => a == b
 | .int k a,.int l b => decide (k = l) && decide (a = b)
 | .string a,.string b => a.data.toList == b.data.toList
 | .pointer none,.pointer none => true
 | _,_ => false
mutual
def iF : AV → List Value → Option (List Value)
 | .sc v,u :: r => if aCX v u then some r else none
 | .fro _ _ [],.slice none 0 0 :: r => some r
 | .agg n ts,cs =>
  match xW ts cs with
  | some r => if cs.length = n + r.length then some r else none
  | none => none
 | .arr n es ts,cs => if ts.length = n then xX es ts cs else none
 | _,_ => none
def xW : List AV → List Value → Option (List Value)
 | [],cs => some cs
 | t :: ts,cs =>
  match iF t cs with
  | some r => xW ts r
  | none => none
def xX (es : Nat) : List AV → List Value → Option (List Value)
 | [],cs => some cs
 | t :: ts,cs =>
  match iF t cs with
  | some r => if t.size = es then xX es ts r else none
  | none => none
end
def aTZ (P : Program) : Nat → TypeId → Option AV
 | 0,_ => none
 | d + 1,t =>
  match P.underlying t,P.info? t with
  | some (.int k),_ => some (.sc (.int k 0))
  | some .bool,_ => some (.sc (.bool false))
  | some .string,_ => some (.sc (.string ByteArray.empty))
  | some (.slice _),_ => some (.fro true 0 [])
  | some (.pointer _),_ => some (.sc (.pointer none))
  | some (.array n e),_ =>
   match aTZ P d e,P.info? e with
   | some z,some i => some (.arr n i.size (List.replicate n z))
   | _,_ => none
  | some (.struct fs),some i =>
   match fs.toList.mapM fun f => aTZ P d f.type with
   | some ts => some (.agg i.size ts)
   | none => none
  | _,_ => none
def a44 : Value → Bool
 | .agg _ => true
 | _ => false
def vV (P : Program) (t : TypeId) : Option AV :=
 match aTZ P 20 t,P.info? t with
 | some z,some i =>
  match i.zero with
  | some v =>
   match iF z v.cells.toList with
   | some [] => if z.isAgg == a44 v && z.eJ then some z else none
   | _ => none
  | none => none
 | _,_ => none
def n8 (P : Program) : Nat → List Field → List AV → Bool
 | _,[],[] => true
 | o,f :: fs,z :: zs => decide (f.offset = o) && (match P.info? f.type with | some i => decide (i.size = z.size) | none => false) && n8 P (o + z.size) fs zs
 | _,_,_ => false
def qS (P : Program) (t : TypeId) : Option Bool :=
 match P.underlying t with
 | some (.struct _) => some true
 | some (.array _ _) => some true
 | some _ => some false
 | none => none
def szT (P : Program) (t : TypeId) : Option Nat:=(P.info? t).map (·.size)
def trV (v : Value) : Option AV :=
 match v with
 | .int k n => some (.sc (.int k n))
 | .bool b => some (.sc (.bool b))
 | .string s => some (.sc (.string s))
 | .slice none 0 0 => some (.fro true 0 [])
 | .pointer none => some (.sc (.pointer none))
 | _ => none
def trX (x : Operand) : Option AX :=
 match x with
 | .tmp i => some (.t i)
 | .const v =>
  match trV v with
  | some a => some (.c a)
  | none => none
 | .func f => some (.c (.clo f []))
 | .global _ => none
def nX : List Operand → Option (List AX)
 | [] => some []
 | x :: xs =>
  match trX x,nX xs with
  | some a,some b => some (a :: b)
  | _,_ => none
def uS : List (Nat × Operand) → Option (List (Nat × AX))
 | [] => some []
 | p :: ps =>
  match trX p.2,uS ps with
  | some a,some b => some ((p.1,a) :: b)
  | _,_ => none
def aJ8 (x : Option Operand) : Option (Option AX) :=
 match x with
 | none => some none
 | some x => (trX x).map some
def qT : Nat → List (Nat × Operand) → Bool
 | _,[] => true
 | k,p :: r => p.1 == k && qT (k + 1) r
def wQ (P : Program) (t : TypeId) : Bool :=
 match P.underlying t with
 | some (.int _) => true
 | some .string => true
 | _ => false
mutual
def kX (P : Program) : Nat → TypeId → Option TS
 | 0,_ => none
 | d + 1,t =>
  match P.underlying t with
  | some (.int _) => some .int
  | some .bool => some .bool
  | some (.struct fs) =>
   if P.stoodInHeld t then none else
   match qU P d 0 fs.toList with
   | some l => some (.agg l)
   | none => none
  | some (.array n e) =>
   match kX P d e,szT P e with
   | some s,some es => some (.arr n es s)
   | _,_ => none
  | _ => none
def qU (P : Program) : Nat → Nat → List Field → Option (List (Nat × TS))
 | _,_,[] => some []
 | 0,_,_ :: _ => none
 | d + 1,o,f :: fs =>
  if f.name = "_" ∨ f.offset ≠ o then none else
  match kX P d f.type,szT P f.type with
  | some s,some n =>
   match qU P d (o + n) fs with
   | some l => some ((n,s) :: l)
   | none => none
  | _,_ => none
end
def aA3 : AX → Bool
 | .c (.fro true 0 []) => true
 | _ => false
def aH1 (P : Program) (op : BinOp) (t : TypeId) (x y : AX) : Option AOp :=
 let neg:=match op with | .eql => some false | .neq => some true | _ => none
 match neg with
 | none => none
 | some neg =>
  match P.underlying t with
  | some (.slice _) => if aA3 y then some (.eqn neg x) else none
  | _ =>
   if P.eqGuardType P.depth t then none else
   match kX P 60 t with
   | some s => some (.eqs neg s x y)
   | none => none
def xY : Operand → Operand → Bool
 | .tmp a,.tmp b => decide (a = b)
 | .const (.int j a),.const (.int k b) => decide (a = b) && decide (j = .i64) && decide (k = .i64)
 | _,_ => false
def kY (P : Program) (t : TypeId) : Option (TypeId × TypeInfo) :=
 match P.underlying t with
 | some (.slice e) => (P.info? e).map fun i => (e,i)
 | _ => none
def aRY (P : Program) (t : TypeId) : Option (Nat × TypeInfo) :=
 match P.underlying t with
 | some (.array n e) => (P.info? e).map fun i => (n,i)
 | _ => none
def aC9 (P : Program) (t : TypeId) (s x : AX) : Option AOp :=
 match kY P t with
 | some (_,i) =>
  match i.zero with
  | some z => if z.cells.size = i.size then some (.app i.size i.bytes s x) else none
  | none => none
 | none => none
def j7 (P : Program) (o : Op) : Option AOp :=
 match o with
 | .move x => (trX x).map .mv
 | .assign x => (trX x).map .mv
 | .pick c a b =>
  match trX c,trX a,trX b with
  | some c,some a,some b => some (.pick c a b)
  | _,_,_ => none
 | .alloc t => (vV P t).map fun z => .box (.c z)
 | .box _ x => (trX x).map .box
 | .build t parts =>
  match P.underlying t,vV P t with
  | some (.struct fs),some (.agg n zs) =>
   match uS parts.toList with
   | some ps => if n8 P 0 fs.toList zs then some (.build n zs ps) else none
   | none => none
  | some (.array _ el),some (.arr n es zs) =>
   match nX (parts.toList.map (·.2)),P.info? el with
   | some xs,some i => if qT 0 parts.toList ∧ parts.size = n ∧ i.size = es ∧ zs.length = n then some (.aRV n es xs) else none
   | _,_ => none
  | _,_ => none
 | .buildSlice t len parts =>
  match kY P t with
  | some (e,i) =>
   match nX (parts.toList.map (·.2)),i.zero with
   | some xs,some _ => if qT 0 parts.toList ∧ parts.size = len ∧ len * i.size ≤ 16777216 then some (.bsl i.size xs) else none
   | _,_ => none
  | none => none
 | .load t x =>
  match qS P t,szT P t,trX x with
  | some a,some n,some x => some (.load a n x)
  | _,_,_ => none
 | .store t a x =>
  match szT P t,trX a,trX x with
  | some n,some a,some x => if n = 0 then none else some (.store n a x)
  | _,_,_ => none
 | .nilCheck x => (trX x).map .xV
 | .binOp op t x y _ =>
  match trX x,trX y with
  | some x,some y =>
   if wQ P t then some (.bin op x y) else aH1 P op t x y
  | _,_ => none
 | .unOp op _ x => (trX x).map fun x => .un op x
 | .convert src dst x =>
  match P.underlying src,P.underlying dst,trX x with
  | some (.int _),some (.int k),some x => some (.conv k x)
  | some (.slice e),some .string,some x =>
   match P.underlying e with
   | some (.int .u8) => some (.b2s x)
   | _ => none
  | _,_,_ => none
 | .slice t x lo hi none =>
  match kY P t,aRY P t,trX x,aJ8 lo,aJ8 hi with
  | some (_,i),_,some x,some lo,some hi => some (.slice i.size x lo hi)
  | _,some (n,i),some x,some lo,some hi => some (.qP n i.size x lo hi)
  | _,_,_,_,_ => none
 | .fieldAddr s x i =>
  match P.underlying s,trX x with
  | some (.struct fs),some x =>
   match fs[i]? with
   | some f =>
    match szT P f.type with
    | some n => if n = 0 then none else some (.aJ6 i f.offset n x)
    | none => none
   | none => none
  | _,_ => none
 | .indexAddr t x i =>
  match kY P t,aRY P t,trX x,trX i with
  | some (_,e),_,some x,some i => some (.aFS none e.size x i)
  | _,some (n,e),some x,some i => some (.aFS (some n) e.size x i)
  | _,_,_,_ => none
 | .extract x i => (trX x).map fun x => .ext x i
 | .makeFunc (.func f) first caps =>
  match nX caps.toList with
  | some cs => if first.isEmpty then some (.mkf f cs) else none
  | none => none
 | .makeSlice t l c =>
  match kY P t,trX l with
  | some (e,i),some l' =>
   match vV P e with
   | some z => if xY l c ∧ z.size = i.size then some (.mks i.size i.bytes z l') else none
   | none => none
  | _,_ => none
 | .call c =>
  match c.callee,nX c.args.toList with
  | .value (.func f),some xs => some (.call f xs)
  | .value x,some xs => (trX x).map fun x => .mD x xs
  | .builtin .append,some [s,x] =>
   match c.argTypes.toList with
   | [t,u] => if t = u then aC9 P t s x else none
   | _ => none
  | .builtin .len,some [x] =>
   match c.argTypes.toList with
   | [t] =>
    match P.underlying t with
    | some (.slice _) => some (.len none x)
    | some .string => some (.lens x)
    | some (.array n _) => some (.len (some n) x)
    | some (.pointer a) =>
     match P.underlying a with
     | some (.array n _) => some (.len (some n) x)
     | _ => none
    | _ => none
   | _ => none
  | .builtin .copy,some [x,y] =>
   match c.argTypes.toList with
   | [t,u] =>
    match kY P t,kY P u with
    | some (_,i),some (_,i') => if i'.size = i.size then some (.copy i.size x y) else none
    | _,_ => none
   | _ => none
  | .builtin .min,some xs => some (.min xs)
  | .builtin .max,some xs => some (.max xs)
  | _,_ => none
 | _ => none
def trG (ops : Array Oper) (g : Option (Nat × Bool)) : Option (Option (Nat × Bool)) :=
 match g with
 | none => some none
 | some (j,b) =>
  match (ops[j]?).bind (·.dst) with
  | some t => some (some (t,b))
  | none => none
def aPJ : AOp → AOp
 | .app es b (.c (.fro true 0 [])) x => .aHZ es b x
 | .mks es b z l => .aM6 es b z l
 | o => o
structure ZM where
 soft : Bool
 dl : Nat → Bool
def a3Q (dl : Nat → Bool) : AOp → AOp
 | .call f args => if dl f then .j6 f args else .call f args
 | o => o
def zmO (z : ZM) (o : AOp) : AOp:=a3Q z.dl (if z.soft then aPJ o else o)
def gZ (z : ZM) (P : Program) (nt : Nat) (ops : Array Oper) (o : Oper) : Option AG :=
 match j7 P o.op,trG ops o.guard with
 | some ao,some g => if (match o.dst with | some d => decide (d < nt) | none => true) then some ⟨o.dst,zmO z ao,g⟩ else none
 | _,_ => none
def a81 : AC:=.ops [⟨none,.xV (.c .unk),none⟩]
def a45 (P : Program) (nt : Nat) (ok : Array Oper → List AG → Option (List (Nat × Nat))) (z0 : ZM) (ops : Array Oper) (draw : Bool) : Option AC :=
 match ops.toList.mapM (gZ z0 P nt ops) with
 | some l =>
  if draw then
   match ok ops l with
   | some [] => some (.ops l)
   | o =>
    match ops.toList.mapM (gZ ⟨true,z0.dl⟩ P nt ops) with
    | some l2 =>
     match ok ops l2 with
     | some [] => some (.ops l2)
     | o2 =>
      match o,o2 with
      | some ps,_ => some (.aFT l ps)
      | none,some ps => some (.aFT l2 ps)
      | none,none => none
    | none => none
  else some (.ops l)
 | none => some a81
def trC (P : Program) (nt : Nat) (ok : Array Oper → List AG → Option (List (Nat × Nat))) (fz : Nat → Bool) (z0 : ZM) : Code → Option AC
 | .skip => some .skip
 | .region id ops draw =>
  match a45 P nt ok z0 ops draw with
  | some ac => some (if fz id then .seq .frz ac else ac)
  | none => none
 | .seq a b =>
  match trC P nt ok fz z0 a,trC P nt ok fz z0 b with
  | some x,some y => some (.seq x y)
  | _,_ => none
 | .cond c a b =>
  match trX c,trC P nt ok fz z0 a,trC P nt ok fz z0 b with
  | some c,some x,some y => some (.cond c x y)
  | _,_,_ => none
 | .block id c => (trC P nt ok fz z0 c).map (.block id)
 | .loop c => (trC P nt ok fz z0 c).map .loop
 | .exit id => some (.exit id)
 | .ret => some .ret
 | _ => none
end Go.Ra
namespace Go.Ra
set_option linter.unusedVariables false
def Reads (w : World) (b o : Nat) (cs : List Value) : Prop:=∀ j v,cs[j]? = some v → w.cell? ⟨b,o + j,none⟩ = some v
def n9 : Value → Bool
 | .bool _ => true
 | .int _ _ => true
 | .string _ => true
 | .pointer none => true
 | .nilFunc => true
 | _ => false
abbrev Loc:=Nat × Nat
def fB : Nat → Option Loc:=fun _ => none
mutual
inductive bK (w : World) (F : Nat → Prop) : (Nat → Option Loc) → AV → List Value → Prop
 | sc {ρ : Nat → Option Loc} {v : Value} : n9 v = true → bK w F ρ (.sc v) [v]
 | agg {ρ : Nat → Option Loc} {n : Nat} {ts : List AV} {cs : List Value} : dM w F ρ ts cs → cs.length = n → bK w F ρ (.agg n ts) cs
 | arr {ρ : Nat → Option Loc} {n es : Nat} {ts : List AV} {cs : List Value} : dQ w F es ts cs → ts.length = n → bK w F ρ (.arr n es ts) cs
 | gW {ρ : Nat → Option Loc} {x : Bool} {es : Nat} {a : Option Addr} {cap : Nat} : (x = true → cap = 0) → bK w F ρ (.fro x es []) [.slice a 0 cap]
 | fro {ρ : Nat → Option Loc} {x : Bool} {es : Nat} {ts : List AV} {cs : List Value} {b o cap : Nat} : dQ w F es ts cs → Reads w b o cs → F b →
   (x = true → cap = ts.length) → ts.length ≤ cap → bK w F ρ (.fro x es ts) [.slice (some ⟨b,o,none⟩) ts.length cap]
 | cC {ρ : Nat → Option Loc} {t : AV} {cs : List Value} {b o : Nat} : bK w F fB t cs → Reads w b o cs → F b → bK w F ρ (.cC t) [.pointer (some ⟨b,o,none⟩)]
 | sl0 {ρ : Nat → Option Loc} {id off k es : Nat} {path : List Nat} {a : Option Addr} : bK w F ρ (.sl id path off k 0 es) [.slice a 0 0]
 | sl {ρ : Nat → Option Loc} {id off k len es b o cap : Nat} {path : List Nat} {cur : Array Value} {e : TypeId} : ρ id = some (b,o) → len ≤ cap →
   w.heap[b]? = some (.cells cur e (0,0)) → o + off + cap * es ≤ cur.size → bK w F ρ (.sl id path off k len es) [.slice (some ⟨b,o + off,none⟩) len cap]
 | ptr {ρ : Nat → Option Loc} {id off b o : Nat} {path : List Nat} : ρ id = some (b,o) → bK w F ρ (.ptr id path off) [.pointer (some ⟨b,o + off,none⟩)]
 | clo {ρ : Nat → Option Loc} {f : Nat} {caps : List AV} {cs : List Value} : jM w F ρ caps cs → bK w F ρ (.clo f caps) [.func (.func f) #[] cs.toArray]
inductive dM (w : World) (F : Nat → Prop) : (Nat → Option Loc) → List AV → List Value → Prop
 | nil {ρ : Nat → Option Loc} : dM w F ρ [] []
 | cons {ρ : Nat → Option Loc} {t : AV} {ts : List AV} {c cs : List Value} : bK w F ρ t c → dM w F ρ ts cs → dM w F ρ (t :: ts) (c ++ cs)
inductive dQ (w : World) (F : Nat → Prop) : Nat → List AV → List Value → Prop
 | nil {es : Nat} : dQ w F es [] []
 | cons {es : Nat} {t : AV} {ts : List AV} {c cs : List Value} : bK w F fB t c → c.length = es → dQ w F es ts cs → dQ w F es (t :: ts) (c ++ cs)
inductive jM (w : World) (F : Nat → Prop) : (Nat → Option Loc) → List AV → List Value → Prop
 | nil {ρ : Nat → Option Loc} : jM w F ρ [] []
 | cons {ρ : Nat → Option Loc} {t : AV} {ts : List AV} {v : Value} {cs : List Value} : bK w F ρ t [v] → t.isAgg = false → jM w F ρ ts cs → jM w F ρ (t :: ts) (v :: cs)
end
mutual
inductive bL (w : World) (F : Nat → Prop) (ρ : Nat → Option Loc) : AV → Value → Prop
 | one {t : AV} {v : Value} : bK w F ρ t [v] → t.isAgg = false → bL w F ρ t v
 | agg {t : AV} {cs : List Value} : bK w F ρ t cs → t.isAgg = true → bL w F ρ t (.agg cs.toArray)
 | tup {ts : List AV} {vs : List Value} : bR w F ρ ts vs → bL w F ρ (.tup ts) (.tuple vs.toArray)
 | dV {b : Bool} : bL w F ρ .dV (.bool b)
 | unk {v : Value} : bL w F ρ .unk v
inductive bR (w : World) (F : Nat → Prop) (ρ : Nat → Option Loc) : List AV → List Value → Prop
 | nil : bR w F ρ [] []
 | cons {t : AV} {ts : List AV} {v : Value} {vs : List Value} : bL w F ρ t v → bR w F ρ ts vs → bR w F ρ (t :: ts) (v :: vs)
end
structure Ext (F : Nat → Prop) (w w' : World) : Prop where
 same : ∀ b,F b → w'.heap[b]? = w.heap[b]?
 rows : ∀ (b : Nat) (cur : Array Value) (e : TypeId),w.heap[b]? = some (Obj.cells cur e (0,0)) → ∃ cur' : Array Value,w'.heap[b]? = some (Obj.cells cur' e (0,0)) ∧ cur'.size = cur.size
theorem Reads.ext {F : Nat → Prop} {w w' : World} {b o : Nat} {cs : List Value} (h : Reads w b o cs) (hx : Ext F w w') (hb : F b) : Reads w' b o cs:=by
 intro j v hj
 rw [World.cell?_of_block (a:=⟨b,o + j,none⟩) (hx.same b hb)]
 exact h j v hj
section mono
variable {w w' : World} {F F' : Nat → Prop}
mutual
theorem bK.mono (hx : Ext F w w') (hF : ∀ b,F b → F' b) : ∀ {ρ ρ' : Nat → Option Loc} {t : AV} {cs : List Value},(∀ i l,ρ i = some l → ρ' i = some l) → bK w F ρ t cs → bK w' F' ρ' t cs
 | _,_,_,_,_,.sc h => .sc h
 | _,_,_,_,hr,.agg h hn => .agg (dM.mono hx hF hr h) hn
 | _,_,_,_,_,.arr h hn => .arr (dQ.mono hx hF h) hn
 | _,_,_,_,_,.gW h => .gW h
 | _,_,_,_,_,.fro h hrd hb hc hl => .fro (dQ.mono hx hF h) (hrd.ext hx hb) (hF _ hb) hc hl
 | _,_,_,_,_,.cC h hrd hb => .cC (bK.mono hx hF (fun _ _ h => h) h) (hrd.ext hx hb) (hF _ hb)
 | _,_,_,_,_,.sl0 => .sl0
 | _,_,_,_,hr,.sl h1 h2 h3 h4 => by
  obtain ⟨cur',h5,h6⟩:=hx.rows _ _ _ h3
  exact .sl (hr _ _ h1) h2 h5 (by rw [h6];exact h4)
 | _,_,_,_,hr,.ptr h => .ptr (hr _ _ h)
 | _,_,_,_,hr,.clo h => .clo (jM.mono hx hF hr h)
theorem dM.mono (hx : Ext F w w') (hF : ∀ b,F b → F' b) : ∀ {ρ ρ' : Nat → Option Loc} {ts : List AV} {cs : List Value},(∀ i l,ρ i = some l → ρ' i = some l) → dM w F ρ ts cs → dM w' F' ρ' ts cs
 | _,_,_,_,_,.nil => .nil
 | _,_,_,_,hr,.cons h1 h2 => .cons (bK.mono hx hF hr h1) (dM.mono hx hF hr h2)
theorem dQ.mono (hx : Ext F w w') (hF : ∀ b,F b → F' b) : ∀ {es : Nat} {ts : List AV} {cs : List Value},dQ w F es ts cs → dQ w' F' es ts cs
 | _,_,_,.nil => .nil
 | _,_,_,.cons h1 h2 h3 => .cons (bK.mono hx hF (fun _ _ h => h) h1) h2 (dQ.mono hx hF h3)
theorem jM.mono (hx : Ext F w w') (hF : ∀ b,F b → F' b) : ∀ {ρ ρ' : Nat → Option Loc} {ts : List AV} {cs : List Value},(∀ i l,ρ i = some l → ρ' i = some l) → jM w F ρ ts cs → jM w' F' ρ' ts cs
 | _,_,_,_,_,.nil => .nil
 | _,_,_,_,hr,.cons h1 h2 h3 => .cons (bK.mono hx hF hr h1) h2 (jM.mono hx hF hr h3)
end
mutual
theorem bL.mono (hx : Ext F w w') (hF : ∀ b,F b → F' b) {ρ ρ' : Nat → Option Loc} (hr : ∀ i l,ρ i = some l → ρ' i = some l) : ∀ {t : AV} {v : Value},bL w F ρ t v → bL w' F' ρ' t v
 | _,_,.one h ha => .one (h.mono hx hF hr) ha
 | _,_,.agg h ha => .agg (h.mono hx hF hr) ha
 | _,_,.tup h => .tup (bR.mono hx hF hr h)
 | _,_,.dV => .dV
 | _,_,.unk => .unk
theorem bR.mono (hx : Ext F w w') (hF : ∀ b,F b → F' b) {ρ ρ' : Nat → Option Loc} (hr : ∀ i l,ρ i = some l → ρ' i = some l) : ∀ {ts : List AV} {vs : List Value},bR w F ρ ts vs → bR w' F' ρ' ts vs
 | _,_,.nil => .nil
 | _,_,.cons h1 h2 => .cons (bL.mono hx hF hr h1) (bR.mono hx hF hr h2)
end
end mono
section shape
variable {w : World} {F : Nat → Prop}
mutual
theorem bK.size : ∀ {ρ : Nat → Option Loc} {t : AV} {cs : List Value},bK w F ρ t cs → cs.length = t.size
 | _,_,_,.sc h => rfl
 | _,_,_,.agg h hn => hn
 | _,_,_,.arr h hn => by rw [dQ.size h,hn];rfl
 | _,_,_,.gW h => rfl
 | _,_,_,.fro h hrd hb hc hl => rfl
 | _,_,_,.cC h hrd hb => rfl
 | _,_,_,.sl0 => rfl
 | _,_,_,.sl h1 h2 h3 h4 => rfl
 | _,_,_,.ptr h => rfl
 | _,_,_,.clo h => rfl
theorem dQ.size : ∀ {es : Nat} {ts : List AV} {cs : List Value},dQ w F es ts cs → cs.length = ts.length * es
 | _,_,_,.nil => by simp
 | es,_,_,.cons h1 h2 h3 => by
  have:=dQ.size h3
  simp only [List.length_append,List.length_cons,h2,this,Nat.add_mul,Nat.one_mul]
  omega
end
theorem dM.size : ∀ {ρ : Nat → Option Loc} {ts : List AV} {cs : List Value},dM w F ρ ts cs → cs.length = iV ts
 | _,_,_,.nil => rfl
 | _,_,_,.cons h1 h2 => by simp only [List.length_append,iV,h1.size,dM.size h2]
theorem aFU {v : Value} (h : n9 v = true) : v.oneCell' = true:=by
 cases v <;> first | rfl | simp [n9] at h
mutual
theorem bK.vM : ∀ {ρ : Nat → Option Loc} {t : AV} {cs : List Value},bK w F ρ t cs → ∀ v ∈ cs,v.oneCell' = true
 | _,_,_,.sc h => fun v hv => by simp only [List.mem_singleton] at hv;subst hv;exact aFU h
 | _,_,_,.agg h hn => dM.vM h
 | _,_,_,.arr h hn => dQ.vM h
 | _,_,_,.gW h => fun v hv => by simp only [List.mem_singleton] at hv;subst hv;rfl
 | _,_,_,.fro h hrd hb hc hl => fun v hv => by simp only [List.mem_singleton] at hv;subst hv;rfl
 | _,_,_,.cC h hrd hb => fun v hv => by simp only [List.mem_singleton] at hv;subst hv;rfl
 | _,_,_,.sl0 => fun v hv => by simp only [List.mem_singleton] at hv;subst hv;rfl
 | _,_,_,.sl h1 h2 h3 h4 => fun v hv => by simp only [List.mem_singleton] at hv;subst hv;rfl
 | _,_,_,.ptr h => fun v hv => by simp only [List.mem_singleton] at hv;subst hv;rfl
 | _,_,_,.clo h => fun v hv => by simp only [List.mem_singleton] at hv;subst hv;rfl
theorem dM.vM : ∀ {ρ : Nat → Option Loc} {ts : List AV} {cs : List Value},dM w F ρ ts cs → ∀ v ∈ cs,v.oneCell' = true
 | _,_,_,.nil => fun v hv => by cases hv
 | _,_,_,.cons h1 h2 => fun v hv => by
  rcases List.mem_append.1 hv with h | h
  ·exact bK.vM h1 v h
  ·exact dM.vM h2 v h
theorem dQ.vM : ∀ {es : Nat} {ts : List AV} {cs : List Value},dQ w F es ts cs → ∀ v ∈ cs,v.oneCell' = true
 | _,_,_,.nil => fun v hv => by cases hv
 | _,_,_,.cons h1 h2 h3 => fun v hv => by
  rcases List.mem_append.1 hv with h | h
  ·exact bK.vM h1 v h
  ·exact dQ.vM h3 v h
end
theorem bK.single {ρ : Nat → Option Loc} {t : AV} {cs : List Value} (h : bK w F ρ t cs) (ha : t.isAgg = false) : ∃ v,cs = [v]:=by
 cases h <;> first | exact ⟨_,rfl⟩ | simp [AV.isAgg] at ha
theorem bK.storable {ρ : Nat → Option Loc} {t : AV} {cs : List Value} (h : bK w F ρ t cs) : t.storable = true:=by
 cases h <;> rfl
mutual
theorem bK.free : ∀ {ρ ρ' : Nat → Option Loc} {t : AV} {cs : List Value},t.eJ = true → bK w F ρ t cs → bK w F ρ' t cs
 | _,_,_,_,_,.sc h => .sc h
 | _,_,_,_,hi,.agg h hn => .agg (dM.free (by simpa [AV.eJ] using hi) h) hn
 | _,_,_,_,_,.arr h hn => .arr h hn
 | _,_,_,_,_,.gW h => .gW h
 | _,_,_,_,_,.fro h hrd hb hc hl => .fro h hrd hb hc hl
 | _,_,_,_,_,.cC h hrd hb => .cC h hrd hb
 | _,_,_,_,hi,.sl0 => .sl0
 | _,_,_,_,hi,.sl h1 h2 h3 h4 => by simp [AV.eJ] at hi
 | _,_,_,_,hi,.ptr h => by simp [AV.eJ] at hi
 | _,_,_,_,hi,.clo h => .clo (jM.free (by simpa [AV.eJ] using hi) h)
theorem dM.free : ∀ {ρ ρ' : Nat → Option Loc} {ts : List AV} {cs : List Value},AV.iW ts = true → dM w F ρ ts cs → dM w F ρ' ts cs
 | _,_,_,_,_,.nil => .nil
 | _,_,_,_,hi,.cons h1 h2 => by
  simp only [AV.iW,zaG] at hi
  exact .cons (bK.free hi.1 h1) (dM.free hi.2 h2)
theorem jM.free : ∀ {ρ ρ' : Nat → Option Loc} {ts : List AV} {cs : List Value},AV.iW ts = true → jM w F ρ ts cs → jM w F ρ' ts cs
 | _,_,_,_,_,.nil => .nil
 | _,_,_,_,hi,.cons h1 h2 h3 => by
  simp only [AV.iW,zaG] at hi
  exact .cons (bK.free hi.1 h1) h2 (jM.free hi.2 h3)
end
def aA4 (n : Nat) (ρ : Nat → Option Loc) : Nat → Option Loc:=fun i => if i < n then ρ i else none
theorem aPK {n i : Nat} {ρ : Nat → Option Loc} (h : Nat.blt i n = true) : aA4 n ρ i = ρ i:=by
 have : i < n:=Nat.le_of_ble_eq_true h
 simp [aA4,this]
mutual
theorem bK.cut {n : Nat} : ∀ {ρ : Nat → Option Loc} {t : AV} {cs : List Value},t.pX n = true → bK w F ρ t cs → bK w F (aA4 n ρ) t cs
 | _,_,_,_,.sc h => .sc h
 | _,_,_,hi,.agg h hn => .agg (dM.cut (by simpa [AV.pX] using hi) h) hn
 | _,_,_,_,.arr h hn => .arr h hn
 | _,_,_,_,.gW h => .gW h
 | _,_,_,_,.fro h hrd hb hc hl => .fro h hrd hb hc hl
 | _,_,_,_,.cC h hrd hb => .cC h hrd hb
 | _,_,_,_,.sl0 => .sl0
 | _,_,_,hi,.sl h1 h2 h3 h4 => .sl (by rw [aPK (by simpa [AV.pX] using hi)];exact h1) h2 h3 h4
 | _,_,_,hi,.ptr h => .ptr (by rw [aPK (by simpa [AV.pX] using hi)];exact h)
 | _,_,_,hi,.clo h => .clo (jM.cut (by simpa [AV.pX] using hi) h)
theorem dM.cut {n : Nat} : ∀ {ρ : Nat → Option Loc} {ts : List AV} {cs : List Value},AV.rR n ts = true → dM w F ρ ts cs → dM w F (aA4 n ρ) ts cs
 | _,_,_,_,.nil => .nil
 | _,_,_,hi,.cons h1 h2 => by
  simp only [AV.rR,zaG] at hi
  exact .cons (bK.cut hi.1 h1) (dM.cut hi.2 h2)
theorem jM.cut {n : Nat} : ∀ {ρ : Nat → Option Loc} {ts : List AV} {cs : List Value},AV.rR n ts = true → jM w F ρ ts cs → jM w F (aA4 n ρ) ts cs
 | _,_,_,_,.nil => .nil
 | _,_,_,hi,.cons h1 h2 h3 => by
  simp only [AV.rR,zaG] at hi
  exact .cons (bK.cut hi.1 h1) h2 (jM.cut hi.2 h3)
end
mutual
theorem bL.cut {n : Nat} : ∀ {ρ : Nat → Option Loc} {t : AV} {v : Value},t.pX n = true → bL w F ρ t v → bL w F (aA4 n ρ) t v
 | _,_,_,hi,.one h ha => .one (h.cut hi) ha
 | _,_,_,hi,.agg h ha => .agg (h.cut hi) ha
 | _,_,_,hi,.tup h => .tup (bR.cut (by simpa [AV.pX] using hi) h)
 | _,_,_,_,.dV => .dV
 | _,_,_,_,.unk => .unk
theorem bR.cut {n : Nat} : ∀ {ρ : Nat → Option Loc} {ts : List AV} {vs : List Value},AV.rR n ts = true → bR w F ρ ts vs → bR w F (aA4 n ρ) ts vs
 | _,_,_,_,.nil => .nil
 | _,_,_,hi,.cons h1 h2 => by
  simp only [AV.rR,zaG] at hi
  exact .cons (bL.cut hi.1 h1) (bR.cut hi.2 h2)
end
theorem Ext.refl (F : Nat → Prop) (w : World) : Ext F w w:=⟨fun _ _ => rfl,fun b cur e h => ⟨cur,h,rfl⟩⟩
theorem bK.up {ρ : Nat → Option Loc} {t : AV} {cs : List Value} (h : bK w F fB t cs) : bK w F ρ t cs :=
 h.mono (Ext.refl F w) (fun _ h => h) (fun i l hi => by simp [fB] at hi)
theorem dM.nth : ∀ {ρ : Nat → Option Loc} {ts : List AV} {cs : List Value} {i : Nat} {t : AV},dM w F ρ ts cs → ts[i]? = some t →
  ∃ pre mid post,cs = pre ++ (mid ++ post) ∧ pre.length = iV (ts.take i) ∧ bK w F ρ t mid ∧ dM w F ρ (ts.take i) pre ∧ dM w F ρ (ts.drop (i + 1)) post
 | _,_,_,i,_,.nil,ht => by simp at ht
 | _,_,_,0,_,.cons h1 h2,ht => by
  simp only [List.getElem?_cons_zero,zaA] at ht
  subst ht
  exact ⟨[],_,_,rfl,rfl,h1,.nil,by simpa using h2⟩
 | _,_,_,i + 1,_,.cons h1 h2,ht => by
  simp only [List.getElem?_cons_succ] at ht
  obtain ⟨pre,mid,post,rfl,hp,hm,hl,hr⟩:=dM.nth h2 ht
  exact ⟨_ ++ pre,mid,post,by simp,by simp [iV,h1.size,hp],hm,.cons h1 hl,by simpa using hr⟩
theorem dQ.nth : ∀ {es : Nat} {ts : List AV} {cs : List Value} {i : Nat} {t : AV},dQ w F es ts cs → ts[i]? = some t →
  ∃ pre mid post,cs = pre ++ (mid ++ post) ∧ pre.length = i * es ∧ bK w F fB t mid ∧ mid.length = es ∧ dQ w F es (ts.take i) pre ∧ dQ w F es (ts.drop (i + 1)) post
 | _,_,_,i,_,.nil,ht => by simp at ht
 | _,_,_,0,_,.cons h1 h0 h2,ht => by
  simp only [List.getElem?_cons_zero,zaA] at ht
  subst ht
  exact ⟨[],_,_,rfl,by simp,h1,h0,.nil,by simpa using h2⟩
 | es,_,_,i + 1,_,.cons h1 h0 h2,ht => by
  simp only [List.getElem?_cons_succ] at ht
  obtain ⟨pre,mid,post,rfl,hp,hm,hs,hl,hr⟩:=dQ.nth h2 ht
  exact ⟨_ ++ pre,mid,post,by simp,by simp [h0,hp,Nat.add_mul];omega,hm,hs,.cons h1 h0 hl,by simpa using hr⟩
theorem dM.append : ∀ {ρ : Nat → Option Loc} {ts us : List AV} {cs ds : List Value},dM w F ρ ts cs → dM w F ρ us ds → dM w F ρ (ts ++ us) (cs ++ ds)
 | _,_,_,_,_,.nil,h => h
 | _,_,_,_,_,.cons h1 h2,h => by simp only [List.cons_append,List.append_assoc];exact .cons h1 (dM.append h2 h)
theorem dQ.append : ∀ {es : Nat} {ts us : List AV} {cs ds : List Value},dQ w F es ts cs → dQ w F es us ds → dQ w F es (ts ++ us) (cs ++ ds)
 | _,_,_,_,_,.nil,h => h
 | _,_,_,_,_,.cons h1 h0 h2,h => by simp only [List.cons_append,List.append_assoc];exact .cons h1 h0 (dQ.append h2 h)
theorem dQ.take : ∀ {es : Nat} {ts : List AV} {cs : List Value} (n : Nat),dQ w F es ts cs → dQ w F es (ts.take n) (cs.take (n * es))
 | _,_,_,0,_ => by simp;exact .nil
 | _,_,_,n + 1,.nil => by simp;exact .nil
 | es,_,_,n + 1,.cons (c:=c) h1 h0 h2 => by
  have:=dQ.take n h2
  have e : c.take ((n + 1) * es) = c:=List.take_of_length_le (by rw [h0,Nat.add_mul];omega)
  rw [List.take_succ_cons,List.take_append,h0,show (n + 1) * es - es = n * es by rw [Nat.add_mul];omega,e]
  exact .cons h1 h0 this
theorem dQ.drop : ∀ {es : Nat} {ts : List AV} {cs : List Value} (n : Nat),dQ w F es ts cs → dQ w F es (ts.drop n) (cs.drop (n * es))
 | _,_,_,0,h => by simpa using h
 | _,_,_,n + 1,.nil => by simp;exact .nil
 | es,_,_,n + 1,.cons (c:=c) h1 h0 h2 => by
  have:=dQ.drop n h2
  have e : c.drop ((n + 1) * es) = []:=List.drop_of_length_le (by rw [h0,Nat.add_mul];omega)
  rw [List.drop_succ_cons,List.drop_append,h0,show (n + 1) * es - es = n * es by rw [Nat.add_mul];omega,e]
  simpa using this
theorem uT {α : Type} {ts : List α} {i : Nat} {t u : α} (h : ts[i]? = some t) : ts.set i u = ts.take i ++ (u :: ts.drop (i + 1)):=by
 have hi : i < ts.length:=(List.getElem?_eq_some_iff.1 h).1
 rw [List.set_eq_take_append_cons_drop];simp [hi]
theorem bK.at : ∀ (p : List Nat) {ρ : Nat → Option Loc} {t u : AV} {cs : List Value} {o : Nat},bK w F ρ t cs → t.at? p = some (o,u) →
  ∃ pre mid post,cs = pre ++ (mid ++ post) ∧ pre.length = o ∧ bK w F ρ u mid ∧
   ∀ v t' mid',t.set? p v = some t' → bK w F ρ v mid' → mid'.length = mid.length → bK w F ρ t' (pre ++ (mid' ++ post))
 | [],ρ,t,u,cs,o,h,hat => by
  simp only [AV.at?,zaA,zaJ] at hat
  obtain ⟨rfl,rfl⟩:=hat
  refine ⟨[],cs,[],by simp,rfl,h,fun v t' mid' hs hv _ => ?_⟩
  simp only [AV.set?,zaA] at hs
  subst hs
  simpa using hv
 | i :: p,ρ,t,u,cs,o,h,hat => by
  cases h with
  | agg hl hn =>
   simp only [AV.at?] at hat
   split at hat
   ·rename_i t1 ht1
    split at hat
    ·rename_i o1 u1 hat1
     simp only [zaA,zaJ] at hat
     obtain ⟨rfl,rfl⟩:=hat
     obtain ⟨pre,mid,post,rfl,hp,hm,hl1,hl2⟩:=hl.nth ht1
     obtain ⟨pre2,mid2,post2,rfl,hp2,hm2,sI⟩:=bK.at p hm hat1
     refine ⟨pre ++ pre2,mid2,post2 ++ post,by simp,by simp [hp,hp2],hm2,fun v t' mid' hs hv hlen => ?_⟩
     simp only [AV.set?,ht1] at hs
     split at hs
     ·rename_i u2 hu2
      simp only [zaA] at hs
      subst hs
      have:=sI v u2 mid' hu2 hv hlen
      have e : pre ++ pre2 ++ (mid' ++ (post2 ++ post)) = pre ++ ((pre2 ++ (mid' ++ post2)) ++ post):=by simp
      rw [e]
      refine .agg ?_ (by simp at hn ⊢;omega)
      rw [uT ht1]
      exact hl1.append (.cons this hl2)
     ·cases hs
    ·cases hat
   ·cases hat
  | arr hl hn =>
   simp only [AV.at?] at hat
   split at hat
   ·rename_i t1 ht1
    split at hat
    ·rename_i o1 u1 hat1
     simp only [zaA,zaJ] at hat
     obtain ⟨rfl,rfl⟩:=hat
     obtain ⟨pre,mid,post,rfl,hp,hm,hms,hl1,hl2⟩:=hl.nth ht1
     obtain ⟨pre2,mid2,post2,rfl,hp2,hm2,sI⟩:=bK.at p hm hat1
     refine ⟨pre ++ pre2,mid2,post2 ++ post,by simp,by simp [hp,hp2],hm2.up,fun v t' mid' hs hv hlen => ?_⟩
     simp only [AV.set?,ht1] at hs
     split at hs
     ·rename_i u2 hu2
      split at hs
      ·rename_i hfree
       simp only [zaA] at hs
       subst hs
       have:=sI v u2 mid' hu2 (hv.free hfree) hlen
       have e : pre ++ pre2 ++ (mid' ++ (post2 ++ post)) = pre ++ ((pre2 ++ (mid' ++ post2)) ++ post):=by simp
       rw [e]
       refine .arr ?_ (by simp [hn])
       rw [uT ht1]
       exact hl1.append (.cons this (by simp at hms ⊢;omega) hl2)
      ·cases hs
     ·cases hs
    ·cases hat
   ·cases hat
  | _ => simp [AV.at?] at hat
end shape
end Go.Ra
namespace Go.Ra
set_option linter.unusedVariables false
structure Gh where
 ρ : Nat → Option Loc
 F : Nat → Prop
def upd {α : Type} (f : Nat → α) (i : Nat) (x : α) : Nat → α:=fun j => if j = i then x else f j
theorem bN {α : Type} (f : Nat → α) (i : Nat) (x : α) : upd f i x i = x:=by simp [upd]
theorem bU {α : Type} (f : Nat → α) {i j : Nat} (x : α) (h : j ≠ i) : upd f i x j = f j:=by simp [upd,h]
structure Wf (G : Gh) (w : World) (H : Nat → Option AV) (U : Nat → Prop) : Prop where
 free : ∀ i,U i → H i = none ∧ G.ρ i = none
 fsz : ∀ b,G.F b → b < w.heap.size
 blk : ∀ i t,H i = some t →
  (∃ (b o : Nat) (cs : List Value) (cur : Array Value) (e : TypeId),G.ρ i = some (b,o) ∧ bK w G.F G.ρ t cs ∧ w.heap[b]? = some (Obj.cells cur e (0,0)) ∧ Reads w b o cs ∧ ¬ G.F b) ∨
  (G.ρ i = none ∧ ∃ es,t = .arr 0 es [])
 dis : ∀ (i j b o o' : Nat),H i ≠ none → H j ≠ none → G.ρ i = some (b,o) → G.ρ j = some (b,o') → i = j
structure Fr where
 w0 : World
 S : Nat → Prop
 F0 : Nat → Prop
 nt : Nat
structure sO (fr : Fr) (G : Gh) (w : World) (H : Nat → Option AV) : Prop where
 os : w.os = fr.w0.os
 tape : w.tape = fr.w0.tape
 output : w.output = fr.w0.output
 size : fr.w0.heap.size ≤ w.heap.size
 same : ∀ b,b < fr.w0.heap.size → ¬ fr.S b → w.heap[b]? = fr.w0.heap[b]?
 ext : Ext fr.F0 fr.w0 w
 f0 : ∀ b,fr.F0 b → G.F b
 sJ : ∀ b,G.F b → fr.F0 b ∨ fr.S b ∨ fr.w0.heap.size ≤ b
 loc : ∀ (i b o : Nat),H i ≠ none → G.ρ i = some (b,o) → fr.S b ∨ fr.w0.heap.size ≤ b
structure Nxt (fr : Fr) (G : Gh) (w : World) (G' : Gh) (w' : World) (H' : Nat → Option AV) (U' : Nat → Prop) : Prop where
 wf : Wf G' w' H' U'
 fr : sO fr G' w' H'
 ext : Ext G.F w w'
 leF : ∀ b,G.F b → G'.F b
 leR : ∀ i l,G.ρ i = some l → G'.ρ i = some l
theorem Ext.trans {F F' : Nat → Prop} {a b c : World} (h : Ext F a b) (k : Ext F' b c) (hF : ∀ x,F x → F' x) : Ext F a c :=
 ⟨fun x hx => (k.same x (hF x hx)).trans (h.same x hx),fun x cur e hx => by
  obtain ⟨c1,h1,h2⟩:=h.rows x cur e hx
  obtain ⟨c2,h3,h4⟩:=k.rows x c1 e h1
  exact ⟨c2,h3,h4.trans h2⟩⟩
theorem Reads.pY {w w' : World} {b o : Nat} {cs : List Value} (h : Reads w b o cs) (hb : w'.heap[b]? = w.heap[b]?) : Reads w' b o cs:=by
 intro j v hj
 rw [World.cell?_of_block (a:=⟨b,o + j,none⟩) hb]
 exact h j v hj
structure hJ (w w' : World) : Prop where
 heap : w'.heap = w.heap
 os : w'.os = w.os
 tape : w'.tape = w.tape
 output : w'.output = w.output
theorem hJ.refl (w : World) : hJ w w:=⟨rfl,rfl,rfl,rfl⟩
structure nG (w w' : World) (o : Obj) : Prop where
 heap : w'.heap = w.heap.push o
 os : w'.os = w.os
 tape : w'.tape = w.tape
 output : w'.output = w.output
structure aJ9 (w w' : World) (b : Nat) (cur cur' : Array Value) (e : TypeId) : Prop where
 old : w.heap[b]? = some (Obj.cells cur e (0,0))
 new : w'.heap[b]? = some (Obj.cells cur' e (0,0))
 other : ∀ k,k ≠ b → w'.heap[k]? = w.heap[k]?
 size : cur'.size = cur.size
 hsz : w'.heap.size = w.heap.size
 os : w'.os = w.os
 tape : w'.tape = w.tape
 output : w'.output = w.output
section
variable {fr : Fr} {G : Gh} {w w' : World} {H : Nat → Option AV} {U : Nat → Prop}
theorem lt_of_block {w : World} {b : Nat} {o : Obj} (h : w.heap[b]? = some o) : b < w.heap.size:=(Array.getElem?_eq_some_iff.1 h).1
theorem hJ.ext (h : hJ w w') (F : Nat → Prop) : Ext F w w':=⟨fun b _ => by rw [h.heap],fun b cur e hb => ⟨cur,by rw [h.heap];exact hb,rfl⟩⟩
theorem nG.old {o : Obj} (h : nG w w' o) {b : Nat} (hb : b < w.heap.size) : w'.heap[b]? = w.heap[b]?:=by
 rw [h.heap,Array.getElem?_push,if_neg (by omega)]
theorem nG.new {o : Obj} (h : nG w w' o) : w'.heap[w.heap.size]? = some o:=by rw [h.heap];simp
theorem nG.size {o : Obj} (h : nG w w' o) : w'.heap.size = w.heap.size + 1:=by rw [h.heap];simp
theorem nG.ext {o : Obj} (h : nG w w' o) (F : Nat → Prop) (hF : ∀ b,F b → b < w.heap.size) : Ext F w w' :=
 ⟨fun b hb => h.old (hF b hb),fun b cur e hb => ⟨cur,by rw [h.old (lt_of_block hb)];exact hb,rfl⟩⟩
theorem aJ9.ext {b : Nat} {cur cur' : Array Value} {e : TypeId} (h : aJ9 w w' b cur cur' e) (F : Nat → Prop) (hF : ¬ F b) : Ext F w w' :=
 ⟨fun k hk => h.other k (fun hkb => hF (hkb ▸ hk)),fun k c1 e1 hk => by
  by_cases hkb : k = b
  ·subst hkb
   rw [h.old] at hk
   simp only [zaA,Obj.cells.injEq] at hk
   obtain ⟨rfl,rfl,_⟩:=hk
   exact ⟨cur',h.new,h.size⟩
  ·exact ⟨c1,by rw [h.other k hkb];exact hk,rfl⟩⟩
theorem Nxt.same (hw : Wf G w H U) (hf : sO fr G w H) (h : hJ w w') : Nxt fr G w G w' H U:=by
 have hx:=h.ext G.F
 refine ⟨⟨hw.free,fun b hb => by rw [h.heap];exact hw.fsz b hb,fun i t hi => ?_,hw.dis⟩,⟨h.os.trans hf.os,h.tape.trans hf.tape,h.output.trans hf.output,by rw [h.heap];exact hf.size,fun b hb hs => by rw [h.heap];exact hf.same b hb hs,hf.ext.trans (h.ext G.F) hf.f0,hf.f0,hf.sJ,hf.loc⟩,hx,fun _ h => h,fun _ _ h => h⟩
 rcases hw.blk i t hi with ⟨b,o,cs,cur,e,h1,h2,h3,h4,h5⟩ | h1
 ·exact .inl ⟨b,o,cs,cur,e,h1,h2.mono hx (fun _ h => h) (fun _ _ h => h),by rw [h.heap];exact h3,h4.pY (by rw [h.heap]),h5⟩
 ·exact .inr h1
theorem Nxt.frozen (hw : Wf G w H U) (hf : sO fr G w H) {cur : Array Value} {e : TypeId} (h : nG w w' (Obj.cells cur e (0,0))) :
  Nxt fr G w ⟨G.ρ,fun b => G.F b ∨ b = w.heap.size⟩ w' H U:=by
 have hx:=h.ext G.F hw.fsz
 refine ⟨⟨hw.free,fun b hb => ?_,fun i t hi => ?_,hw.dis⟩,⟨h.os.trans hf.os,h.tape.trans hf.tape,h.output.trans hf.output,by rw [h.size];have:=hf.size;omega,fun b hb hs => ?_,hf.ext.trans hx hf.f0,fun b hb => .inl (hf.f0 b hb),fun b hb => ?_,hf.loc⟩,hx,fun _ h => .inl h,fun _ _ h => h⟩
 ·rw [h.size]
  rcases hb with hb | rfl
  ·have:=hw.fsz b hb;omega
  ·omega
 ·rcases hw.blk i t hi with ⟨b,o,cs,cur,e,h1,h2,h3,h4,h5⟩ | h1
  ·have hlt:=lt_of_block h3
   refine .inl ⟨b,o,cs,cur,e,h1,h2.mono hx (fun _ h => .inl h) (fun _ _ h => h),by rw [h.old hlt];exact h3,h4.pY (h.old hlt), ?_⟩
   rintro (hb | rfl)
   ·exact h5 hb
   ·omega
  ·exact .inr h1
 ·rw [h.old (by have:=hf.size;omega)];exact hf.same b hb hs
 ·rcases hb with hb | rfl
  ·exact hf.sJ b hb
  ·exact .inr (.inr hf.size)
theorem Nxt.own (hw : Wf G w H U) (hf : sO fr G w H) {cur : Array Value} {e : TypeId} (h : nG w w' (Obj.cells cur e (0,0)))
  {i : Nat} (hU : U i) {t : AV} {cs : List Value} (ht : bK w G.F G.ρ t cs) (hc : ∀ (j : Nat) (v : Value),cs[j]? = some v → cur[j]? = some v) {U' : Nat → Prop} (hU' : ∀ j,U' j → U j ∧ j ≠ i) :
  Nxt fr G w ⟨upd G.ρ i (some (w.heap.size,0)),G.F⟩ w' (upd H i (some t)) U':=by
 have hx:=h.ext G.F hw.fsz
 have hfree:=hw.free i hU
 have hle : ∀ j l,G.ρ j = some l → upd G.ρ i (some (w.heap.size,0)) j = some l:=fun j l hj => by
  rw [bU]
  ·exact hj
  ·rintro rfl;rw [hfree.2] at hj;cases hj
 have hlt : ∀ j b o,H j ≠ none → G.ρ j = some (b,o) → b < w.heap.size:=fun j b o hj hr => by
  cases hj' : H j with
  | none => exact absurd hj' hj
  | some t =>
   rcases hw.blk j t hj' with ⟨b',o',cs,cur,e,h1,h2,h3,h4,h5⟩ | h1
   ·rw [hr] at h1
    simp only [zaA,zaJ] at h1
    rw [h1.1];exact lt_of_block h3
   ·rw [hr] at h1;cases h1.1
 refine ⟨⟨fun j hj => ?_,fun b hb => by rw [h.size];have:=hw.fsz b hb;omega,fun j u hj => ?_,fun j k b o o' hj hk hrj hrk => ?_⟩,
  ⟨h.os.trans hf.os,h.tape.trans hf.tape,h.output.trans hf.output,by rw [h.size];have:=hf.size;omega,fun b hb hs => by rw [h.old (by have:=hf.size;omega)];exact hf.same b hb hs,hf.ext.trans hx hf.f0,hf.f0,hf.sJ,fun j b o hj hr => ?_⟩,hx,fun _ h => h,hle⟩
 ·obtain ⟨hj1,hj2⟩:=hU' j hj
  rw [bU _ _ hj2]
  exact ⟨(hw.free j hj1).1,by show upd G.ρ i _ j = none;rw [bU _ _ hj2];exact (hw.free j hj1).2⟩
 ·by_cases hji : j = i
  ·subst hji
   rw [bN] at hj
   simp only [zaA] at hj
   subst hj
   refine .inl ⟨w.heap.size,0,cs,cur,e,bN _ _ _,ht.mono hx (fun _ h => h) hle,h.new,fun k v hk => ?_,fun hb => by have:=hw.fsz _ hb;omega⟩
   rw [World.cell?,h.new];simpa using hc k v hk
  ·rw [bU _ _ hji] at hj
   rcases hw.blk j u hj with ⟨b,o,cs,cur,e,h1,h2,h3,h4,h5⟩ | h1
   ·have hb:=lt_of_block h3
    exact .inl ⟨b,o,cs,cur,e,by show upd G.ρ i _ j = _;rw [bU _ _ hji];exact h1,h2.mono hx (fun _ h => h) hle,by rw [h.old hb];exact h3,h4.pY (h.old hb),h5⟩
   ·exact .inr ⟨by show upd G.ρ i _ j = _;rw [bU _ _ hji];exact h1.1,h1.2⟩
 ·change upd G.ρ i _ j = _ at hrj
  change upd G.ρ i _ k = _ at hrk
  by_cases hji : j = i
  ·by_cases hki : k = i
   ·rw [hji,hki]
   ·rw [hji,bN] at hrj
    rw [bU _ _ hki] at hrk hk
    simp only [zaA,zaJ] at hrj
    have:=hlt k b o' hk hrk
    omega
  ·rw [bU _ _ hji] at hrj hj
   by_cases hki : k = i
   ·rw [hki,bN] at hrk
    simp only [zaA,zaJ] at hrk
    have:=hlt j b o hj hrj
    omega
   ·rw [bU _ _ hki] at hrk hk
    exact hw.dis j k b o o' hj hk hrj hrk
 ·change upd G.ρ i _ j = _ at hr
  by_cases hji : j = i
  ·rw [hji,bN] at hr
   simp only [zaA,zaJ] at hr
   exact .inr (by rw [← hr.1];exact hf.size)
  ·rw [bU _ _ hji] at hr hj
   exact hf.loc j b o hj hr
theorem Nxt.none (hw : Wf G w H U) (hf : sO fr G w H) (h : hJ w w') {i : Nat} (hU : U i) (es : Nat) {U' : Nat → Prop} (hU' : ∀ j,U' j → U j ∧ j ≠ i) :
  Nxt fr G w G w' (upd H i (some (.arr 0 es []))) U':=by
 have h0:=Nxt.same hw hf h
 have hfree:=hw.free i hU
 refine ⟨⟨fun j hj => ?_,h0.wf.fsz,fun j t hj => ?_,fun j k b o o' hj hk hrj hrk => ?_⟩,⟨h0.fr.os,h0.fr.tape,h0.fr.output,h0.fr.size,h0.fr.same,h0.fr.ext,h0.fr.f0,h0.fr.sJ,fun j b o hj hr => ?_⟩,h0.ext,h0.leF,h0.leR⟩
 ·obtain ⟨hj1,hj2⟩:=hU' j hj
  rw [bU _ _ hj2];exact hw.free j hj1
 ·by_cases hji : j = i
  ·subst hji
   rw [bN] at hj
   simp only [zaA] at hj
   exact .inr ⟨hfree.2,es,hj.symm⟩
  ·rw [bU _ _ hji] at hj
   exact h0.wf.blk j t hj
 ·have hji : j ≠ i:=by rintro rfl;rw [hfree.2] at hrj;cases hrj
  have hki : k ≠ i:=by rintro rfl;rw [hfree.2] at hrk;cases hrk
  rw [bU _ _ hji] at hj
  rw [bU _ _ hki] at hk
  exact hw.dis j k b o o' hj hk hrj hrk
 ·have hji : j ≠ i:=by rintro rfl;rw [hfree.2] at hr;cases hr
  rw [bU _ _ hji] at hj
  exact h0.fr.loc j b o hj hr
theorem Wf.kill (hw : Wf G w H U) (k : Nat) : Wf G w (upd H k Option.none) U:=by
 have hne : ∀ j,upd H k Option.none j ≠ Option.none → H j ≠ Option.none:=fun j hj => by
  by_cases hjk : j = k
  ·rw [hjk,bN] at hj;exact absurd rfl hj
  ·rwa [bU _ _ hjk] at hj
 refine ⟨fun i hi => ⟨?_,(hw.free i hi).2⟩,hw.fsz,fun i t hi => ?_,fun i j b o o' hi hj => hw.dis i j b o o' (hne i hi) (hne j hj)⟩
 ·by_cases hik : i = k
  ·rw [hik,bN]
  ·rw [bU _ _ hik];exact (hw.free i hi).1
 ·by_cases hik : i = k
  ·rw [hik,bN] at hi;cases hi
  ·rw [bU _ _ hik] at hi;exact hw.blk i t hi
theorem sO.kill (hf : sO fr G w H) (k : Nat) : sO fr G w (upd H k Option.none) :=
 ⟨hf.os,hf.tape,hf.output,hf.size,hf.same,hf.ext,hf.f0,hf.sJ,fun j b o hj hr => by
  by_cases hjk : j = k
  ·rw [hjk,bN] at hj;exact absurd rfl hj
  ·rw [bU _ _ hjk] at hj;exact hf.loc j b o hj hr⟩
theorem Nxt.rewrite (hw : Wf G w H U) (hf : sO fr G w H) {k i b o o' : Nat} {t t' : AV} {cs' : List Value} {cur cur' : Array Value} {e : TypeId}
  (hk : H k = some t) (hr : G.ρ k = some (b,o)) (h : aJ9 w w' b cur cur' e) (hi : (i = k ∧ o' = o) ∨ U i)
  (ht : bK w G.F G.ρ t' cs') (hc : ∀ (j : Nat) (v : Value),cs'[j]? = some v → cur'[o' + j]? = some v) {U' : Nat → Prop} (hU' : ∀ j,U' j → U j ∧ j ≠ i) :
  Nxt fr G w ⟨upd G.ρ i (some (b,o')),G.F⟩ w' (upd (upd H k Option.none) i (some t')) U':=by
 have hnF : ¬ G.F b:=by
  rcases hw.blk k t hk with ⟨b',o1,cs,c1,e1,h1,h2,h3,h4,h5⟩ | h1
  ·rw [hr] at h1;simp only [zaA,zaJ] at h1;rw [h1.1];exact h5
  ·rw [hr] at h1;cases h1.1
 have hx:=h.ext G.F hnF
 have hle : ∀ j l,G.ρ j = some l → upd G.ρ i (some (b,o')) j = some l:=fun j l hj => by
  by_cases hji : j = i
  ·subst hji
   rcases hi with ⟨rfl,rfl⟩ | hi
   ·rw [bN,← hr,hj]
   ·rw [(hw.free j hi).2] at hj;cases hj
  ·rw [bU _ _ hji];exact hj
 have live : ∀ j,j ≠ i → upd (upd H k Option.none) i (some t') j ≠ Option.none → H j ≠ Option.none ∧ j ≠ k:=fun j hji hj => by
  rw [bU _ _ hji] at hj
  by_cases hjk : j = k
  ·rw [hjk,bN] at hj;exact absurd rfl hj
  ·rw [bU _ _ hjk] at hj;exact ⟨hj,hjk⟩
 have apart : ∀ j b1 o1,H j ≠ Option.none → j ≠ k → G.ρ j = some (b1,o1) → b1 ≠ b:=fun j b1 o1 hj hjk hrj hbb => by
  subst hbb
  exact hjk (hw.dis j k b1 o1 o hj (by rw [hk];simp) hrj hr)
 have hS:=hf.loc k b o (by rw [hk];simp) hr
 refine ⟨⟨fun j hj => ?_,fun b1 hb => by rw [h.hsz];exact hw.fsz b1 hb,fun j u hj => ?_,fun j l b1 o1 o2 hj hl hrj hrl => ?_⟩,
  ⟨h.os.trans hf.os,h.tape.trans hf.tape,h.output.trans hf.output,by rw [h.hsz];exact hf.size,fun b1 hb hs => ?_,hf.ext.trans hx hf.f0,hf.f0,hf.sJ,fun j b1 o1 hj hrj => ?_⟩,hx,fun _ h => h,hle⟩
 ·obtain ⟨hj1,hj2⟩:=hU' j hj
  have hfj:=hw.free j hj1
  refine ⟨?_,by show upd G.ρ i _ j = _;rw [bU _ _ hj2];exact hfj.2⟩
  rw [bU _ _ hj2]
  by_cases hjk : j = k
  ·rw [hjk,bN]
  ·rw [bU _ _ hjk];exact hfj.1
 ·by_cases hji : j = i
  ·subst hji
   rw [bN] at hj
   simp only [zaA] at hj
   subst hj
   refine .inl ⟨b,o',cs',cur',e,bN _ _ _,ht.mono hx (fun _ h => h) hle,h.new,fun n v hn => ?_,hnF⟩
   rw [World.cell?,h.new];simpa using hc n v hn
  ·have hl:=live j hji (by rw [hj];simp)
   rw [bU _ _ hji,bU _ _ hl.2] at hj
   rcases hw.blk j u hj with ⟨b1,o1,cs,c1,e1,h1,h2,h3,h4,h5⟩ | h1
   ·have hne:=apart j b1 o1 hl.1 hl.2 h1
    exact .inl ⟨b1,o1,cs,c1,e1,by show upd G.ρ i _ j = _;rw [bU _ _ hji];exact h1,h2.mono hx (fun _ h => h) hle,by rw [h.other b1 hne];exact h3,h4.pY (h.other b1 hne),h5⟩
   ·exact .inr ⟨by show upd G.ρ i _ j = _;rw [bU _ _ hji];exact h1.1,h1.2⟩
 ·change upd G.ρ i _ j = _ at hrj
  change upd G.ρ i _ l = _ at hrl
  by_cases hji : j = i
  ·by_cases hli : l = i
   ·rw [hji,hli]
   ·rw [hji,bN] at hrj
    rw [bU _ _ hli] at hrl
    have hll:=live l hli hl
    simp only [zaA,zaJ] at hrj
    exact absurd hrj.1.symm (apart l b1 o2 hll.1 hll.2 hrl)
  ·rw [bU _ _ hji] at hrj
   have hlj:=live j hji hj
   by_cases hli : l = i
   ·rw [hli,bN] at hrl
    simp only [zaA,zaJ] at hrl
    exact absurd hrl.1.symm (apart j b1 o1 hlj.1 hlj.2 hrj)
   ·rw [bU _ _ hli] at hrl
    exact hw.dis j l b1 o1 o2 hlj.1 (live l hli hl).1 hrj hrl
 ·by_cases hbb : b1 = b
  ·subst hbb
   rcases hS with h1 | h1
   ·exact absurd h1 hs
   ·omega
  ·rw [h.other b1 hbb];exact hf.same b1 hb hs
 ·change upd G.ρ i _ j = _ at hrj
  by_cases hji : j = i
  ·rw [hji,bN] at hrj
   simp only [zaA,zaJ] at hrj
   rw [← hrj.1];exact hS
  ·rw [bU _ _ hji] at hrj
   exact hf.loc j b1 o1 (live j hji hj).1 hrj
end
end Go.Ra
namespace Go.Ra
set_option linter.unusedVariables false
set_option linter.unusedSimpArgs false
theorem aM7 : ∀ {v u : Value},aCX v u = true → v = u ∧ n9 v = true:=by
 intro v u h
 cases v <;> cases u <;> simp [aCX] at h
 case bool.bool => exact ⟨by rw [h],rfl⟩
 case int.int => exact ⟨by rw [h.1,h.2],rfl⟩
 case string.string a b =>
  refine ⟨?_,rfl⟩
  congr 1
  exact ByteArray.ext h
 case pointer.pointer a b =>
  cases a <;> cases b <;> simp [aCX] at h
  exact ⟨rfl,rfl⟩
theorem aM8 {x : Bool} {es : Nat} {ts : List AV} {cs r : List Value} (h : iF (.fro x es ts) cs = some r) : ∃ c,cs = c ++ r ∧ ∀ w F ρ,bK w F ρ (.fro x es ts) c:=by
 cases ts with
 | cons _ _ => cases cs <;> simp [iF] at h
 | nil =>
  cases cs with
  | nil => simp [iF] at h
  | cons u l =>
   unfold iF at h
   split at h
   all_goals first
    |(rename_i heq1 heq2
      simp only [List.cons.injEq] at heq2
      obtain ⟨rfl,rfl⟩:=heq2
      simp only [zaA] at h
      subst h
      exact ⟨[_],rfl,fun w F ρ => .gW (fun _ => rfl)⟩)
    |(simp_all;done)
mutual
theorem wR : ∀ {t : AV} {cs r : List Value},iF t cs = some r → ∃ c,cs = c ++ r ∧ ∀ w F ρ,bK w F ρ t c
 | .sc v,cs,r,h => by
  cases cs with
  | nil => simp [iF] at h
  | cons u l =>
   simp only [iF] at h
   split at h
   ·rename_i he
    obtain ⟨rfl,hp⟩:=aM7 he
    simp only [zaA] at h
    subst h
    exact ⟨[v],rfl,fun w F ρ => .sc hp⟩
   ·cases h
 | .fro x es ts,cs,r,h => aM8 h
 | .agg n ts,cs,r,h => by
  simp only [iF] at h
  split at h
  ·rename_i r' hr
   split at h
   ·rename_i hl
    simp only [zaA] at h
    subst h
    obtain ⟨c,rfl,hc⟩:=aBT hr
    exact ⟨c,rfl,fun w F ρ => .agg (hc w F ρ) (by simp at hl;omega)⟩
   ·cases h
  ·cases h
 | .arr n es ts,cs,r,h => by
  simp only [iF] at h
  split at h
  ·rename_i hl
   obtain ⟨c,rfl,hc⟩:=aBU h
   exact ⟨c,rfl,fun w F ρ => .arr (hc w F) hl⟩
  ·cases h
 | .cC _,_,_,h => by simp [iF] at h
 | .sl ..,_,_,h => by simp [iF] at h
 | .ptr ..,_,_,h => by simp [iF] at h
 | .clo ..,_,_,h => by simp [iF] at h
 | .tup _,_,_,h => by simp [iF] at h
 | .dV,_,_,h => by simp [iF] at h
 | .unk,_,_,h => by simp [iF] at h
theorem aBT : ∀ {ts : List AV} {cs r : List Value},xW ts cs = some r → ∃ c,cs = c ++ r ∧ ∀ w F ρ,dM w F ρ ts c
 | [],cs,r,h => by
  simp only [xW,zaA] at h
  subst h
  exact ⟨[],rfl,fun _ _ _ => .nil⟩
 | t :: ts,cs,r,h => by
  simp only [xW] at h
  split at h
  ·rename_i r' hr
   obtain ⟨c,rfl,hc⟩:=wR hr
   obtain ⟨c',rfl,hc'⟩:=aBT h
   exact ⟨c ++ c',by simp,fun w F ρ => .cons (hc w F ρ) (hc' w F ρ)⟩
  ·cases h
theorem aBU : ∀ {ts : List AV} {es : Nat} {cs r : List Value},xX es ts cs = some r → ∃ c,cs = c ++ r ∧ ∀ w F,dQ w F es ts c
 | [],es,cs,r,h => by
  simp only [xX,zaA] at h
  subst h
  exact ⟨[],rfl,fun _ _ => .nil⟩
 | t :: ts,es,cs,r,h => by
  simp only [xX] at h
  split at h
  ·rename_i r' hr
   split at h
   ·rename_i hsz
    obtain ⟨c,rfl,hc⟩:=wR hr
    obtain ⟨c',rfl,hc'⟩:=aBU h
    exact ⟨c ++ c',by simp,fun w F => .cons (hc w F fB) (by rw [(hc w F fB).size,hsz]) (hc' w F)⟩
   ·cases h
  ·cases h
end
theorem pZ {P : Program} {t : TypeId} {z : AV} (h : vV P t = some z) : ∃ i v,P.info? t = some i ∧ i.zero = some v ∧ z.eJ = true ∧ ∀ w F ρ,bK w F ρ z v.cells.toList ∧ bL w F ρ z v:=by
 unfold vV at h
 split at h
 ·rename_i z' i hz hi
  split at h
  ·rename_i v hv
   split at h
   ·rename_i hm
    split at h
    ·rename_i hc
     simp only [zaA] at h
     subst h
     simp only [zaG,beq_iff_eq] at hc
     obtain ⟨c,hcs,hrel⟩:=wR hm
     simp only [List.append_nil] at hcs
     refine ⟨i,v,hi,hv,hc.2,fun w F ρ => ?_⟩
     have h1 : bK w F ρ z' v.cells.toList:=by rw [hcs];exact hrel w F ρ
     refine ⟨h1, ?_⟩
     cases v with
     | agg cs =>
      have:=bL.agg (cs:=cs.toList) (by simpa [Value.cells] using h1) (by simpa [a44] using hc.1)
      simpa using this
     | _ => exact .one (by simpa [Value.cells] using h1) (by simpa [a44] using hc.1)
    ·cases h
   ·cases h
  ·cases h
 ·cases h
section inv
variable {w : World} {F : Nat → Prop} {ρ : Nat → Option Loc}
theorem bL.kZ {v u : Value} (h : bL w F ρ (.sc v) u) : u = v ∧ n9 v = true:=by
 cases h with
 | one h _ => cases h with | sc h => exact ⟨rfl,h⟩
 | agg h ha => simp [AV.isAgg] at ha
theorem bL.mP {id off : Nat} {path : List Nat} {u : Value} (h : bL w F ρ (.ptr id path off) u) : ∃ b o,ρ id = some (b,o) ∧ u = .pointer (some ⟨b,o + off,none⟩):=by
 cases h with
 | one h _ => cases h with | ptr h => exact ⟨_,_,h,rfl⟩
 | agg h ha => simp [AV.isAgg] at ha
theorem bL.sQ {t : AV} {u : Value} (h : bL w F ρ (.cC t) u) : ∃ b o cs,u = .pointer (some ⟨b,o,none⟩) ∧ bK w F fB t cs ∧ Reads w b o cs ∧ F b:=by
 cases h with
 | one h _ => cases h with | cC h1 h2 h3 => exact ⟨_,_,_,rfl,h1,h2,h3⟩
 | agg h ha => simp [AV.isAgg] at ha
theorem bL.o5 {x : Bool} {es : Nat} {ts : List AV} {u : Value} (h : bL w F ρ (.fro x es ts) u) :
  ∃ a cap,u = .slice a ts.length cap ∧ ts.length ≤ cap ∧ (x = true → cap = ts.length) ∧ ((ts = []) ∨ ∃ b o cs,a = some ⟨b,o,none⟩ ∧ dQ w F es ts cs ∧ Reads w b o cs ∧ F b):=by
 cases h with
 | one h _ =>
  cases h with
  | gW h => exact ⟨_,_,rfl,Nat.zero_le _,fun hx => h hx,.inl rfl⟩
  | fro h1 h2 h3 h4 h5 => exact ⟨_,_,rfl,h5,h4,.inr ⟨_,_,_,rfl,h1,h2,h3⟩⟩
 | agg h ha => simp [AV.isAgg] at ha
theorem bL.oA {id off k len es : Nat} {path : List Nat} {u : Value} (h : bL w F ρ (.sl id path off k len es) u) :
  ∃ a cap,u = .slice a len cap ∧ len ≤ cap ∧ ((len = 0 ∧ cap = 0) ∨ ∃ b o cur e,a = some ⟨b,o + off,none⟩ ∧ ρ id = some (b,o) ∧ w.heap[b]? = some (Obj.cells cur e (0,0)) ∧ o + off + cap * es ≤ cur.size):=by
 cases h with
 | one h _ =>
  cases h with
  | sl0 => exact ⟨_,_,rfl,zaF _,.inl ⟨rfl,rfl⟩⟩
  | sl h1 h2 h3 h4 => exact ⟨_,_,rfl,h2,.inr ⟨_,_,_,_,rfl,h1,h3,h4⟩⟩
 | agg h ha => simp [AV.isAgg] at ha
theorem bL.aPL {f : Nat} {caps : List AV} {u : Value} (h : bL w F ρ (.clo f caps) u) : ∃ cs,u = .func (.func f) #[] cs.toArray ∧ jM w F ρ caps cs:=by
 cases h with
 | one h _ => cases h with | clo h => exact ⟨_,rfl,h⟩
 | agg h ha => simp [AV.isAgg] at ha
theorem bL.aCY {ts : List AV} {u : Value} (h : bL w F ρ (.tup ts) u) : ∃ vs,u = .tuple vs.toArray ∧ bR w F ρ ts vs:=by
 cases h with
 | one h _ => cases h
 | agg h ha => simp [AV.isAgg] at ha
 | tup h => exact ⟨_,rfl,h⟩
theorem bL.aKA {u : Value} (h : bL w F ρ .dV u) : ∃ b,u = .bool b:=by
 cases h with
 | one h _ => cases h
 | agg h ha => simp [AV.isAgg] at ha
 | dV => exact ⟨_,rfl⟩
theorem aRZ {v : Value} (h : v.oneCell' = true) : v.cells = #[v]:=by cases v <;> first | rfl | simp [Value.oneCell'] at h
theorem bL.cells {t : AV} {u : Value} (h : bL w F ρ t u) (hs : t.storable = true) : bK w F ρ t u.cells.toList:=by
 cases h with
 | one h h0 => rw [aRZ (h.vM u (by simp))];simpa using h
 | agg h _ => simpa [Value.cells] using h
 | tup _ => simp [AV.storable] at hs
 | dV => simp [AV.storable] at hs
 | unk => simp [AV.storable] at hs
theorem bR.nth : ∀ {ts : List AV} {vs : List Value} {i : Nat} {t : AV},bR w F ρ ts vs → ts[i]? = some t → ∃ v,vs[i]? = some v ∧ bL w F ρ t v
 | _,_,i,_,.nil,h => by simp at h
 | _,_,0,_,.cons h1 h2,h => by
  simp only [List.getElem?_cons_zero,zaA] at h
  subst h
  exact ⟨_,rfl,h1⟩
 | _,_,i + 1,_,.cons h1 h2,h => by
  simp only [List.getElem?_cons_succ] at h
  obtain ⟨v,hv,hr⟩:=bR.nth h2 h
  exact ⟨v,by simpa using hv,hr⟩
end inv
inductive Chg where
 | same
 | new (t : AV)
 | put (k : Nat) (t : AV)
 | move (k : Nat) (t : AV)
def Chg.st : Chg → St → St
 | .same,σ => σ
 | .new t,σ => σ.new t
 | .put k t,σ => σ.n7 k (some t)
 | .move k t,σ => (σ.n7 k none).new t
def Chg.H : Chg → Nat → (Nat → Option AV) → Nat → Option AV
 | .same,_,H => H
 | .new t,n,H => upd H n (some t)
 | .put k t,_,H => upd (upd H k none) k (some t)
 | .move k t,n,H => upd (upd H k none) n (some t)
def Chg.lB : Chg → Bool
 | .new _ => true
 | .move _ _ => true
 | _ => false
def Chg.key : Chg → Option Nat
 | .put k _ => some k
 | .move k _ => some k
 | _ => none
def a46 (fr : Fr) (G : Gh) (w : World) (r : Result Next) (v : AV) (H' : Nat → Option AV) (U' : Nat → Prop) : Prop :=
 ∃ u w' G',(r = .ok (.value u) w' ∨ (r = .ok .skip w' ∧ u = undef)) ∧ Nxt fr G w G' w' H' U' ∧ bL w' G'.F G'.ρ v u
def aPM (σ : St) (G : Gh) (w : World) (a : Act) (o : Op) : Prop :=
 ∀ x x',x ∈ o.operands → trX x = some x' → bL w G.F G.ρ (σ.ev x') (a.eval x)
def Sound (P : Program) (o : Op) (ao : AOp) : Prop :=
 ∀ (σ σ' : St) (v : AV),aN ao σ = some (v,σ') → ∃ c : Chg,σ' = c.st σ ∧ (∀ k,c.key = some k → σ.H k ≠ none) ∧
  ∀ (fr : Fr) (oper : Oper) (G : Gh) (w : World) (H : Nat → Option AV) (U : Nat → Prop) (a : Act),oper.op = o → Wf G w H U → sO fr G w H → aPM σ G w a o →
   (∀ k t,σ.H k = some t → H k = some t) → (c.lB = true → U σ.n) →
   a46 fr G w ((execOp a.eval oper).run P w) v (c.H σ.n H) (fun j => U j ∧ (c.lB = true → j ≠ σ.n))
def eV (P : Program) (o : Op) (ao : AOp) : Prop :=
 ∀ (σ σ' : St) (v : AV),aN ao σ = some (v,σ') → σ' = σ ∧
  ∀ (oper : Oper) (G : Gh) (w : World) (H : Nat → Option AV) (U : Nat → Prop) (a : Act),oper.op = o → Wf G w H U → aPM σ G w a o → (∀ k t,σ.H k = some t → H k = some t) →
   ∃ u,(execOp a.eval oper).run P w = .ok (.value u) w ∧ bL w G.F G.ρ v u
theorem eV.sound {P : Program} {o : Op} {ao : AOp} (h : eV P o ao) : Sound P o ao:=by
 intro σ σ' v hs
 obtain ⟨h1,h2⟩:=h σ σ' v hs
 refine ⟨.same,h1,fun k hk => by simp [Chg.key] at hk,fun fr oper G w H U a ho hw hf hx hH _ => ?_⟩
 obtain ⟨u,hr,hv⟩:=h2 oper G w H U a ho hw hx hH
 have h0:=Nxt.same hw hf (hJ.refl w)
 refine ⟨u,w,G,.inl hr, ?_,hv⟩
 simpa [Chg.H,Chg.lB] using h0
end Go.Ra
namespace Go.Ra
set_option linter.unusedVariables false
set_option linter.unusedSimpArgs false
section
variable {P : Program}
theorem gF {s : Sem Value} {u : Value} {w w' : World} (h : s.run P w = .ok u w') : (do pure (Next.value (← s)) : Sem Next).run P w = .ok (.value u) w':=by
 simp [h]
theorem aZC {x : Operand} {x' : AX} (hx : trX x = some x') : eV P (.move x) (.mv x'):=by
 intro σ σ' v hs
 simp only [aN,zaA,zaJ] at hs
 obtain ⟨rfl,rfl⟩:=hs
 refine ⟨rfl,fun oper G w H U a ho hw hr hH => ⟨_, ?_,hr x x' (by simp [Op.operands]) hx⟩⟩
 simp [execOp,ho]
theorem aR0 {x : Operand} {x' : AX} (hx : trX x = some x') : eV P (.assign x) (.mv x'):=by
 intro σ σ' v hs
 simp only [aN,zaA,zaJ] at hs
 obtain ⟨rfl,rfl⟩:=hs
 refine ⟨rfl,fun oper G w H U a ho hw hr hH => ⟨_, ?_,hr x x' (by simp [Op.operands]) hx⟩⟩
 simp [execOp,ho]
theorem aZD {c x y : Operand} {c' x' y' : AX} (hc : trX c = some c') (hx : trX x = some x') (hy : trX y = some y') : eV P (.pick c x y) (.pick c' x' y'):=by
 intro σ σ' v hs
 simp only [aN] at hs
 split at hs
 ·rename_i b hb
  simp only [zaA,zaJ] at hs
  obtain ⟨rfl,rfl⟩:=hs
  refine ⟨rfl,fun oper G w H U a ho hw hr hH => ?_⟩
  have h1:=hr c c' (by simp [Op.operands]) hc
  rw [hb] at h1
  obtain ⟨h1,_⟩:=h1.kZ
  refine ⟨if b then a.eval x else a.eval y,by simp [execOp,ho,h1,asBool], ?_⟩
  cases b
  ·exact hr y y' (by simp [Op.operands]) hy
  ·exact hr x x' (by simp [Op.operands]) hx
 ·cases hs
theorem aT0 {x : Operand} {x' : AX} (hx : trX x = some x') : eV P (.nilCheck x) (.xV x'):=by
 intro σ σ' v hs
 simp only [aN] at hs
 split at hs
 all_goals first
  | cases hs;done
  |(rename_i hv
    simp only [zaA,zaJ] at hs
    obtain ⟨rfl,rfl⟩:=hs
    refine ⟨rfl,fun oper G w H U a ho hw hr hH => ?_⟩
    have h1:=hr x x' (by simp [Op.operands]) hx
    rw [hv] at h1
    refine ⟨a.eval x, ?_,h1⟩
    first
     |(obtain ⟨b,o,_,h2⟩:=h1.mP;simp [execOp,ho,h2])
     |(obtain ⟨b,o,cs,h2,_⟩:=h1.sQ;simp [execOp,ho,h2])
     |(obtain ⟨cs,h2,_⟩:=h1.aPL;simp [execOp,ho,h2]))
theorem aM9 {x : Operand} {x' : AX} {i : Nat} (hx : trX x = some x') : eV P (.extract x i) (.ext x' i):=by
 intro σ σ' v hs
 simp only [aN] at hs
 split at hs
 ·rename_i vs hv
  split at hs
  ·rename_i u hu
   simp only [zaA,zaJ] at hs
   obtain ⟨rfl,rfl⟩:=hs
   refine ⟨rfl,fun oper G w H U a ho hw hr hH => ?_⟩
   have h1:=hr x x' (by simp [Op.operands]) hx
   rw [hv] at h1
   obtain ⟨us,h2,h3⟩:=h1.aCY
   obtain ⟨z,hz,hrel⟩:=h3.nth hu
   exact ⟨z,by simp [execOp,ho,h2,Instr.extract,hz],hrel⟩
  ·cases hs
 ·cases hs
theorem aZE {x : Operand} {x' : AX} {src dst : TypeId} {j k : IntKind} (h1 : P.underlying src = some (.int j)) (h2 : P.underlying dst = some (.int k)) (hx : trX x = some x') : eV P (.convert src dst x) (.conv k x'):=by
 intro σ σ' v hs
 simp only [aN] at hs
 split at hs
 ·rename_i k' n hv
  simp only [zaA,zaJ] at hs
  obtain ⟨rfl,rfl⟩:=hs
  refine ⟨rfl,fun oper G w H U a ho hw hr hH => ?_⟩
  have h3:=hr x x' (by simp [Op.operands]) hx
  rw [hv] at h3
  obtain ⟨h3,_⟩:=h3.kZ
  refine ⟨.int k (k.wrap n), ?_,.one (.sc rfl) rfl⟩
  simp [execOp,ho,h3,convert,run_underlying h1,run_underlying h2,Conv.intToInt]
 ·cases hs
theorem bR.xZ {σ : St} {G : Gh} {w : World} {a : Act} : ∀ {xs : List Operand} {xs' : List AX},nX xs = some xs' → (∀ x x',x ∈ xs → trX x = some x' → bL w G.F G.ρ (σ.ev x') (a.eval x)) →
  bR w G.F G.ρ (xs'.map σ.ev) (xs.map a.eval)
 | [],xs',h,_ => by
  simp only [nX,zaA] at h
  subst h
  exact .nil
 | x :: xs,xs',h,hr => by
  simp only [nX] at h
  split at h
  ·rename_i b c hb hc
   simp only [zaA] at h
   subst h
   exact .cons (hr x b (by simp) hb) (bR.xZ hc fun y y' hy => hr y y' (by simp [hy]))
  ·cases h
theorem bR.vM {G : Gh} {w : World} : ∀ {ts : List AV} {vs : List Value},bR w G.F G.ρ ts vs → wP ts = true → jM w G.F G.ρ ts vs
 | _,_,.nil,_ => .nil
 | _,_,.cons (v:=v) h1 h2,h => by
  simp only [wP,zaG,Bool.not_eq_true'] at h
  have h3:=h1.cells h.1.1
  obtain ⟨u,hu⟩:=h3.single h.1.2
  have h4 : v = u:=by
   cases v <;> simp_all [Value.cells]
   case agg cs =>
    cases h1 with
    | one h5 _ => have:=h5.vM _ (List.mem_singleton.2 rfl);simp [Value.oneCell'] at this
    | agg h5 h6 => rw [h.1.2] at h6;cases h6
    | unk => simp [AV.storable] at h
  rw [hu] at h3
  rw [h4]
  exact .cons h3 h.1.2 (bR.vM h2 h.2)
theorem a47 {f : Nat} {caps : Array Operand} {caps' : List AX} {first : Array Operand} (hf : first.isEmpty = true) (hc : nX caps.toList = some caps') : eV P (.makeFunc (.func f) first caps) (.mkf f caps'):=by
 intro σ σ' v hs
 simp only [aN] at hs
 split at hs
 ·rename_i hok
  simp only [zaA,zaJ] at hs
  obtain ⟨rfl,rfl⟩:=hs
  refine ⟨rfl,fun oper G w H U a ho hw hr hH => ?_⟩
  have h1:=bR.xZ (σ:=σ) (G:=G) (w:=w) (a:=a) hc fun x x' hx hx' => hr x x' (by simp [Op.operands];exact .inr (by simpa using hx)) hx'
  have h2:=h1.vM hok
  have hfe : first = #[]:=by simpa using hf
  subst hfe
  refine ⟨.func (.func f) #[] (caps.map a.eval),by simp [execOp,ho,Instr.makeFunc],.one ?_ rfl⟩
  have:=bK.clo (f:=f) h2
  have e : (List.map a.eval caps.toList).toArray = Array.map a.eval caps:=by rw [← Array.toList_map,Array.toArray_toList]
  rwa [e] at this
 ·cases hs
theorem aT1 {op : BinOp} {x y u : Value} {t : TypeId} (h : aC7 op x y = some u) (w : World) (ht : wQ P t = true) (hx : n9 x = true) (hy : n9 y = true) :
  (binOp op t x y).run P w = .ok u w ∧ n9 u = true:=by
 unfold aC7 at h
 split at h
 ·rename_i k a k' b
  split at h
  ·rename_i hsh
   unfold shI at h
   split at h
   ·cases h
   ·rename_i hneg
    cases op <;> simp [qQ] at hsh
    all_goals
     simp only [zaA] at h
     subst h
     refine ⟨?_,rfl⟩
     simp [binOp,Op.shift,hneg,Nat.min_def]
  ·rename_i hsh
   split at h
   ·rename_i hkk
    subst hkk
    cases op <;> simp [qQ] at hsh <;> simp only [gY] at h
    case quo =>
     split at h
     ·cases h
     ·rename_i hb
      simp only [zaA] at h
      subst h
      exact ⟨by simp [binOp,Op.intDiv,hb],rfl⟩
    case rem =>
     split at h
     ·cases h
     ·rename_i hb
      simp only [zaA] at h
      subst h
      exact ⟨by simp [binOp,Op.intDiv,hb],rfl⟩
    case eql =>
     simp only [zaA] at h
     subst h
     refine ⟨?_,rfl⟩
     have e : (a == b) = decide (a = b):=by by_cases hab : a = b <;> simp [hab]
     simp [binOp,Op.intCmp,e]
    case neq =>
     simp only [zaA] at h
     subst h
     refine ⟨?_,rfl⟩
     have e : (a != b) = decide (¬ a = b):=by by_cases hab : a = b <;> simp [hab]
     simp only [binOp,ne_eq,zaN,if_false,Op.intCmp,e]
     rfl
    all_goals
     simp only [zaA] at h
     subst h
     refine ⟨?_,rfl⟩
     simp [binOp,Op.intArith,Op.intBits,Op.intCmp,eH]
   ·cases h
 ·rename_i a b
  have e : (a.toList == b.toList) = decide (a.toList = b.toList):=by by_cases hab : a.toList = b.toList <;> simp [hab]
  split at h
  ·simp only [zaA] at h
   subst h
   exact ⟨by simp only [binOp,Op.stringOp,e];rfl,rfl⟩
  ·simp only [zaA] at h
   subst h
   exact ⟨by simp only [binOp,Op.stringOp,e];rfl,rfl⟩
  ·split at h
   ·rename_i hsz
    simp only [zaA] at h
    subst h
    refine ⟨?_,rfl⟩
    have h2 : ¬ ((a.size + b.size : Nat) : Int) > IntKind.i64.max:=by
     have : IntKind.i64.max = 9223372036854775807:=by decide
     rw [this];omega
    have h3 : Op.stringOp .add a b = pure (.string (a ++ b)):=by unfold Op.stringOp;exact if_neg h2
    show (Op.stringOp .add a b).run P w = _
    rw [h3];rfl
   ·cases h
  ·cases h
 ·cases h
theorem aH2 {op : BinOp} {x y : Operand} {t : TypeId} {u v : Value} (w : World) (hu : n9 u = true) (hv : n9 v = true) : (eqGuard op t x y u v).run P w = .ok () w:=by
 unfold eqGuard
 cases op <;> simp <;> (cases u <;> cases v <;> first | rfl | simp [n9] at hu hv)
theorem a48 {op : BinOp} {t yt : TypeId} {x y : Operand} {x' y' : AX} (ht : wQ P t = true) (hx : trX x = some x') (hy : trX y = some y') : eV P (.binOp op t x y yt) (.bin op x' y'):=by
 intro σ σ' v hs
 simp only [aN] at hs
 split at hs
 ·rename_i b c hb hc
  split at hs
  ·rename_i u hu
   simp only [zaA,zaJ] at hs
   obtain ⟨rfl,rfl⟩:=hs
   refine ⟨rfl,fun oper G w H U a ho hw hr hH => ?_⟩
   have h1:=hr x x' (by simp [Op.operands]) hx
   have h2:=hr y y' (by simp [Op.operands]) hy
   rw [hb] at h1
   rw [hc] at h2
   obtain ⟨h1,p1⟩:=h1.kZ
   obtain ⟨h2,p2⟩:=h2.kZ
   obtain ⟨h3,h4⟩:=aT1 hu w ht p1 p2
   refine ⟨u, ?_,.one (.sc h4) rfl⟩
   have h5:=aH2 (P:=P) (op:=op) (x:=x) (y:=y) (t:=t) w p1 p2
   simp [execOp,ho,h1,h2,h5,h3]
  ·cases hs
 ·cases hs
theorem a82 {op : UnOp} {t : TypeId} {x : Operand} {x' : AX} (hx : trX x = some x') : eV P (.unOp op t x) (.un op x'):=by
 intro σ σ' v hs
 simp only [aN] at hs
 split at hs
 ·rename_i u
  split at hs
  ·rename_i u2 hu
   simp only [zaA,zaJ] at hs
   obtain ⟨rfl,rfl⟩:=hs
   refine ⟨rfl,fun oper G w H U a ho hw hr hH => ?_⟩
   have h1:=hr x x' (by simp [Op.operands]) hx
   unfold aZA at hu
   split at hu
   ·rename_i b hb
    simp only [zaA] at hu
    subst hu
    rw [hb] at h1
    obtain ⟨h1,_⟩:=h1.kZ
    exact ⟨.bool (!b),by simp [execOp,ho,h1,Op.unary],.one (.sc rfl) rfl⟩
   ·rename_i hb
    simp only [zaA] at hu
    subst hu
    rw [hb] at h1
    obtain ⟨b,h1⟩:=h1.aKA
    exact ⟨.bool (!b),by simp [execOp,ho,h1,Op.unary],.dV⟩
   ·cases hu
  ·cases hs
 ·rename_i k n hv
  simp only [zaA,zaJ] at hs
  obtain ⟨rfl,rfl⟩:=hs
  refine ⟨rfl,fun oper G w H U a ho hw hr hH => ?_⟩
  have h1:=hr x x' (by simp [Op.operands]) hx
  rw [hv] at h1
  obtain ⟨h1,_⟩:=h1.kZ
  exact ⟨.int k (k.wrap (0 - n)),by simp [execOp,ho,h1,Op.unary,Op.intArith],.one (.sc rfl) rfl⟩
 ·rename_i k n hv
  simp only [zaA,zaJ] at hs
  obtain ⟨rfl,rfl⟩:=hs
  refine ⟨rfl,fun oper G w H U a ho hw hr hH => ?_⟩
  have h1:=hr x x' (by simp [Op.operands]) hx
  rw [hv] at h1
  obtain ⟨h1,_⟩:=h1.kZ
  exact ⟨_,by simp [execOp,ho,h1,Op.unary,Op.intBits];rfl,.one (.sc rfl) rfl⟩
 ·cases hs
theorem aZF {t e : TypeId} {u : Value} (w : World) (ht : P.underlying t = some (.slice e)) {a : Option Addr} {n c : Nat} (hu : u = .slice a n c) :
  (Op.equal t u (.slice none 0 0)).run P w = .ok a.isNone w:=by
 subst hu
 unfold Op.equal
 obtain ⟨d,hd⟩ : ∃ d,Op.maxDepth = d + 1:=⟨9999,rfl⟩
 rw [hd]
 cases a <;> simp [Op.equalIn,run_underlying ht]
theorem aT2 {op : BinOp} {neg : Bool} {t e yt : TypeId} {x y : Operand} {x' y' : AX} (hop : op = if neg then .neq else .eql) (ht : P.underlying t = some (.slice e)) (hx : trX x = some x') (hy : trX y = some y') (hn : aA3 y' = true) :
  eV P (.binOp op t x y yt) (.eqn neg x'):=by
 intro σ σ' v hs
 simp only [aN] at hs
 split at hs
 ·rename_i u hu
  simp only [zaA,zaJ] at hs
  obtain ⟨rfl,rfl⟩:=hs
  refine ⟨rfl,fun oper G w H U a ho hw hr hH => ?_⟩
  have h1:=hr x x' (by simp [Op.operands]) hx
  have hyv : a.eval y = .slice none 0 0:=by
   cases y with
   | const v =>
    simp only [trX] at hy
    cases v with
    | slice ad n c =>
     cases ad with
     | none =>
      cases n <;> cases c <;> simp [trV] at hy
      rfl
     | some ad => simp [trV] at hy
    | pointer ad => cases ad <;> simp [trV] at hy;subst hy;simp [aA3] at hn
    | _ => simp [trV] at hy <;> (try (subst hy;simp [aA3] at hn))
   | tmp i => simp only [trX,zaA] at hy;subst hy;simp [aA3] at hn
   | func f => simp only [trX,zaA] at hy;subst hy;simp [aA3] at hn
   | global g => simp [trX] at hy
  have key : ∀ ad n c,a.eval x = .slice ad n c → (execOp a.eval oper).run P w = .ok (.value (.bool (if neg then !ad.isNone else ad.isNone))) w:=fun ad n c hv => by
   have h2:=aZF (P:=P) w ht (rfl : (Value.slice ad n c) = _)
   have h3 : (eqGuard op t x y (.slice ad n c) (.slice none 0 0)).run P w = .ok () w:=by
    unfold eqGuard;subst hop;cases neg <;> rfl
   subst hop
   cases neg <;> simp only [if_true,if_false,zaU] at h3 ho <;> simp [execOp,ho,hv,hyv,h3,binOp,h2]
  unfold aTY at hu
  split at hu
  ·rename_i ts hb
   rw [hb] at h1
   obtain ⟨ad,cap,h2,h3,h4,h5⟩:=h1.o5
   refine ⟨_,key ad _ cap h2, ?_⟩
   simp only [zaA] at hu
   subst hu
   cases ts with
   | nil => exact .dV
   | cons t0 tl =>
    rcases h5 with h5 | ⟨b,o,cs,rfl,_⟩
    ·cases h5
    ·simp only [List.isEmpty_cons,zaU,if_false,Option.isNone_some,zaH]
     cases neg <;> exact .one (.sc rfl) rfl
  ·rename_i len es hb
   rw [hb] at h1
   obtain ⟨ad,cap,h2,h3,h5⟩:=h1.oA
   refine ⟨_,key ad _ cap h2, ?_⟩
   simp only [zaA] at hu
   subst hu
   rcases h5 with ⟨h5,_⟩ | ⟨b,o,cur,e,rfl,_⟩
   ·rw [if_pos h5];exact .dV
   ·split
    ·exact .dV
    ·simp only [Option.isNone_some,zaH]
     cases neg <;> exact .one (.sc rfl) rfl
  ·cases hu
 ·cases hs
theorem yA {t : TypeId} {a : Bool} {n : Nat} (ha : qS P t = some a) (hn : szT P t = some n) {pre mid post : List Value} (hm : mid.length = n) (h1 : a = false → ∃ v,mid = [v]) (w : World) :
  (part t (pre ++ (mid ++ post)).toArray pre.length).run P w = .ok (if a then .agg mid.toArray else mid.headD undef) w:=by
 unfold qS at ha
 unfold szT at hn
 cases hi : P.info? t with
 | none => rw [hi] at hn;simp at hn
 | some i =>
  rw [hi] at hn
  simp only [Option.map_some,zaA] at hn
  split at ha
  ·rename_i fs hu
   simp only [zaA] at ha
   subst ha
   simp [part,isAgg,run_underlying hu,sizeOf,typeInfo,hi]
   rw [hn,← hm];simp
  ·rename_i m e hu
   simp only [zaA] at ha
   subst ha
   simp [part,isAgg,run_underlying hu,sizeOf,typeInfo,hi]
   rw [hn,← hm];simp
  ·rename_i dd hs1 hs2 hu
   simp only [zaA] at ha
   subst ha
   obtain ⟨v,rfl⟩:=h1 rfl
   cases dd <;> simp [part,isAgg,run_underlying hu] at hs1 hs2 ⊢
  ·cases ha
def TS.isAgg : TS → Bool
 | .agg _ => true
 | .arr .. => true
 | _ => false
theorem qV {k : Nat} {t : TypeId} {ts : TS} (h : kX P k t = some ts) : qS P t = some ts.isAgg:=by
 cases k with
 | zero => simp [kX] at h
 | succ k =>
  unfold kX at h
  unfold qS
  cases hu : P.underlying t with
  | none => rw [hu] at h;cases h
  | some dd =>
   rw [hu] at h
   cases dd <;> simp only [zaA] at h ⊢ <;> first
    |(subst h;rfl)
    |(split at h
      ·cases h
      ·split at h
       ·simp only [zaA] at h;subst h;rfl
       ·cases h)
    |(split at h
      ·simp only [zaA] at h;subst h;rfl
      ·cases h)
    | cases h
def oB (ts : TS) (cs : List Value) : Value :=
 match ts with
 | .agg _ => .agg cs.toArray
 | .arr .. => .agg cs.toArray
 | _ => cs.headD undef
section eq
variable {w : World} {F : Nat → Prop}
theorem uU {ts : TS} {x y : AV} {b : Bool} (h : eqT ts x y = some b) : x.isAgg = ts.isAgg ∧ y.isAgg = x.isAgg:=by
 unfold eqT at h
 split at h <;> first | exact ⟨rfl,rfl⟩ | cases h
theorem aGN {ts : TS} {x y : AV} {b : Bool} {cs : List Value} {ρ : Nat → Option Loc} (h : eqT ts x y = some b) (hx : bK w F ρ x cs) :
  ts.isAgg = false → ∃ v,cs = [v]:=fun h0 => hx.single ((uU h).1.trans h0)
theorem aPN (ts : TS) (cs : List Value) : (if ts.isAgg = true then Value.agg cs.toArray else cs.headD undef) = oB ts cs:=by
 cases ts <;> rfl
theorem aPO {ts : TS} {x y : AV} {b : Bool} {cs : List Value} {ρ : Nat → Option Loc} (h : eqT ts x y = some b) (hy : bK w F ρ y cs) :
  ts.isAgg = false → ∃ v,cs = [v]:=fun h0 => hy.single ((uU h).2.trans ((uU h).1.trans h0))
def aT3 (P : Program) (w : World) (F : Nat → Prop) (k d : Nat) : Prop :=
 ∀ (t : TypeId) (ts : TS),kX P k t = some ts → ∀ (ρ ρ' : Nat → Option Loc) (x y : AV) (b : Bool) (cs ds : List Value),eqT ts x y = some b → bK w F ρ x cs → bK w F ρ' y ds →
  (Op.equalIn d t (oB ts cs) (oB ts ds)).run P w = .ok b w
theorem aR1 {d : Nat} : ∀ (k : Nat) (o : Nat) (fs : List Field) (l : List (Nat × TS)) (pre pre' : List Value) (ts us : List AV) (b : Bool) (cs ds : List Value) (ρ ρ' : Nat → Option Loc),(∀ j,j < k → aT3 P w F j d) →
  qU P k o fs = some l → aC8 l ts us = some b → dM w F ρ ts cs → dM w F ρ' us ds → pre.length = o → pre'.length = o →
  (forIn fs ((none,()) : Option Bool × Unit) fun (f : Field) _ =>
   if f.name = "_" then pure (ForInStep.yield ((none, ()) : Option Bool × Unit))
   else do
    let a ← part f.type (pre ++ cs).toArray f.offset
    let c ← part f.type (pre' ++ ds).toArray f.offset
    let r ← Op.equalIn d f.type a c
    if r = false then pure (ForInStep.done ((some false,()) : Option Bool × Unit)) else pure (ForInStep.yield ((none,()) : Option Bool × Unit))).run P w =
   .ok (if b then (none,()) else (some false,())) w:=by
 intro k
 induction k with
 | zero =>
  intro o fs l pre pre' ts us b cs ds ρ ρ' hE hs he h1 h2 hp hp'
  cases fs with
  | nil =>
   simp only [qU,zaA] at hs
   subst hs
   cases ts <;> cases us <;> simp [aC8] at he
   subst he
   simp
  | cons f fs => simp [qU] at hs
 | succ k ih =>
  intro o fs l pre pre' ts us b cs ds ρ ρ' hE hs he h1 h2 hp hp'
  cases fs with
  | nil =>
   simp only [qU,zaA] at hs
   subst hs
   cases ts <;> cases us <;> simp [aC8] at he
   subst he
   simp
  | cons f fs =>
   simp only [qU] at hs
   split at hs
   ·cases hs
   ·rename_i hno
    split at hs
    ·rename_i s n hsh hsz
     split at hs
     ·rename_i l' hl'
      simp only [zaA] at hs
      subst hs
      cases ts with
      | nil => cases us <;> simp [aC8] at he
      | cons t ts =>
       cases us with
       | nil => simp [aC8] at he
       | cons u us =>
        simp only [aC8] at he
        split at he
        ·rename_i hsize
         split at he
         ·rename_i b1 b2 hb1 hb2
          simp only [zaA] at he
          subst he
          cases h1 with
          | cons h1a h1b =>
           cases h2 with
           | cons h2a h2b =>
            rename_i c cs' e ds'
            have hname : ¬ f.name = "_" := fun h => hno (.inl h)
            have hoff : f.offset = o:=by
             by_cases h : f.offset = o
             ·exact h
             ·exact absurd (.inr h) hno
            have hc : c.length = n:=by rw [h1a.size];exact hsize.1
            have hd : e.length = n:=by rw [h2a.size];exact hsize.2
            have r1:=yA (P:=P) (qV hsh) hsz (pre:=pre) (post:=cs') hc (aGN hb1 h1a) w
            have r2:=yA (P:=P) (qV hsh) hsz (pre:=pre') (post:=ds') hd (aPO hb1 h2a) w
            rw [aPN] at r1 r2
            rw [hp,← hoff] at r1
            rw [hp',← hoff] at r2
            have r3:=hE k (by omega) f.type s hsh ρ ρ' t u b1 c e hb1 h1a h2a
            have r4:=ih (o + n) fs l' (pre ++ c) (pre' ++ e) ts us b2 cs' ds' ρ ρ' (fun j hj => hE j (by omega)) hl' hb2 h1b h2b (by simp [hp,hc]) (by simp [hp',hd])
            simp only [List.append_assoc] at r4
            cases b1 with
            | false => simp [hname,r1,r2,r3]
            | true => simp [hname,r1,r2,r3];simpa using r4
         ·cases he
        ·cases he
     ·cases hs
    ·cases hs
theorem aT4 {d n es : Nat} {e : TypeId} {s : TS} {k : Nat} (hE : aT3 P w F k d) (hsh : kX P k e = some s) (hsz : szT P e = some es) :
  ∀ (m i : Nat) (pre pre' : List Value) (ts us : List AV) (b : Bool) (cs ds : List Value),aJ7 s ts us = some b → ts.length = m → dQ w F es ts cs → dQ w F es us ds → pre.length = i * es → pre'.length = i * es →
  (forIn (List.range' i m) ((none,()) : Option Bool × Unit) fun j _ => do
    let a ← part e (pre ++ cs).toArray (j * es)
    let c ← part e (pre' ++ ds).toArray (j * es)
    let r ← Op.equalIn d e a c
    if r = false then pure (ForInStep.done ((some false,()) : Option Bool × Unit)) else pure (ForInStep.yield ((none,()) : Option Bool × Unit))).run P w =
   .ok (if b then (none,()) else (some false,())) w:=by
 intro m
 induction m with
 | zero =>
  intro i pre pre' ts us b cs ds he hl h1 h2 hp hp'
  have : ts = []:=List.eq_nil_of_length_eq_zero hl
  subst this
  cases us <;> simp [aJ7] at he
  subst he
  simp
 | succ m ih =>
  intro i pre pre' ts us b cs ds he hl h1 h2 hp hp'
  cases ts with
  | nil => simp at hl
  | cons t ts =>
   cases us with
   | nil => simp [aJ7] at he
   | cons u us =>
    simp only [aJ7] at he
    split at he
    ·rename_i b1 b2 hb1 hb2
     simp only [zaA] at he
     subst he
     cases h1 with
     | cons h1a h1s h1b =>
      cases h2 with
      | cons h2a h2s h2b =>
       rename_i c cs' g ds'
       have r1:=yA (P:=P) (qV hsh) hsz (pre:=pre) (post:=cs') h1s (aGN hb1 h1a) w
       have r2:=yA (P:=P) (qV hsh) hsz (pre:=pre') (post:=ds') h2s (aPO hb1 h2a) w
       rw [aPN] at r1 r2
       rw [hp] at r1
       rw [hp'] at r2
       have r3:=hE e s hsh fB fB t u b1 c g hb1 h1a h2a
       have r4:=ih (i + 1) (pre ++ c) (pre' ++ g) ts us b2 cs' ds' hb2 (by simpa using hl) h1b h2b (by simp [hp,h1s,Nat.add_mul]) (by simp [hp',h2s,Nat.add_mul])
       simp only [List.append_assoc] at r4
       rw [List.range'_succ]
       cases b1 with
       | false => simp [r1,r2,r3]
       | true => simp [r1,r2,r3];simpa using r4
    ·cases he
theorem a49 : ∀ (k d : Nat),k ≤ d → aT3 P w F k d:=by
 intro k
 induction k using Nat.strongRecOn with
 | _ k ih =>
  intro d hd t ts hsh ρ ρ' x y b cs ds he hx hy
  cases k with
  | zero => simp [kX] at hsh
  | succ k =>
   obtain ⟨d,rfl⟩ : ∃ m,d = m + 1:=⟨d - 1,by omega⟩
   unfold kX at hsh
   split at hsh
   ·rename_i j hu
    simp only [zaA] at hsh
    subst hsh
    unfold eqT at he
    split at he <;> try (simp_all;done)
    rename_i k1 a1 k2 a2 heq
    split at he
    ·rename_i hk
     simp only [zaA] at he
     subst he
     cases hx
     cases hy
     have e : (a1 == a2) = decide (a1 = a2):=by by_cases h : a1 = a2 <;> simp [h]
     simp [oB,Op.equalIn,run_underlying hu,hk,e]
    ·cases he
   ·rename_i hu
    simp only [zaA] at hsh
    subst hsh
    unfold eqT at he
    split at he <;> try (simp_all;done)
    simp only [zaA] at he
    subst he
    cases hx
    cases hy
    simp [oB,Op.equalIn,run_underlying hu]
   ·rename_i fs hu
    split at hsh
    ·cases hsh
    ·rename_i hst
     split at hsh
     ·rename_i l hl
      simp only [zaA] at hsh
      subst hsh
      unfold eqT at he
      split at he <;> try (simp_all;done)
      rename_i l' n1 ts1 n2 us1 heq
      simp only [TS.agg.injEq] at heq
      subst heq
      cases hx with
      | agg hx1 hx2 =>
       cases hy with
       | agg hy1 hy2 =>
        have:=aR1 (P:=P) (w:=w) (F:=F) (d:=d) k 0 fs.toList l [] [] ts1 us1 b cs ds ρ ρ' (fun j hj => ih j (by omega) d (by omega)) hl he hx1 hy1 rfl rfl
        simp only [List.nil_append] at this
        rw [Array.forIn_toList] at this
        have hst' : P.stoodInHeld t = false:=by simpa using hst
        simp only [oB,Op.equalIn,Sem.run_bind,run_underlying hu]
        simp [hst']
        rw [this]
        cases b <;> simp
     ·cases hsh
   ·rename_i n e hu
    split at hsh
    ·rename_i s es hs hsz
     simp only [zaA] at hsh
     subst hsh
     unfold eqT at he
     split at he <;> try (simp_all;done)
     rename_i n1 es1 s1 n2 es2 ts1 n3 es3 us1 heq
     simp only [TS.arr.injEq] at heq
     obtain ⟨rfl,rfl,rfl⟩:=heq
     split at he
     ·rename_i hc
      obtain ⟨rfl,rfl,hc1,hc2⟩:=hc
      cases hx with
      | arr hx1 hx2 =>
       cases hy with
       | arr hy1 hy2 =>
        have:=aT4 (P:=P) (w:=w) (F:=F) (d:=d) (n:=n) (ih k (by omega) d (by omega)) hs hsz n 0 [] [] ts1 us1 b cs ds he hc1 hx1 hy1 (by simp) (by simp)
        simp only [List.nil_append] at this
        unfold szT at hsz
        cases hi : P.info? e with
        | none => rw [hi] at hsz;simp at hsz
        | some i =>
         rw [hi] at hsz
         simp only [Option.map_some,zaA] at hsz
         simp only [oB,Op.equalIn,Sem.run_bind,run_underlying hu]
         simp [sizeOf,typeInfo,hi,hsz]
         rw [this]
         cases b <;> simp
     ·cases he
    ·cases hsh
   ·cases hsh
end eq
end
end Go.Ra
namespace Go.Ra
set_option linter.unusedVariables false
set_option linter.unusedSimpArgs false
section
variable {P : Program}
theorem bL.oB {w : World} {F : Nat → Prop} {ρ : Nat → Option Loc} {ts : TS} {x y : AV} {b : Bool} {u : Value} (h : eqT ts x y = some b) (hx : bL w F ρ x u) : ∃ cs,bK w F ρ x cs ∧ u = oB ts cs:=by
 have ha:=(uU h).1
 cases hx with
 | one h1 h2 =>
  refine ⟨[u],h1, ?_⟩
  rw [h2] at ha
  cases ts <;> first | rfl | simp [TS.isAgg] at ha
 | agg h1 h2 =>
  rename_i cs
  refine ⟨cs,h1, ?_⟩
  rw [h2] at ha
  cases ts <;> first | rfl | simp [TS.isAgg] at ha
 | tup _ => unfold eqT at h;split at h <;> simp_all
 | dV => unfold eqT at h;split at h <;> simp_all
 | unk => unfold eqT at h;split at h <;> simp_all
theorem bL.valT' {w : World} {F : Nat → Prop} {ρ : Nat → Option Loc} {ts : TS} {x y : AV} {b : Bool} {u : Value} (h : eqT ts x y = some b) (hy : bL w F ρ y u) : ∃ cs,bK w F ρ y cs ∧ u = Ra.oB ts cs:=by
 have ha:=(uU h).2.trans (uU h).1
 cases hy with
 | one h1 h2 =>
  refine ⟨[u],h1, ?_⟩
  rw [h2] at ha
  cases ts <;> first | rfl | simp [TS.isAgg] at ha
 | agg h1 h2 =>
  rename_i cs
  refine ⟨cs,h1, ?_⟩
  rw [h2] at ha
  cases ts <;> first | rfl | simp [TS.isAgg] at ha
 | tup _ => unfold eqT at h;split at h <;> simp_all
 | dV => unfold eqT at h;split at h <;> simp_all
 | unk => unfold eqT at h;split at h <;> simp_all
theorem aNA {k : Nat} {t : TypeId} (h : kX P k t = some .int) : wQ P t = true:=by
 cases k with
 | zero => simp [kX] at h
 | succ k =>
  unfold kX at h
  unfold wQ
  cases hu : P.underlying t with
  | none => rw [hu] at h;cases h
  | some dd =>
   rw [hu] at h
   cases dd <;> simp only at h ⊢ <;> first
    | cases h;done
    |(split at h
      ·cases h
      ·split at h
       ·cases h
       ·cases h)
    |(split at h
      ·cases h
      ·cases h)
theorem aT5 {op : BinOp} {neg : Bool} {t yt : TypeId} {ts : TS} {x y : Operand} {x' y' : AX} (hop : op = if neg then .neq else .eql) (hpl : wQ P t = false) (hg : P.eqGuardType P.depth t = false) (ht : kX P 60 t = some ts)
  (hx : trX x = some x') (hy : trX y = some y') : eV P (.binOp op t x y yt) (.eqs neg ts x' y'):=by
 intro σ σ' v hs
 simp only [aN] at hs
 split at hs
 ·rename_i b hb
  simp only [zaA,zaJ] at hs
  obtain ⟨rfl,rfl⟩:=hs
  refine ⟨rfl,fun oper G w H U a ho hw hr hH => ?_⟩
  obtain ⟨cs,h1,h1'⟩:=(hr x x' (by simp [Op.operands]) hx).oB hb
  obtain ⟨ds,h2,h2'⟩:=(hr y y' (by simp [Op.operands]) hy).valT' hb
  have h3 : (Op.equal t (oB ts cs) (oB ts ds)).run P w = .ok b w:=by
   unfold Op.equal
   exact a49 60 Op.maxDepth (by decide) t ts ht G.ρ G.ρ _ _ b cs ds hb h1 h2
  have h4 : (eqGuard op t x y (oB ts cs) (oB ts ds)).run P w = .ok () w:=by
   unfold eqGuard
   subst hop
   have hagg : ∀ n m,(eqGuard (if neg then .neq else .eql) t x y (.agg n) (.agg m)).run P w = .ok () w:=fun n m => by
    unfold eqGuard
    cases neg <;> simp [program,Sem.run,hg]
   cases ts with
   | agg l => exact hagg _ _
   | arr n es e => exact hagg _ _
   | int =>
    generalize σ.ev x' = X at hb h1
    generalize σ.ev y' = Y at hb h2
    unfold eqT at hb
    split at hb <;> try (simp_all;done)
    cases h1;cases h2;cases neg <;> rfl
   | bool =>
    generalize σ.ev x' = X at hb h1
    generalize σ.ev y' = Y at hb h2
    unfold eqT at hb
    split at hb <;> try (simp_all;done)
    cases h1;cases h2;cases neg <;> rfl
  have h5 : (binOp op t (oB ts cs) (oB ts ds)).run P w = .ok (.bool (if neg then !b else b)) w:=by
   subst hop
   cases ts with
   | agg l => cases neg <;> simp [binOp,oB] <;> (simp only [oB] at h3;simp [h3])
   | arr n es e => cases neg <;> simp [binOp,oB] <;> (simp only [oB] at h3;simp [h3])
   | int =>
    rw [aNA ht] at hpl;cases hpl
   | bool =>
    generalize σ.ev x' = X at hb h1
    generalize σ.ev y' = Y at hb h2
    unfold eqT at hb
    split at hb <;> try (simp_all;done)
    cases h1;cases h2
    cases neg <;> simp [binOp,oB] <;> (simp only [oB,List.headD] at h3;simp [h3])
  refine ⟨.bool (if neg then !b else b), ?_,.one (.sc rfl) rfl⟩
  simp [execOp,ho,h1',h2',h4,h5]
 ·cases hs
theorem add_lit (b o n : Nat) : Addr.add ⟨b,o,none⟩ n = ⟨b,o + n,none⟩:=by
 unfold Addr.add;split <;> simp_all
theorem aDA {t : TypeId} {n : Nat} (h : szT P t = some n) : ∃ i,P.info? t = some i ∧ i.size = n:=by
 unfold szT at h
 cases hi : P.info? t with
 | none => rw [hi] at h;cases h
 | some i => rw [hi] at h;simp only [Option.map_some,zaA] at h;exact ⟨i,rfl,h⟩
theorem aZG {s : TypeId} {fs : Array Field} {f : Field} {i n : Nat} {x : Operand} {x' : AX} (hs0 : P.underlying s = some (.struct fs)) (hf : fs[i]? = some f) (hn : szT P f.type = some n) (hn0 : n ≠ 0) (hx : trX x = some x') :
  eV P (.fieldAddr s x i) (.aJ6 i f.offset n x'):=by
 intro σ σ' v hs
 obtain ⟨inf,hi,hi2⟩:=aDA hn
 have key : ∀ (b o : Nat) (w : World),(Instr.fieldAt s (.pointer (some ⟨b,o,none⟩)) i).run P w = .ok (.pointer (some ⟨b,o + f.offset,none⟩)) w:=fun b o w => by
  have : inf.size ≠ 0:=by omega
  simp [Instr.fieldAt,run_underlying hs0,hf,Instr.sureAddr,fieldPlace,sizeOf,typeInfo,hi,this,add_lit]
 simp only [aN] at hs
 split at hs
 ·rename_i id path o hv
  simp only [zaA,zaJ] at hs
  obtain ⟨rfl,rfl⟩:=hs
  refine ⟨rfl,fun oper G w H U a ho hw hr hH => ?_⟩
  have h1:=hr x x' (by simp [Op.operands]) hx
  rw [hv] at h1
  obtain ⟨b,o',h2,h3⟩:=h1.mP
  refine ⟨_,by simp only [execOp,ho,h3];exact gF (key _ _ _), ?_⟩
  rw [Nat.add_assoc]
  exact .one (.ptr h2) rfl
 ·rename_i n1 ts hv
  split at hs
  ·rename_i u hu
   split at hs
   ·rename_i hoff
    simp only [zaA,zaJ] at hs
    obtain ⟨rfl,rfl⟩:=hs
    refine ⟨rfl,fun oper G w H U a ho hw hr hH => ?_⟩
    have h1:=hr x x' (by simp [Op.operands]) hx
    rw [hv] at h1
    obtain ⟨b,o,cs,h2,h3,h4,h5⟩:=h1.sQ
    refine ⟨_,by simp only [execOp,ho,h2];exact gF (key _ _ _), ?_⟩
    cases h3 with
    | agg h6 h7 =>
     obtain ⟨pre,mid,post,rfl,hp,hm,_,_⟩:=h6.nth hu
     refine .one (.cC hm (fun j v hj => ?_) h5) rfl
     have:=h4 (pre.length + j) v (by
      rw [List.getElem?_append_right (by omega),show pre.length + j - pre.length = j by omega,List.getElem?_append_left (List.getElem?_eq_some_iff.1 hj).1];exact hj)
     rw [← hoff,← hp,Nat.add_assoc];exact this
   ·cases hs
  ·cases hs
 ·cases hs
theorem kT {t e : TypeId} {i : TypeInfo} (h : kY P t = some (e,i)) : P.underlying t = some (.slice e) ∧ P.info? e = some i:=by
 unfold kY at h
 split at h
 ·rename_i e' hu
  cases hi : P.info? e' with
  | none => rw [hi] at h;cases h
  | some j =>
   rw [hi] at h
   simp only [Option.map_some,zaA,zaJ] at h
   obtain ⟨rfl,rfl⟩:=h
   exact ⟨hu,hi⟩
 ·cases h
theorem aKB {t : TypeId} {n : Nat} {i : TypeInfo} (h : aRY P t = some (n,i)) : ∃ e,P.underlying t = some (.array n e) ∧ P.info? e = some i:=by
 unfold aRY at h
 split at h
 ·rename_i n' e' hu
  cases hi : P.info? e' with
  | none => rw [hi] at h;cases h
  | some j =>
   rw [hi] at h
   simp only [Option.map_some,zaA,zaJ] at h
   obtain ⟨rfl,rfl⟩:=h
   exact ⟨e',hu,hi⟩
 ·cases h
theorem nY {w : World} {F : Nat → Prop} {ρ : Nat → Option Loc} {t : AV} {u : Value} {j : Int} (h : asI t = some j) (hr : bL w F ρ t u) : ∃ k,u = .int k j:=by
 unfold asI at h
 split at h
 ·simp only [zaA] at h
  subst h
  exact ⟨_,hr.kZ.1⟩
 ·cases h
theorem Reads.sub {w : World} {b o : Nat} {pre mid post : List Value} (h : Reads w b o (pre ++ (mid ++ post))) : Reads w b (o + pre.length) mid:=by
 intro j v hj
 have:=h (pre.length + j) v (by
  rw [List.getElem?_append_right (by omega),show pre.length + j - pre.length = j by omega,List.getElem?_append_left (List.getElem?_eq_some_iff.1 hj).1];exact hj)
 rw [Nat.add_assoc];exact this
theorem aFV {t e : TypeId} {i : TypeInfo} {x y : Operand} {x' y' : AX} (ht : kY P t = some (e,i)) (hx : trX x = some x') (hy : trX y = some y') : eV P (.indexAddr t x y) (.aFS none i.size x' y'):=by
 intro σ σ' v hs
 obtain ⟨hu,hi⟩:=kT ht
 have key : ∀ (ad : Addr) (n c : Nat) (k : IntKind) (j : Int) (w : World),0 ≤ j → j < n → (Instr.indexAt t (.slice (some ad) n c) (.int k j)).run P w = .ok (.pointer (some (ad.add (j.toNat * i.size)))) w:=fun ad n c k j w h0 h1 => by
  simp [Instr.indexAt,asIntOf,run_underlying hu,h0,h1,sizeOf,typeInfo,hi]
 simp only [aN] at hs
 split at hs
 ·rename_i x0 es ts j heq1 hv hj
  split at hs
  ·rename_i hc
   split at hs
   ·rename_i u hu2
    simp only [zaA,zaJ] at hs
    obtain ⟨rfl,rfl⟩:=hs
    refine ⟨rfl,fun oper G w H U a ho hw hr hH => ?_⟩
    have h1:=hr x x' (by simp [Op.operands]) hx
    obtain ⟨k,h2⟩:=nY hj (hr y y' (by simp [Op.operands]) hy)
    rw [hv] at h1
    obtain ⟨ad,cap,h3,h4,h5,h6⟩:=h1.o5
    have hlt : j.toNat < ts.length:=(List.getElem?_eq_some_iff.1 hu2).1
    rcases h6 with rfl | ⟨b,o,cs,rfl,h7,h8,h9⟩
    ·simp at hlt
    ·refine ⟨_,by simp only [execOp,ho,h3,h2];exact gF (key _ _ _ _ _ _ hc.1 (by omega)), ?_⟩
     rw [hc.2] at h7
     obtain ⟨pre,mid,post,rfl,hp,hm,hms,_,_⟩:=h7.nth hu2
     rw [add_lit,← hp]
     exact .one (.cC hm h8.sub h9) rfl
   ·cases hs
  ·cases hs
 ·rename_i id path off k len es j heq1 hv hj
  split at hs
  ·rename_i hc
   simp only [zaA,zaJ] at hs
   obtain ⟨rfl,rfl⟩:=hs
   refine ⟨rfl,fun oper G w H U a ho hw hr hH => ?_⟩
   have h1:=hr x x' (by simp [Op.operands]) hx
   obtain ⟨kk,h2⟩:=nY hj (hr y y' (by simp [Op.operands]) hy)
   rw [hv] at h1
   obtain ⟨ad,cap,h3,h4,h5⟩:=h1.oA
   rcases h5 with ⟨h5,_⟩ | ⟨b,o,cur,e,rfl,h6,h7,h8⟩
   ·omega
   ·refine ⟨_,by simp only [execOp,ho,h3,h2];exact gF (key _ _ _ _ _ _ hc.1 (by omega)), ?_⟩
    rw [add_lit,Nat.add_assoc]
    exact .one (.ptr h6) rfl
  ·cases hs
 ·rename_i n id path off j heq1 hv hj
  simp at heq1
 ·rename_i n es ts j heq1 hv hj
  simp at heq1
 ·cases hs
theorem aKC {t : TypeId} {n : Nat} {i : TypeInfo} {x y : Operand} {x' y' : AX} (ht : aRY P t = some (n,i)) (hx : trX x = some x') (hy : trX y = some y') : eV P (.indexAddr t x y) (.aFS (some n) i.size x' y'):=by
 intro σ σ' v hs
 obtain ⟨e,hu,hi⟩:=aKB ht
 have key : ∀ (ad : Addr) (k : IntKind) (j : Int) (w : World),0 ≤ j → j < n → (Instr.indexAt t (.pointer (some ad)) (.int k j)).run P w = .ok (.pointer (some (ad.add (j.toNat * i.size)))) w:=fun ad k j w h0 h1 => by
  simp [Instr.indexAt,asIntOf,run_underlying hu,h0,h1,sizeOf,typeInfo,hi,Instr.sureAddr]
 simp only [aN] at hs
 split at hs
 ·rename_i x0 es ts j heq1 hv hj
  simp at heq1
 ·rename_i id path off k len es j heq1 hv hj
  simp at heq1
 ·rename_i n' id path off j heq1 hv hj
  simp only [zaA] at heq1
  subst heq1
  split at hs
  ·rename_i hc
   simp only [zaA,zaJ] at hs
   obtain ⟨rfl,rfl⟩:=hs
   refine ⟨rfl,fun oper G w H U a ho hw hr hH => ?_⟩
   have h1:=hr x x' (by simp [Op.operands]) hx
   obtain ⟨kk,h2⟩:=nY hj (hr y y' (by simp [Op.operands]) hy)
   rw [hv] at h1
   obtain ⟨b,o,h3,h4⟩:=h1.mP
   refine ⟨_,by simp only [execOp,ho,h4,h2];exact gF (key _ _ _ _ hc.1 hc.2), ?_⟩
   rw [add_lit,Nat.add_assoc]
   exact .one (.ptr h3) rfl
  ·cases hs
 ·rename_i n' es n1 ts j heq1 hv hj
  simp only [zaA] at heq1
  subst heq1
  split at hs
  ·rename_i hc
   split at hs
   ·rename_i u hu2
    simp only [zaA,zaJ] at hs
    obtain ⟨rfl,rfl⟩:=hs
    refine ⟨rfl,fun oper G w H U a ho hw hr hH => ?_⟩
    have h1:=hr x x' (by simp [Op.operands]) hx
    obtain ⟨kk,h2⟩:=nY hj (hr y y' (by simp [Op.operands]) hy)
    rw [hv] at h1
    obtain ⟨b,o,cs,h3,h4,h5,h6⟩:=h1.sQ
    have hlt : j.toNat < ts.length:=(List.getElem?_eq_some_iff.1 hu2).1
    cases h4 with
    | arr h7 h8 =>
     refine ⟨_,by simp only [execOp,ho,h3,h2];exact gF (key _ _ _ _ hc.1 (by omega)), ?_⟩
     obtain ⟨pre,mid,post,rfl,hp,hm,hms,_,_⟩:=h7.nth hu2
     rw [add_lit,← hc.2.1,← hp]
     exact .one (.cC hm h5.sub h6) rfl
   ·cases hs
  ·cases hs
 ·cases hs
theorem aH3 {t e : TypeId} {oper0 : Call} {x : Operand} {x' : AX} (hc : oper0.callee = .builtin .len) (ha : oper0.args = #[x]) (hat : oper0.argTypes = #[t]) (ht : P.underlying t = some (.slice e)) (hx : trX x = some x') :
  eV P (.call oper0) (.len none x'):=by
 intro σ σ' v hs
 have key : ∀ (a : Act) (oper : Oper) (ad : Option Addr) (n c : Nat) (w : World),oper.op = .call oper0 → a.eval x = .slice ad n c → (execOp a.eval oper).run P w = .ok (.value (.int .i64 n)) w:=fun a oper ad n c w ho hv => by
  simp [execOp,ho,resolve,hc,ha,hat,invoke,builtin,Builtin.len_,run_underlying ht,hv,goInt]
 simp only [aN] at hs
 split at hs
 ·rename_i heq;simp at heq
 ·rename_i x0 es ts heq hv
  simp only [zaA,zaJ] at hs
  obtain ⟨rfl,rfl⟩:=hs
  refine ⟨rfl,fun oper G w H U a ho hw hr hH => ?_⟩
  have h1:=hr x x' (by simp [Op.operands,Call.operands,hc,ha]) hx
  rw [hv] at h1
  obtain ⟨ad,cap,h2,_⟩:=h1.o5
  exact ⟨_,key a oper ad _ cap w ho h2,.one (.sc rfl) rfl⟩
 ·rename_i len es heq hv
  simp only [zaA,zaJ] at hs
  obtain ⟨rfl,rfl⟩:=hs
  refine ⟨rfl,fun oper G w H U a ho hw hr hH => ?_⟩
  have h1:=hr x x' (by simp [Op.operands,Call.operands,hc,ha]) hx
  rw [hv] at h1
  obtain ⟨ad,cap,h2,_⟩:=h1.oA
  exact ⟨_,key a oper ad _ cap w ho h2,.one (.sc rfl) rfl⟩
 ·cases hs
theorem aZH {t : TypeId} {oper0 : Call} {x : Operand} {x' : AX} (hc : oper0.callee = .builtin .len) (ha : oper0.args = #[x]) (hat : oper0.argTypes = #[t]) (ht : P.underlying t = some .string) (hx : trX x = some x') :
  eV P (.call oper0) (.lens x'):=by
 intro σ σ' v hs
 simp only [aN] at hs
 split at hs
 ·rename_i s hv
  simp only [zaA,zaJ] at hs
  obtain ⟨rfl,rfl⟩:=hs
  refine ⟨rfl,fun oper G w H U a ho hw hr hH => ?_⟩
  have h1:=hr x x' (by simp [Op.operands,Call.operands,hc,ha]) hx
  rw [hv] at h1
  obtain ⟨h1,_⟩:=h1.kZ
  exact ⟨_,by simp [execOp,ho,resolve,hc,ha,hat,invoke,builtin,Builtin.len_,run_underlying ht,h1,goInt],.one (.sc rfl) rfl⟩
 ·cases hs
theorem aDB {t : TypeId} {n : Nat} {oper0 : Call} {x : Operand} {x' : AX} (hc : oper0.callee = .builtin .len) (ha : oper0.args = #[x]) (hat : oper0.argTypes = #[t])
  (ht : (∃ e,P.underlying t = some (.array n e)) ∨ ∃ u e,P.underlying t = some (.pointer u) ∧ P.underlying u = some (.array n e)) (hx : trX x = some x') :
  eV P (.call oper0) (.len (some n) x'):=by
 intro σ σ' v hs
 simp only [aN,zaA,zaJ] at hs
 obtain ⟨rfl,rfl⟩:=hs
 refine ⟨rfl,fun oper G w H U a ho hw hr hH => ⟨.int .i64 n, ?_,.one (.sc rfl) rfl⟩⟩
 rcases ht with ⟨e,ht⟩ | ⟨u,e,ht,hu⟩
 ·simp [execOp,ho,resolve,hc,ha,hat,invoke,builtin,Builtin.len_,run_underlying ht,goInt]
 ·simp [execOp,ho,resolve,hc,ha,hat,invoke,builtin,Builtin.len_,run_underlying ht,run_underlying hu,goInt]
theorem aBV {t : TypeId} {ag : Bool} {n : Nat} (ha : qS P t = some ag) (hn : szT P t = some n) {w : World} {b o : Nat} {cs : List Value} (hl : cs.length = n) (hr : Reads w b o cs) (h1 : ag = false → ∃ v,cs = [v]) :
  (loadVar t ⟨b,o,none⟩).run P w = .ok (if ag then .agg cs.toArray else cs.headD undef) w:=by
 obtain ⟨i,hi,hi2⟩:=aDA hn
 have hcell : ∀ (j : Nat) (v : Value),cs[j]? = some v → w.cell? (Addr.add ⟨b,o,none⟩ j) = some v:=fun j v hj => by rw [add_lit];exact hr j v hj
 unfold qS at ha
 cases hu : P.underlying t with
 | none => rw [hu] at ha;cases ha
 | some dd =>
  rw [hu] at ha
  have big : (loadCells ⟨b,o,none⟩ n).run P w = .ok cs.toArray w:=by rw [← hl];exact run_loadCells_list w _ cs hcell
  have small : ag = false → (load ⟨b,o,none⟩).run P w = .ok (cs.headD undef) w:=fun h => by
   obtain ⟨v,rfl⟩:=h1 h
   have:=hcell 0 v rfl
   rw [add_lit,Nat.add_zero] at this
   simp [load,Sem.run,this]
  cases dd <;> simp only [zaA] at ha <;> subst ha <;> first
   |(simp [loadVar,isAgg,run_underlying hu,sizeOf,typeInfo,hi,hi2,big];done)
   |(simp [loadVar,isAgg,run_underlying hu];simpa using small rfl)
theorem bL.aT6 {w : World} {F : Nat → Prop} {ρ : Nat → Option Loc} {t : AV} {cs : List Value} (h : bK w F ρ t cs) : bL w F ρ t (if t.isAgg then .agg cs.toArray else cs.headD undef):=by
 cases ha : t.isAgg with
 | true => exact .agg h ha
 | false =>
  obtain ⟨v,rfl⟩:=h.single ha
  exact .one h ha
theorem Wf.place {G : Gh} {w : World} {H : Nat → Option AV} {U : Nat → Prop} (hw : Wf G w H U) {id b o : Nat} {t : AV} (hr : G.ρ id = some (b,o)) (ht : H id = some t) :
  ∃ (cs : List Value) (cur : Array Value) (e : TypeId),bK w G.F G.ρ t cs ∧ w.heap[b]? = some (Obj.cells cur e (0,0)) ∧ Reads w b o cs ∧ ¬ G.F b:=by
 rcases hw.blk id t ht with ⟨b',o',cs,cur,e,h1,h2,h3,h4,h5⟩ | h1
 ·rw [hr] at h1
  simp only [zaA,zaJ] at h1
  obtain ⟨rfl,rfl⟩:=h1
  exact ⟨cs,cur,e,h2,h3,h4,h5⟩
 ·rw [hr] at h1;cases h1.1
theorem uV {σ : St} {G : Gh} {w : World} {H : Nat → Option AV} {U : Nat → Prop} (hw : Wf G w H U) (hH : ∀ k t,σ.H k = some t → H k = some t) {x u : AV} {v : Value} (h : σ.mS x = some u) (hr : bL w G.F G.ρ x v) :
  ∃ b o cs,v = .pointer (some ⟨b,o,none⟩) ∧ bK w G.F G.ρ u cs ∧ Reads w b o cs:=by
 unfold St.mS at h
 split at h
 ·rename_i t
  simp only [zaA] at h
  subst h
  obtain ⟨b,o,cs,rfl,h1,h2,h3⟩:=hr.sQ
  exact ⟨b,o,cs,rfl,h1.up,h2⟩
 ·rename_i id path off
  split at h
  ·rename_i t ht
   split at h
   ·rename_i o u' hat
    split at h
    ·rename_i ho
     simp only [zaA] at h
     subst h
     obtain ⟨b,o',h1,rfl⟩:=hr.mP
     obtain ⟨cs,cur,e,h2,h3,h4,h5⟩:=hw.place h1 (hH _ _ ht)
     obtain ⟨pre,mid,post,rfl,hp,hm,_⟩:=h2.at path hat
     refine ⟨b,o' + off,mid,rfl,hm, ?_⟩
     rw [← ho,← hp];exact h4.sub
    ·cases h
   ·cases h
  ·cases h
 ·cases h
theorem aZI {t : TypeId} {ag : Bool} {n : Nat} {x : Operand} {x' : AX} (ha : qS P t = some ag) (hn : szT P t = some n) (hx : trX x = some x') : eV P (.load t x) (.load ag n x'):=by
 intro σ σ' v hs
 simp only [aN] at hs
 split at hs
 ·rename_i u hu
  split at hs
  ·rename_i hc
   simp only [zaA,zaJ] at hs
   obtain ⟨rfl,rfl⟩:=hs
   refine ⟨rfl,fun oper G w H U a ho hw hr hH => ?_⟩
   obtain ⟨b,o,cs,h1,h2,h3⟩:=uV hw hH hu (hr x x' (by simp [Op.operands]) hx)
   have h4:=aBV (P:=P) ha hn (cs:=cs) (by rw [h2.size];exact hc.2) h3 (fun h => h2.single (hc.1.trans h))
   rw [← hc.1] at h4
   exact ⟨_,by simp only [execOp,ho,h1];exact gF (by simpa [Instr.loadAt,Instr.sureAddr] using h4),.aT6 h2⟩
  ·cases hs
 ·cases hs
theorem qW {w : World} {G : Gh} {len cap l h : Nat} {lo hi : Option AV} {lo' hi' : Option Value} (isSlice : Bool) (hb : kE len lo hi = some (l,h)) (hc : len ≤ cap)
  (hlo : ∀ v,lo = some v → ∃ u,lo' = some u ∧ bL w G.F G.ρ v u) (hlo0 : lo = none → lo' = none) (hhi : ∀ v,hi = some v → ∃ u,hi' = some u ∧ bL w G.F G.ρ v u) (hhi0 : hi = none → hi' = none) :
  (Instr.sliceBounds isSlice len cap lo' hi' none).run P w = .ok (l,h,cap) w ∧ l ≤ h ∧ h ≤ len:=by
 unfold kE at hb
 split at hb
 ·rename_i jl jh hl hh
  split at hb
  ·rename_i hcond
   simp only [zaA,zaJ] at hb
   obtain ⟨rfl,rfl⟩:=hb
   refine ⟨?_,by omega,by omega⟩
   have e1 : jl.toNat ≤ jh.toNat:=by omega
   have e2 : (jh.toNat : Int) = jh:=by omega
   have e3 : (0 ≤ jl ∧ jl ≤ (jh.toNat : Int)):=by omega
   have e4 : (0 ≤ jh ∧ jh ≤ (cap : Int)):=by omega
   cases lo with
   | none =>
    have:=hlo0 rfl;subst this
    simp only [zaA] at hl
    subst hl
    cases hi with
    | none =>
     have:=hhi0 rfl;subst this
     simp only [zaA] at hh
     subst hh
     simp [Instr.sliceBounds]
    | some vh =>
     obtain ⟨u,rfl,hu⟩:=hhi _ rfl
     obtain ⟨k,rfl⟩:=nY hh hu
     simp [Instr.sliceBounds,Instr.sliceBound,asIntOf,e4]
   | some vl =>
    obtain ⟨u,rfl,hu⟩:=hlo _ rfl
    obtain ⟨k,rfl⟩:=nY hl hu
    cases hi with
    | none =>
     have:=hhi0 rfl;subst this
     simp only [zaA] at hh
     subst hh
     have e5 : (0 ≤ jl ∧ jl ≤ (len : Int)):=by omega
     simp [Instr.sliceBounds,Instr.sliceBound,asIntOf,e5]
    | some vh =>
     obtain ⟨u',rfl,hu'⟩:=hhi _ rfl
     obtain ⟨k',rfl⟩:=nY hh hu'
     have e6 : jl ≤ jh:=by omega
     simp [Instr.sliceBounds,Instr.sliceBound,asIntOf,e4,e3,e2,e6]
  ·cases hb
 ·cases hb
theorem Reads.drop {w : World} {b o : Nat} {cs : List Value} (h : Reads w b o cs) (n : Nat) : Reads w b (o + n) (cs.drop n):=by
 intro j v hj
 rw [List.getElem?_drop] at hj
 rw [Nat.add_assoc];exact h (n + j) v hj
theorem Reads.take {w : World} {b o : Nat} {cs : List Value} (h : Reads w b o cs) (n : Nat) : Reads w b o (cs.take n):=by
 intro j v hj
 rw [List.getElem?_take] at hj
 split at hj
 ·exact h j v hj
 ·cases hj
theorem aPP {w : World} {F : Nat → Prop} {ρ : Nat → Option Loc} {es b o l h cap : Nat} {ts : List AV} {cs : List Value} (h1 : dQ w F es ts cs) (h2 : Reads w b o cs) (h3 : F b) (hl : l ≤ h) (hh : h ≤ ts.length) (hc : h ≤ cap) (ad : Option Addr)
  (had : l < h → ad = some ⟨b,o + l * es,none⟩) : bK w F ρ (.fro false es ((ts.take h).drop l)) [.slice ad (h - l) (cap - l)]:=by
 by_cases hlt : l < h
 ·rw [had hlt]
  have hlen : ((ts.take h).drop l).length = h - l:=by simp;omega
  have:=bK.fro (ρ:=ρ) (x:=false) (cap:=cap - l) ((h1.take h).drop l) ((h2.take (h * es)).drop (l * es)) h3 (fun h => by cases h) (by rw [hlen];omega)
  rwa [hlen] at this
 ·have : l = h:=by omega
  subst this
  have e : (ts.take l).drop l = []:=by simp
  rw [e,Nat.sub_self]
  exact .gW (fun h => by cases h)
theorem mT {σ : St} {G : Gh} {w : World} {a : Act} {x : Option Operand} {x' : Option AX} (h : aJ8 x = some x') (hr : ∀ y y',y ∈ x.toArray → trX y = some y' → bL w G.F G.ρ (σ.ev y') (a.eval y)) :
  (∀ v,x'.map σ.ev = some v → ∃ u,x.map a.eval = some u ∧ bL w G.F G.ρ v u) ∧ (x'.map σ.ev = none → x.map a.eval = none):=by
 unfold aJ8 at h
 split at h
 ·simp only [zaA] at h
  subst h
  exact ⟨fun v hv => (by cases hv),fun _ => rfl⟩
 ·rename_i y
  cases hy : trX y with
  | none => rw [hy] at h;cases h
  | some y' =>
   rw [hy] at h
   simp only [Option.map_some,zaA] at h
   subst h
   refine ⟨fun v hv => ?_,fun hv => (by cases hv)⟩
   simp only [Option.map_some,zaA] at hv
   subst hv
   exact ⟨_,rfl,hr y y' (by simp) hy⟩
theorem aT7 {t e : TypeId} {i : TypeInfo} {x : Operand} {x' : AX} {lo hi : Option Operand} {lo' hi' : Option AX} (ht : kY P t = some (e,i)) (hx : trX x = some x') (hlo : aJ8 lo = some lo') (hhi : aJ8 hi = some hi') :
  eV P (.slice t x lo hi none) (.slice i.size x' lo' hi'):=by
 intro σ σ' v hs
 obtain ⟨hu,hi2⟩:=kT ht
 simp only [aN] at hs
 split at hs
 ·rename_i x0 es ts hv
  split at hs
  ·rename_i l h hb
   split at hs
   ·rename_i hes
    subst hes
    simp only [zaA,zaJ] at hs
    obtain ⟨rfl,rfl⟩:=hs
    refine ⟨rfl,fun oper G w H U a ho hw hr hH => ?_⟩
    have h1:=hr x x' (by simp [Op.operands]) hx
    rw [hv] at h1
    obtain ⟨ad,cap,h2,h3,h4,h5⟩:=h1.o5
    obtain ⟨l1,l2⟩:=mT (σ:=σ) (G:=G) (w:=w) (a:=a) hlo (fun y y' hy => hr y y' (by simp [Op.operands];cases lo <;> simp at hy ⊢;exact .inr (.inl hy.symm)))
    obtain ⟨r1,r2⟩:=mT (σ:=σ) (G:=G) (w:=w) (a:=a) hhi (fun y y' hy => hr y y' (by simp [Op.operands];cases hi <;> simp at hy ⊢;exact .inr (.inr hy.symm)))
    obtain ⟨hrun,hlh,hhl⟩:=qW (P:=P) true hb h3 l1 l2 r1 r2
    refine ⟨.slice (if cap = l then ad else ad.map (·.add (l * i.size))) (h - l) (cap - l), ?_,.one ?_ rfl⟩
    ·simp only [execOp,ho,h2]
     refine gF ?_
     simp [Instr.sliceAt,Instr.slice,run_underlying hu,hrun,sizeOf,typeInfo,hi2]
    ·rcases h5 with rfl | ⟨b,o,cs,rfl,h6,h7,h8⟩
     ·have : h = 0:=by simpa using hhl
      subst this
      have : l = 0:=by omega
      subst this
      simp only [List.take_nil,List.drop_nil,Nat.sub_self]
      exact .gW (fun h => by cases h)
     ·refine aPP h6 h7 h8 hlh hhl (by omega) _ (fun hlt => ?_)
      rw [if_neg (by omega)]
      simp [add_lit]
   ·cases hs
  ·cases hs
 ·rename_i id path off k len es hv
  split at hs
  ·rename_i l h hb
   split at hs
   ·rename_i hes
    subst hes
    simp only [zaA,zaJ] at hs
    obtain ⟨rfl,rfl⟩:=hs
    refine ⟨rfl,fun oper G w H U a ho hw hr hH => ?_⟩
    have h1:=hr x x' (by simp [Op.operands]) hx
    rw [hv] at h1
    obtain ⟨ad,cap,h2,h3,h5⟩:=h1.oA
    obtain ⟨l1,l2⟩:=mT (σ:=σ) (G:=G) (w:=w) (a:=a) hlo (fun y y' hy => hr y y' (by simp [Op.operands];cases lo <;> simp at hy ⊢;exact .inr (.inl hy.symm)))
    obtain ⟨r1,r2⟩:=mT (σ:=σ) (G:=G) (w:=w) (a:=a) hhi (fun y y' hy => hr y y' (by simp [Op.operands];cases hi <;> simp at hy ⊢;exact .inr (.inr hy.symm)))
    obtain ⟨hrun,hlh,hhl⟩:=qW (P:=P) true hb h3 l1 l2 r1 r2
    refine ⟨.slice (if cap = l then ad else ad.map (·.add (l * i.size))) (h - l) (cap - l), ?_,.one ?_ rfl⟩
    ·simp only [execOp,ho,h2]
     refine gF ?_
     simp [Instr.sliceAt,Instr.slice,run_underlying hu,hrun,sizeOf,typeInfo,hi2]
    ·by_cases hcl : cap = l
     ·have : h = l:=by omega
      subst this
      rw [hcl,Nat.sub_self]
      exact .sl0
     ·rw [if_neg hcl]
      rcases h5 with ⟨h5,h6⟩ | ⟨b,o,cur,e,rfl,h6,h7,h8⟩
      ·omega
      ·simp only [Option.map_some,add_lit,Nat.add_assoc]
       refine .sl h6 (by omega) h7 ?_
       have : (cap - l) * i.size + l * i.size = cap * i.size:=by rw [← Nat.add_mul];congr 1;omega
       omega
   ·cases hs
  ·cases hs
 ·cases hs
end
end Go.Ra
namespace Go.Ra
set_option linter.unusedVariables false
set_option linter.unusedSimpArgs false
section
variable {P : Program}
theorem Reads.bound {w : World} {b o : Nat} {cs : List Value} {cur : Array Value} {e : TypeId} (h : Reads w b o cs) (hb : w.heap[b]? = some (Obj.cells cur e (0,0))) (hne : cs ≠ []) : o + cs.length ≤ cur.size:=by
 have hlt : cs.length - 1 < cs.length:=by have:=List.length_pos_iff.2 hne;omega
 have:=h (cs.length - 1) _ (List.getElem?_eq_getElem hlt)
 simp only [World.cell?,hb] at this
 have:=(Array.getElem?_eq_some_iff.1 this).1
 omega
theorem aR2 {t : TypeId} {n : Nat} {i : TypeInfo} {x : Operand} {x' : AX} {lo hi : Option Operand} {lo' hi' : Option AX} (ht : aRY P t = some (n,i)) (hx : trX x = some x') (hlo : aJ8 lo = some lo') (hhi : aJ8 hi = some hi') :
  eV P (.slice t x lo hi none) (.qP n i.size x' lo' hi'):=by
 intro σ σ' v hs
 obtain ⟨e,hu,hi2⟩:=aKB ht
 simp only [aN] at hs
 split at hs
 ·rename_i id path off hv
  split at hs
  ·rename_i l h tt hb hH2
   split at hs
   ·rename_i o n' es' ts' hat
    split at hs
    ·rename_i hc
     obtain ⟨rfl,rfl,rfl,hpos⟩:=hc
     simp only [zaA,zaJ] at hs
     obtain ⟨rfl,rfl⟩:=hs
     refine ⟨rfl,fun oper G w H U a ho hw hr hH => ?_⟩
     have h1:=hr x x' (by simp [Op.operands]) hx
     rw [hv] at h1
     obtain ⟨b,o',h2,h3⟩:=h1.mP
     obtain ⟨l1,l2⟩:=mT (σ:=σ) (G:=G) (w:=w) (a:=a) hlo (fun y y' hy => hr y y' (by simp [Op.operands];cases lo <;> simp at hy ⊢;exact .inr (.inl hy.symm)))
     obtain ⟨r1,r2⟩:=mT (σ:=σ) (G:=G) (w:=w) (a:=a) hhi (fun y y' hy => hr y y' (by simp [Op.operands];cases hi <;> simp at hy ⊢;exact .inr (.inr hy.symm)))
     obtain ⟨hrun,hlh,hhl⟩:=qW (P:=P) false hb (zaF n') l1 l2 r1 r2
     obtain ⟨cs,cur,e1,h4,h5,h6,h7⟩:=hw.place h2 (hH _ _ hH2)
     obtain ⟨pre,mid,post,rfl,hp,hm,_⟩:=h4.at path hat
     refine ⟨.slice (if n' = l then some ⟨b,o' + o,none⟩ else some (Addr.add ⟨b,o' + o,none⟩ (l * i.size))) (h - l) (n' - l), ?_,.one ?_ rfl⟩
     ·simp only [execOp,ho,h3]
      refine gF ?_
      simp only [Instr.sliceAt,Sem.run_bind,run_underlying hu,Instr.sureAddr]
      simp [hrun,sizeOf,typeInfo,hi2]
      split <;> rfl
     ·by_cases hcl : n' = l
      ·have : h = l:=by omega
       subst this
       rw [hcl,Nat.sub_self]
       exact .sl0
      ·rw [if_neg hcl,add_lit,Nat.add_assoc]
       refine .sl h2 (by omega) h5 ?_
       have hms:=hm.size
       simp only [AV.size] at hms
       by_cases hz : mid = []
       ·subst hz
        simp only [List.length_nil] at hms
        have:=Nat.mul_pos (show 0 < n' by omega) hpos
        omega
       ·have hb2:=h6.sub.bound h5 hz
        have e2 : l * i.size + (n' - l) * i.size = n' * i.size:=by rw [← Nat.add_mul];congr 1;omega
        omega
    ·cases hs
   ·cases hs
  ·cases hs
 ·rename_i n1 es1 ts hv
  split at hs
  ·rename_i l h hb
   split at hs
   ·rename_i hc
    obtain ⟨rfl,rfl⟩:=hc
    simp only [zaA,zaJ] at hs
    obtain ⟨rfl,rfl⟩:=hs
    refine ⟨rfl,fun oper G w H U a ho hw hr hH => ?_⟩
    have h1:=hr x x' (by simp [Op.operands]) hx
    rw [hv] at h1
    obtain ⟨b,o,cs,h3,h4,h5,h6⟩:=h1.sQ
    obtain ⟨l1,l2⟩:=mT (σ:=σ) (G:=G) (w:=w) (a:=a) hlo (fun y y' hy => hr y y' (by simp [Op.operands];cases lo <;> simp at hy ⊢;exact .inr (.inl hy.symm)))
    obtain ⟨r1,r2⟩:=mT (σ:=σ) (G:=G) (w:=w) (a:=a) hhi (fun y y' hy => hr y y' (by simp [Op.operands];cases hi <;> simp at hy ⊢;exact .inr (.inr hy.symm)))
    obtain ⟨hrun,hlh,hhl⟩:=qW (P:=P) false hb (zaF n1) l1 l2 r1 r2
    cases h4 with
    | arr h7 h8 =>
     refine ⟨.slice (if n1 = l then some ⟨b,o,none⟩ else some (Addr.add ⟨b,o,none⟩ (l * i.size))) (h - l) (n1 - l), ?_,.one ?_ rfl⟩
     ·simp only [execOp,ho,h3]
      refine gF ?_
      simp only [Instr.sliceAt,Sem.run_bind,run_underlying hu,Instr.sureAddr]
      simp [hrun,sizeOf,typeInfo,hi2]
      split <;> rfl
     ·refine aPP h7 h5 h6 hlh (by omega) (by omega) _ (fun hlt => ?_)
      rw [if_neg (by omega),add_lit]
   ·cases hs
  ·cases hs
 ·cases hs
theorem aGO (off : Nat) : ∀ (vs : List Value) (k : Nat) (cs : List Value),off + k + vs.length ≤ cs.length →
  ((vs.zipIdx k).foldl (fun (cs : Array Value) (p : Value × Nat) => cs.setIfInBounds (off + p.2) p.1) cs.toArray) = (cs.take (off + k) ++ (vs ++ cs.drop (off + k + vs.length))).toArray
 | [],k,cs,h => by simp
 | v :: vs,k,cs,h => by
  simp only [List.zipIdx_cons,List.foldl_cons,List.length_cons] at h ⊢
  have hlt : off + k < cs.length:=by omega
  have e : cs.toArray.setIfInBounds (off + k) v = (cs.set (off + k) v).toArray:=by simp
  rw [e,aGO off vs (k + 1) (cs.set (off + k) v) (by simp;omega)]
  congr 1
  rw [List.set_eq_take_append_cons_drop,if_pos hlt]
  have h1 : (cs.take (off + k)).length = off + k:=by simp;omega
  have e1 : (cs.take (off + k) ++ v :: cs.drop (off + k + 1)).take (off + (k + 1)) = cs.take (off + k) ++ [v]:=by
   rw [List.take_append,h1,show off + (k + 1) - (off + k) = 1 by omega,List.take_of_length_le (by omega)]
   simp
  have e2 : (cs.take (off + k) ++ v :: cs.drop (off + k + 1)).drop (off + (k + 1) + vs.length) = cs.drop (off + k + (vs.length + 1)):=by
   rw [List.drop_append,h1,List.drop_of_length_le (by omega),List.nil_append,show off + (k + 1) + vs.length - (off + k) = vs.length + 1 by omega,List.drop_succ_cons,List.drop_drop]
   congr 1;omega
  rw [e1,e2]
  simp
theorem aKD {place : Nat → Option (Nat × Nat)} {i off : Nat} {v : Value} {rest : List (Nat × Value)} {pre mid post : List Value} (hp : place i = some (off,v.cells.size)) (hoff : pre.length = off) (hm : mid.length = v.cells.size) :
  Instr.fill place (pre ++ (mid ++ post)).toArray ((i,v) :: rest) = Instr.fill place (pre ++ (v.cells.toList ++ post)).toArray rest:=by
 simp only [Instr.fill,hp]
 have key : (v.cells.zipIdx.foldl (fun cs (x : Value × Nat) => cs.setIfInBounds (off + x.2) x.1) (pre ++ (mid ++ post)).toArray) = (pre ++ (v.cells.toList ++ post)).toArray:=by
  have:=aGO off v.cells.toList 0 (pre ++ (mid ++ post)) (by simp;omega)
  rw [← Array.foldl_toList,Array.toList_zipIdx,this]
  congr 1
  have h1 : (pre ++ (mid ++ post)).take (off + 0) = pre:=by rw [Nat.add_zero,← hoff];simp
  have h2 : (pre ++ (mid ++ post)).drop (off + 0 + v.cells.toList.length) = post:=by
   have e : off + 0 + v.cells.toList.length = (pre ++ mid).length:=by simp;omega
   rw [e,← List.append_assoc,List.drop_left]
  rw [h1,h2]
 split
 ·rename_i h
  simp at h
  omega
 ·rw [← key]
theorem qX : ∀ (a b : List AV),iV (a ++ b) = iV a + iV b
 | [],b => by simp [iV]
 | t :: a,b => by simp [iV,qX a b,Nat.add_assoc]
theorem aT8 {α : Type} {l : List α} {i : Nat} {z : α} (h : l[i]? = some z) : l = l.take i ++ (z :: l.drop (i + 1)):=by
 obtain ⟨hi,rfl⟩:=List.getElem?_eq_some_iff.1 h
 rw [← List.drop_eq_getElem_cons hi,List.take_append_drop]
def aDC (place : Nat → Option (Nat × Nat)) (zs : List AV) : Prop:=∀ i z,zs[i]? = some z → place i = some (iV (zs.take i),z.size)
theorem aDC.set {place : Nat → Option (Nat × Nat)} {zs : List AV} (h : aDC place zs) {i : Nat} {z v : AV} (hz : zs[i]? = some z) (hv : v.size = z.size) : aDC place (zs.set i v):=by
 intro j y hj
 have hi : i < zs.length:=(List.getElem?_eq_some_iff.1 hz).1
 have hsz : ∀ j,iV ((zs.set i v).take j) = iV (zs.take j):=by
  intro j
  rw [List.take_set]
  by_cases hij : i < j
  ·have hz' : (zs.take j)[i]? = some z:=by rw [List.getElem?_take];simp [hij,hz]
   rw [uT hz',qX]
   have : zs.take j = (zs.take j).take i ++ (z :: (zs.take j).drop (i + 1)):=aT8 hz'
   conv => rhs;rw [this]
   rw [qX]
   simp [iV,hv]
  ·rw [List.set_eq_of_length_le (by simp;omega)]
 rw [hsz]
 by_cases hji : j = i
 ·subst hji
  rw [List.getElem?_set_self hi] at hj
  simp only [zaA] at hj
  subst hj
  rw [hv];exact h j z hz
 ·rw [List.getElem?_set_ne (Ne.symm hji)] at hj
  exact h j y hj
theorem aDD {w : World} {G : Gh} {σ : St} {a : Act} {place : Nat → Option (Nat × Nat)} : ∀ {parts : List (Nat × Operand)} {ps : List (Nat × AX)} {zs ts : List AV} {cs : List Value},uS parts = some ps →
  (∀ x x',x ∈ parts.map (·.2) → trX x = some x' → bL w G.F G.ρ (σ.ev x') (a.eval x)) → sN zs (ps.map fun p => (p.1,σ.ev p.2)) = some ts → aDC place zs → dM w G.F G.ρ zs cs →
  ∃ cs',Instr.fill place cs.toArray (parts.map fun p => (p.1,a.eval p.2)) = some cs'.toArray ∧ dM w G.F G.ρ ts cs' ∧ cs'.length = cs.length
 | [],ps,zs,ts,cs,ht,hr,hp,hpl,hl => by
  simp only [uS,zaA] at ht
  subst ht
  simp only [List.map_nil,sN,zaA] at hp
  subst hp
  exact ⟨cs,by simp [Instr.fill],hl,rfl⟩
 |(i,x) :: parts,ps,zs,ts,cs,ht,hr,hp,hpl,hl => by
  simp only [uS] at ht
  split at ht
  ·rename_i x' ps' hx hps
   simp only [zaA] at ht
   subst ht
   simp only [List.map_cons,sN] at hp
   split at hp
   ·rename_i z hz
    split at hp
    ·rename_i hc
     have hv:=hr x x' (by simp) hx
     have hvc:=hv.cells hc.2.1
     obtain ⟨pre,mid,post,rfl,hpre,hm,hl1,hl2⟩:=hl.nth hz
     have hplace:=hpl i z hz
     have hsz : (a.eval x).cells.toList.length = z.size:=by rw [hvc.size];exact hc.1
     have hsz' : (a.eval x).cells.size = z.size:=by simpa using hsz
     have h1:=aKD (place:=place) (i:=i) (off:=iV (zs.take i)) (v:=a.eval x) (rest:=parts.map fun p => (p.1,a.eval p.2)) (pre:=pre) (mid:=mid) (post:=post) (by rw [hplace,hsz']) hpre (by rw [hm.size,hsz'])
     have hl' : dM w G.F G.ρ (zs.set i (σ.ev x')) (pre ++ ((a.eval x).cells.toList ++ post)):=by
      rw [uT hz];exact hl1.append (.cons hvc hl2)
     obtain ⟨cs',h2,h3,h4⟩:=aDD hps (fun y y' hy => hr y y' (by simp at hy ⊢;exact .inr hy)) hp (hpl.set hz hc.1) hl'
     refine ⟨cs', ?_,h3, ?_⟩
     ·simp only [List.map_cons];rw [h1];exact h2
     ·rw [h4];simp;rw [hsz',← hm.size]
    ·cases hp
   ·cases hp
  ·cases ht
theorem yB : ∀ {fs : List Field} {zs : List AV} {o : Nat},n8 P o fs zs = true → ∃ ss : List (Nat × Nat),(∀ (w : World),(fs.mapM fun f => (do pure (f.offset,← sizeOf f.type) : Sem (Nat × Nat))).run P w = .ok ss w) ∧ ∀ i z,zs[i]? = some z → ss[i]? = some (o + iV (zs.take i),z.size)
 | [],[],o,h => ⟨[],fun w => by simp,fun i z hz => by simp at hz⟩
 | [],_ :: _,o,h => by simp [n8] at h
 | _ :: _,[],o,h => by simp [n8] at h
 | f :: fs,z :: zs,o,h => by
  simp only [n8,zaG,zaK] at h
  obtain ⟨⟨h1,h2⟩,h3⟩:=h
  split at h2
  ·rename_i inf hi
   simp only [zaK] at h2
   obtain ⟨ss,h4,h5⟩:=yB h3
   refine ⟨(o,z.size) :: ss,fun w => ?_,fun i y hy => ?_⟩
   ·have hsz : ∀ w,(sizeOf f.type).run P w = .ok inf.size w:=fun w => by simp [sizeOf,typeInfo,hi]
    rw [List.mapM_cons]
    simp only [Sem.run_bind,hsz,Result.andThen,Sem.run_pure,h4,h1,h2]
   ·cases i with
    | zero =>
     simp only [List.getElem?_cons_zero,zaA] at hy
     subst hy
     simp [iV]
    | succ i =>
     simp only [List.getElem?_cons_succ] at hy
     have:=h5 i y hy
     simp only [List.getElem?_cons_succ,this,List.take_succ_cons,iV,Nat.add_assoc]
  ·cases h2
theorem aT9 {t : TypeId} {fs : Array Field} {n : Nat} {zs : List AV} {parts : Array (Nat × Operand)} {ps : List (Nat × AX)} (hu : P.underlying t = some (.struct fs)) (hz : vV P t = some (.agg n zs)) (hp : uS parts.toList = some ps) (hf : n8 P 0 fs.toList zs = true) :
  eV P (.build t parts) (.build n zs ps):=by
 intro σ σ' v hs
 simp only [aN] at hs
 split at hs
 ·rename_i ts hts
  simp only [zaA,zaJ] at hs
  obtain ⟨rfl,rfl⟩:=hs
  refine ⟨rfl,fun oper G w H U a ho hw hr hH => ?_⟩
  obtain ⟨inf,zv,h1,h2,h3,h4⟩:=pZ hz
  obtain ⟨ss,h5,h6⟩:=yB hf
  cases (h4 w G.F G.ρ).1 with
  | agg h7 h8 =>
   have hpl : aDC (fun i => ss.toArray[i]?) zs:=fun i z hz => by
    have:=h6 i z hz
    rw [Nat.zero_add] at this
    simpa using this
   obtain ⟨cs',h9,h10,h11⟩:=aDD (σ:=σ) (a:=a) hp (fun x x' hx hx' => hr x x' (by simpa [Op.operands] using hx) hx') hts hpl h7
   refine ⟨.agg cs'.toArray, ?_,.agg (.agg h10 (by rw [h11,h8])) rfl⟩
   simp only [execOp,ho]
   refine gF ?_
   have e1 : (fs.mapM fun f => (do pure (f.offset,← sizeOf f.type) : Sem (Nat × Nat))).run P w = .ok ss.toArray w:=by
    have : ∀ (x : Sem (List (Nat × Nat))),x.run P w = .ok ss w → (List.toArray <$> x).run P w = .ok ss.toArray w:=fun x hx => by simp [hx]
    rw [Array.mapM_eq_mapM_toList]
    exact this _ (h5 w)
   have e2 : (parts.map fun (x : Nat × Operand) => (x.1,a.eval x.2)).toList = parts.toList.map fun p => (p.1,a.eval p.2):=by simp
   have hz0 : (zeroValue t).run P w = .ok zv w:=by simp [zeroValue,typeInfo,h1,h2]
   have e3 : zv.cells = (zv.cells.toList).toArray:=by simp
   simp only [Instr.build,Sem.run_bind,hz0,Result.andThen,run_underlying hu,e1]
   rw [e2,e3,h9]
   simp
 ·cases hs
theorem aGP (f : Value → Value → Sem Value) (g : Int → Int → Int) (hf : ∀ (k : IntKind) (a b : Int) (w : World),(f (.int k a) (.int k b)).run P w = .ok (.int k (g a b)) w) {w : World} {F : Nat → Prop} {ρ : Nat → Option Loc} {k : IntKind} :
  ∀ {ts : List AV} {us : List Value} {v : AV} {a : Int},aBS g k a ts = some v → bR w F ρ ts us → ∃ z,(us.foldlM f (.int k a)).run P w = .ok z w ∧ bL w F ρ v z
 | [],us,v,a,h,hr => by
  cases hr
  simp only [aBS,zaA] at h
  subst h
  exact ⟨.int k a,by simp,.one (.sc rfl) rfl⟩
 | t :: ts,us,v,a,h,hr => by
  cases hr with
  | cons h1 h2 =>
   rename_i u us
   unfold aBS at h
   split at h
   ·rename_i heq;cases heq
   ·rename_i k' b l heq
    simp only [List.cons.injEq] at heq
    obtain ⟨rfl,rfl⟩:=heq
    split at h
    ·rename_i hk
     subst hk
     obtain ⟨rfl,_⟩:=h1.kZ
     obtain ⟨z,hz,hz2⟩:=aGP f g hf h h2
     refine ⟨z, ?_,hz2⟩
     simp only [List.foldlM_cons,Sem.run_bind,hf]
     simpa using hz
    ·cases h
   ·cases h
theorem aGQ (f : Value → Value → Sem Value) (g : Int → Int → Int) (hf : ∀ (k : IntKind) (a b : Int) (w : World),(f (.int k a) (.int k b)).run P w = .ok (.int k (g a b)) w) {w : World} {F : Nat → Prop} {ρ : Nat → Option Loc}
  {ts : List AV} {vs : List Value} {v : AV} (h : foldI g ts = some v) (hr : bR w F ρ ts vs) :
   ∃ u us,vs = u :: us ∧ ∃ z,(us.foldlM f u).run P w = .ok z w ∧ bL w F ρ v z:=by
 unfold foldI at h
 split at h
 ·cases hr with
  | cons h1 h2 =>
   obtain ⟨rfl,_⟩:=h1.kZ
   exact ⟨_,_,rfl,aGP f g hf h h2⟩
 ·cases h
theorem a5A {oper0 : Call} {xs' : List AX} (hc : oper0.callee = .builtin .max) (hx : nX oper0.args.toList = some xs') : eV P (.call oper0) (.max xs'):=by
 intro σ σ' v hs
 simp only [aN] at hs
 split at hs
 ·rename_i u hu
  simp only [zaA,zaJ] at hs
  obtain ⟨rfl,rfl⟩:=hs
  refine ⟨rfl,fun oper G w H U a ho hw hr hH => ?_⟩
  have h1:=bR.xZ (σ:=σ) (G:=G) (w:=w) (a:=a) hx fun x x' hx hx' => hr x x' (by simp [Op.operands,Call.operands,hc];simpa using hx) hx'
  obtain ⟨z,zs,h2,y,h3,h4⟩:=aGQ (P:=P) Builtin.max2 (fun a b => if b > a then b else a) (fun k a b w => by simp [Builtin.max2]) hu h1
  refine ⟨y, ?_,h4⟩
  have e : (oper0.args.map a.eval).toList = z :: zs:=by rw [Array.toList_map];exact h2
  simp [execOp,ho,resolve,hc,invoke,builtin,Builtin.max_,h2,h3]
 ·cases hs
theorem a5B {oper0 : Call} {xs' : List AX} (hc : oper0.callee = .builtin .min) (hx : nX oper0.args.toList = some xs') : eV P (.call oper0) (.min xs'):=by
 intro σ σ' v hs
 simp only [aN] at hs
 split at hs
 ·rename_i u hu
  simp only [zaA,zaJ] at hs
  obtain ⟨rfl,rfl⟩:=hs
  refine ⟨rfl,fun oper G w H U a ho hw hr hH => ?_⟩
  have h1:=bR.xZ (σ:=σ) (G:=G) (w:=w) (a:=a) hx fun x x' hx hx' => hr x x' (by simp [Op.operands,Call.operands,hc];simpa using hx) hx'
  obtain ⟨z,zs,h2,y,h3,h4⟩:=aGQ (P:=P) Builtin.min2 (fun a b => if b < a then b else a) (fun k a b w => by simp [Builtin.min2]) hu h1
  refine ⟨y, ?_,h4⟩
  simp [execOp,ho,resolve,hc,invoke,builtin,Builtin.min_,h2,h3]
 ·cases hs
theorem qY {σ : St} {G : Gh} {w : World} {H : Nat → Option AV} {U : Nat → Prop} (hw : Wf G w H U) (hH : ∀ k t,σ.H k = some t → H k = some t) {es : Nat} {x : AV} {ts : List AV} {v : Value} (h : σ.row es x = some ts) (hr : bL w G.F G.ρ x v) :
  ∃ ad cap,v = .slice ad ts.length cap ∧ ts.length ≤ cap ∧ (ts = [] ∨ ∃ b o cs,ad = some ⟨b,o,none⟩ ∧ dQ w G.F es ts cs ∧ Reads w b o cs):=by
 unfold St.row at h
 split at h
 ·split at h
  ·rename_i hes
   simp only [zaA] at h
   subst h
   obtain ⟨ad,cap,h1,h2,h3,h4⟩:=hr.o5
   refine ⟨ad,cap,h1,h2, ?_⟩
   rcases h4 with h4 | ⟨b,o,cs,h5,h6,h7,h8⟩
   ·exact .inl h4
   ·rcases hes with rfl | hes
    ·exact .inr ⟨b,o,cs,h5,h6,h7⟩
    ·exact .inl hes
  ·cases h
 ·rename_i id path off k len es2
  split at h
  ·rename_i h0
   simp only [zaA] at h
   subst h
   obtain ⟨ad,cap,h1,h2,h3⟩:=hr.oA
   exact ⟨ad,cap,by rw [h1,h0];rfl,Nat.zero_le _,.inl rfl⟩
  split at h
  ·rename_i t ht
   split at h
   ·rename_i o n es' ts' hat
    split at h
    ·rename_i hc
     obtain ⟨rfl,rfl,hc⟩:=hc
     simp only [zaA] at h
     subst h
     obtain ⟨ad,cap,h1,h2,h3⟩:=hr.oA
     have hl : ((ts'.drop k).take len).length = len:=by simp;omega
     refine ⟨ad,cap,by rw [hl];exact h1,by rw [hl];exact h2, ?_⟩
     rcases h3 with ⟨h3,h4⟩ | ⟨b,o',cur,e,h4,h5,h6,h7⟩
     ·exact .inl (by rw [h3];simp)
     ·obtain ⟨cs,c1,e1,h8,h9,h10,h11⟩:=hw.place h5 (hH _ _ ht)
      obtain ⟨pre,mid,post,rfl,hp,hm,_⟩:=h8.at path hat
      cases hm with
      | arr hm1 hm2 =>
       refine .inr ⟨b,o' + off,(mid.drop (k * es')).take (len * es'),h4,(hm1.drop k).take len, ?_⟩
       have hsub:=(h10.sub.drop (k * es')).take (len * es')
       rw [hc.1,← hp,← Nat.add_assoc]
       exact hsub
    ·cases h
   ·cases h
  ·cases h
 ·cases h
theorem vW {w : World} {F : Nat → Prop} : ∀ {ts : List AV} {es : Nat} {cs : List Value} {l : List UInt8},bytesOf ts = some l → dQ w F es ts cs →
  ∃ ns : List Int,cs = ns.map (fun n => Value.int .u8 n) ∧ l = ns.map (fun n => UInt8.ofNat n.toNat) ∧ (ts ≠ [] → es = 1) ∧ ts.length = ns.length
 | [],es,cs,l,h,hr => by
  cases hr
  simp only [bytesOf,zaA] at h
  subst h
  exact ⟨[],rfl,rfl,fun h => absurd rfl h,rfl⟩
 | t :: ts,es,cs,l,h,hr => by
  cases hr with
  | cons h1 h0 h2 =>
   unfold bytesOf at h
   split at h
   ·rename_i heq;cases heq
   ·rename_i n l' heq
    simp only [List.cons.injEq] at heq
    obtain ⟨rfl,rfl⟩:=heq
    split at h
    ·rename_i r hr'
     simp only [zaA] at h
     subst h
     obtain ⟨ns,rfl,rfl,_,h5⟩:=vW hr' h2
     cases h1
     exact ⟨n :: ns,rfl,rfl,fun _ => by simpa using h0.symm,by simp [h5]⟩
    ·cases h
   ·cases h
theorem aKE {w : World} (φ : Value → ByteArray → Sem (ForInStep ByteArray)) (hφ : ∀ (n : Int) (r : ByteArray),φ (.int .u8 n) r = pure (ForInStep.yield (r.push (UInt8.ofNat n.toNat)))) : ∀ (ns : List Int) (s : ByteArray),
  Sem.run P (forIn (ns.map fun n => Value.int .u8 n) s φ) w = Result.ok ⟨(s.data.toList ++ ns.map fun n => UInt8.ofNat n.toNat).toArray⟩ w
 | [],s => by simp
 | n :: ns,s => by
  have:=aKE (w:=w) φ hφ ns (s.push (UInt8.ofNat n.toNat))
  simp only [List.map_cons,List.forIn_cons,hφ]
  simp only [Sem.run_bind,Sem.run_pure,Result.andThen]
  rw [this]
  congr 3
  simp [ByteArray.push]
theorem a5C {src dst e : TypeId} {x : Operand} {x' : AX} (h1 : P.underlying src = some (.slice e)) (h2 : P.underlying dst = some .string) (h3 : P.underlying e = some (.int .u8)) (hx : trX x = some x') : eV P (.convert src dst x) (.b2s x'):=by
 intro σ σ' v hs
 simp only [aN] at hs
 split at hs
 ·rename_i ts hrow
  split at hs
  ·rename_i l hl
   simp only [zaA,zaJ] at hs
   obtain ⟨rfl,rfl⟩:=hs
   refine ⟨rfl,fun oper G w H U a ho hw hr hH => ?_⟩
   obtain ⟨ad,cap,h4,h5,h6⟩:=qY hw hH hrow (hr x x' (by simp [Op.operands]) hx)
   refine ⟨.string ⟨l.toArray⟩, ?_,.one (.sc rfl) rfl⟩
   have hconv : (Conv.bytesToString (.slice ad ts.length cap)).run P w = .ok (.string ⟨l.toArray⟩) w:=by
    rcases h6 with rfl | ⟨b,o,cs,rfl,h7,h8⟩
    ·simp only [bytesOf,zaA] at hl
     subst hl
     cases ad with
     | none => simp [Conv.bytesToString];rfl
     | some ad => simp [Conv.bytesToString,loadCells,loadCellsFrom];rfl
    ·obtain ⟨ns,rfl,rfl,h9,h10⟩:=vW hl h7
     have hcells : (loadCells ⟨b,o,none⟩ ts.length).run P w = .ok (ns.map fun n => Value.int .u8 n).toArray w:=by
      have:=run_loadCells_list (P:=P) w ⟨b,o,none⟩ (ns.map fun n => Value.int .u8 n) (fun j v hj => by rw [add_lit];exact h8 j v hj)
      rwa [List.length_map,← h10] at this
     simp only [Conv.bytesToString,Sem.run_bind,hcells,Result.andThen]
     rw [← Array.forIn_toList]
     simp only [List.toList_toArray]
     rw [aKE _ (fun n r => rfl) ns ByteArray.empty]
     simp
   simp only [execOp,ho,h4]
   refine gF ?_
   cases ad <;> simp [convert,run_underlying h1,run_underlying h2,run_underlying h3] <;> exact hconv
  ·cases hs
 ·cases hs
end
end Go.Ra
namespace Go.Ra
set_option linter.unusedVariables false
set_option linter.unusedSimpArgs false
section
variable {P : Program}
theorem gP (w : World) (o : Obj) : nG w (w.alloc o) o:=⟨rfl,rfl,rfl,rfl⟩
theorem mU (w : World) (o : Obj) : nG w (w.drew.alloc o) o:=⟨rfl,rfl,rfl,rfl⟩
theorem aDE {oper : Oper} {σ : St} {v : AV} (hv : v.storable = true) {fr : Fr} {G : Gh} {w : World} {H : Nat → Option AV} {U : Nat → Prop} {a : Act} (hw : Wf G w H U) (hf : sO fr G w H) (hU : U σ.n) {e : TypeId} {u : Value}
  (hrun : (execOp a.eval oper).run P w = .ok (.value (.pointer (some ⟨w.heap.size,0,none⟩))) (w.alloc (.cells u.cells e))) (hr : bL w G.F G.ρ v u) :
  a46 fr G w ((execOp a.eval oper).run P w) (.ptr σ.n [] 0) ((Chg.new v).H σ.n H) (fun j => U j ∧ ((Chg.new v).lB = true → j ≠ σ.n)):=by
 have h1:=Nxt.own hw hf (gP w (.cells u.cells e)) hU (hr.cells hv) (fun j v hj => by simpa using hj) (U':=fun j => U j ∧ ((Chg.new v).lB = true → j ≠ σ.n)) (fun j hj => ⟨hj.1,hj.2 rfl⟩)
 exact ⟨_,_,_,.inl hrun,h1,.one (.ptr (bN _ _ _)) rfl⟩
theorem a5D {t : TypeId} {x : Operand} {x' : AX} (hx : trX x = some x') : Sound P (.box t x) (.box x'):=by
 intro σ σ' v hs
 simp only [aN] at hs
 split at hs
 ·rename_i hst
  simp only [zaA,zaJ] at hs
  obtain ⟨rfl,rfl⟩:=hs
  refine ⟨.new (σ.ev x'),rfl,fun k hk => by simp [Chg.key] at hk,fun fr oper G w H U a ho hw hf hr hH hU => ?_⟩
  refine aDE hst hw hf (hU rfl) (e:=t) (u:=a.eval x) ?_ (hr x x' (by simp [Op.operands]) hx)
  simp [execOp,ho,Instr.box,newVar,newRow,newObj,Sem.run]
 ·cases hs
theorem aUA {t : TypeId} {z : AV} (hz : vV P t = some z) : Sound P (.alloc t) (.box (.c z)):=by
 intro σ σ' v hs
 simp only [aN] at hs
 split at hs
 ·rename_i hst
  simp only [zaA,zaJ] at hs
  obtain ⟨rfl,rfl⟩:=hs
  refine ⟨.new z,rfl,fun k hk => by simp [Chg.key] at hk,fun fr oper G w H U a ho hw hf hr hH hU => ?_⟩
  obtain ⟨i,zv,h1,h2,h3,h4⟩:=pZ hz
  have hz0 : (zeroValue t).run P w = .ok zv w:=by simp [zeroValue,typeInfo,h1,h2]
  refine aDE hst hw hf (hU rfl) (e:=t) (u:=zv) ?_ (h4 w G.F G.ρ).2
  simp only [execOp,ho]
  refine gF ?_
  simp only [Instr.alloc,Sem.run_bind,hz0,Result.andThen]
  simp [newVar,newRow,newObj,Sem.run]
 ·cases hs
theorem wS {w : World} {G : Gh} {es : Nat} : ∀ {parts : List (Nat × Value)} {ts : List AV} {k : Nat} {pre post : List Value},(∀ j p,parts[j]? = some p → p.1 = k + j) → bR w G.F G.ρ ts (parts.map (·.2)) → aBR es ts = true →
  pre.length = k * es → post.length = parts.length * es →
  ∃ cs,Instr.fill (fun i => some (i * es,es)) (pre ++ post).toArray parts = some (pre ++ cs).toArray ∧ dQ w G.F es ts cs
 | [],ts,k,pre,post,hk,hr,hok,hp,hq => by
  cases hr
  have : post = []:=List.eq_nil_of_length_eq_zero (by simpa using hq)
  subst this
  exact ⟨[],by simp [Instr.fill],.nil⟩
 |(i,v) :: parts,ts,k,pre,post,hk,hr,hok,hp,hq => by
  cases hr with
  | cons h1 h2 =>
   simp only [aBR,zaG,beq_iff_eq] at hok
   have hi : i = k:=by have:=hk 0 (i,v) rfl;simpa using this
   subst hi
   have hc:=h1.cells hok.1.1.2
   have hsz : v.cells.toList.length = es:=by rw [hc.size];exact hok.1.1.1
   have hsz' : v.cells.size = es:=by simpa using hsz
   simp only [List.length_cons,Nat.add_mul,Nat.one_mul] at hq
   have e : pre ++ post = pre ++ (post.take es ++ post.drop es):=by rw [List.take_append_drop]
   have h3:=aKD (place:=fun i => some (i * es,es)) (i:=i) (off:=i * es) (v:=v) (rest:=parts) (pre:=pre) (mid:=post.take es) (post:=post.drop es) (by simp [hsz']) hp (by simp;omega)
   obtain ⟨cs,h4,h5⟩:=wS (k:=i + 1) (pre:=pre ++ v.cells.toList) (post:=post.drop es) (fun j p hj => by have:=hk (j + 1) p (by simpa using hj);omega) h2 hok.2 (by simp [hp,hsz',Nat.add_mul]) (by simp;omega)
   refine ⟨v.cells.toList ++ cs, ?_,.cons (hc.free hok.1.2) hsz h5⟩
   rw [e,h3,← List.append_assoc,h4]
   simp
theorem sR : ∀ {ps : List (Nat × Operand)} {k : Nat},qT k ps = true → ∀ j p,ps[j]? = some p → p.1 = k + j
 | [],k,h,j,p,hj => by simp at hj
 | q :: ps,k,h,j,p,hj => by
  simp only [qT,zaG,beq_iff_eq] at h
  cases j with
  | zero =>
   simp only [List.getElem?_cons_zero,zaA] at hj
   subst hj
   simpa using h.1
  | succ j =>
   simp only [List.getElem?_cons_succ] at hj
   have:=sR h.2 j p hj
   omega
theorem aZJ {t el : TypeId} {m n es : Nat} {zs : List AV} {i : TypeInfo} {parts : Array (Nat × Operand)} {xs' : List AX} (hu : P.underlying t = some (.array m el)) (hz : vV P t = some (.arr n es zs)) (hx : nX (parts.toList.map (·.2)) = some xs') (hi : P.info? el = some i)
  (ho1 : qT 0 parts.toList = true) (ho2 : parts.size = n) (ho3 : i.size = es) (ho4 : zs.length = n) : eV P (.build t parts) (.aRV n es xs'):=by
 intro σ σ' v hs
 simp only [aN] at hs
 split at hs
 ·rename_i hok
  simp only [zaA,zaJ] at hs
  obtain ⟨rfl,rfl⟩:=hs
  refine ⟨rfl,fun oper G w H U a ho hw hr hH => ?_⟩
  obtain ⟨inf,zv,h1,h2,h3,h4⟩:=pZ hz
  have h1':=bR.xZ (σ:=σ) (G:=G) (w:=w) (a:=a) hx fun x x' hx hx' => hr x x' (by simpa [Op.operands] using hx) hx'
  have h2' : bR w G.F G.ρ (xs'.map σ.ev) ((parts.toList.map fun p => (p.1,a.eval p.2)).map (·.2)):=by
   rw [List.map_map];rw [List.map_map] at h1';exact h1'
  cases (h4 w G.F G.ρ).1 with
  | arr h7 h8 =>
   have hsz : zv.cells.toList.length = n * es:=by rw [dQ.size h7,ho4]
   obtain ⟨cs,h5,h6⟩:=wS (k:=0) (pre:=[]) (post:=zv.cells.toList) (parts:=parts.toList.map fun p => (p.1,a.eval p.2)) (fun j p hj => by
    rw [List.getElem?_map] at hj
    cases hq : parts.toList[j]? with
    | none => rw [hq] at hj;cases hj
    | some q =>
     rw [hq] at hj
     simp only [Option.map_some,zaA] at hj
     subst hj
     exact sR ho1 j q hq) h2' hok.1 (by simp) (by rw [hsz];simp [ho2])
   simp only [List.nil_append] at h5
   refine ⟨.agg cs.toArray, ?_,.agg (.arr h6 (by simp [hok.2])) rfl⟩
   simp only [execOp,ho]
   refine gF ?_
   have e2 : (parts.map fun (x : Nat × Operand) => (x.1,a.eval x.2)).toList = parts.toList.map fun p => (p.1,a.eval p.2):=by simp
   have hz0 : (zeroValue t).run P w = .ok zv w:=by simp [zeroValue,typeInfo,h1,h2]
   have hsz2 : (sizeOf el).run P w = .ok es w:=by simp [sizeOf,typeInfo,hi,ho3]
   have e3 : zv.cells = (zv.cells.toList).toArray:=by simp
   simp only [Instr.build,Sem.run_bind,hz0,Result.andThen,run_underlying hu,hsz2]
   rw [e2,e3,h5]
   simp
 ·cases hs
theorem a5E {t e : TypeId} {i : TypeInfo} {z : Value} {len : Nat} {parts : Array (Nat × Operand)} {xs' : List AX} (ht : kY P t = some (e,i)) (hz : i.zero = some z) (hx : nX (parts.toList.map (·.2)) = some xs') (ho1 : qT 0 parts.toList = true) (ho2 : parts.size = len) (ho3 : len * i.size ≤ 16777216) :
  Sound P (.buildSlice t len parts) (.bsl i.size xs'):=by
 intro σ σ' v hs
 obtain ⟨hu,hi⟩:=kT ht
 simp only [aN] at hs
 split at hs
 ·rename_i hok
  simp only [zaA,zaJ] at hs
  obtain ⟨rfl,rfl⟩:=hs
  refine ⟨.same,rfl,fun k hk => by simp [Chg.key] at hk,fun fr oper G w H U a ho hw hf hr hH hU => ?_⟩
  have h1:=bR.xZ (σ:=σ) (G:=G) (w:=w) (a:=a) hx fun x x' hx hx' => hr x x' (by simpa [Op.operands] using hx) hx'
  have h2 : bR w G.F G.ρ (xs'.map σ.ev) ((parts.toList.map fun p => (p.1,a.eval p.2)).map (·.2)):=by
   rw [List.map_map];rw [List.map_map] at h1;exact h1
  let init : List Value:=((Array.range (len * i.size)).map ((if len * i.size = 0 then (#[] : Array Value) else z.cells)[· % (if len * i.size = 0 then (#[] : Array Value) else z.cells).size]!)).toList
  have hinit : init.length = len * i.size:=by simp [init]
  obtain ⟨cs,h3,h4⟩:=wS (k:=0) (pre:=[]) (post:=init) (parts:=parts.toList.map fun p => (p.1,a.eval p.2)) (fun j p hj => by
   rw [List.getElem?_map] at hj
   cases hq : parts.toList[j]? with
   | none => rw [hq] at hj;cases hj
   | some q =>
    rw [hq] at hj
    simp only [Option.map_some,zaA] at hj
    subst hj
    exact sR ho1 j q hq) h2 hok (by simp) (by rw [hinit];simp [ho2])
  simp only [List.nil_append] at h3
  have hrun : (execOp a.eval oper).run P w = .ok (.value (.slice (some ⟨w.heap.size,0,none⟩) len len)) (w.alloc (.cells cs.toArray e)):=by
   simp only [execOp,ho]
   refine gF ?_
   have hbig : ¬ len * i.size > 2 ^ 24:=by omega
   have e2 : (parts.map fun (x : Nat × Operand) => (x.1,a.eval x.2)).toList = parts.toList.map fun p => (p.1,a.eval p.2):=by simp
   have hinit2 : init.toArray = (Array.range (len * i.size)).map ((if len * i.size = 0 then (#[] : Array Value) else z.cells)[· % (if len * i.size = 0 then (#[] : Array Value) else z.cells).size]!):=by
    simp only [init,Array.toArray_toList]
   have hsz : (sizeOf e).run P w = .ok i.size w:=by simp [sizeOf,typeInfo,hi]
   have hzv : (zeroValue e).run P w = .ok z w:=by simp [zeroValue,typeInfo,hi,hz]
   by_cases h0 : len * i.size = 0
   ·simp only [if_pos h0] at hinit2
    simp only [Instr.buildSlice,Sem.run_bind,run_underlying hu,hsz,Result.andThen,if_neg hbig,Sem.run_pure,if_pos h0]
    rw [e2,← hinit2,h3]
    simp [newRow,newObj,Sem.run]
   ·simp only [if_neg h0] at hinit2
    simp only [Instr.buildSlice,Sem.run_bind,run_underlying hu,hsz,Result.andThen,if_neg hbig,Sem.run_pure,if_neg h0,hzv]
    rw [e2,← hinit2,h3]
    simp [newRow,newObj,Sem.run]
  have h5:=Nxt.frozen hw hf (gP w (.cells cs.toArray e))
  have hlen : (xs'.map σ.ev).length = len:=by
   have e1 : ∀ {ts : List AV} {vs : List Value},bR w G.F G.ρ ts vs → ts.length = vs.length:=by
    intro ts vs h
    induction ts generalizing vs with
    | nil => cases h;rfl
    | cons t ts ih => cases h with | cons _ h => simp [ih h]
   rw [e1 h1];simp [ho2]
  refine ⟨_,_,⟨G.ρ,fun b => G.F b ∨ b = w.heap.size⟩,.inl hrun, ?_, ?_⟩
  ·have e3 : (fun j => U j ∧ (Chg.same.lB = true → j ≠ σ.n)) = U:=by funext j;simp [Chg.lB]
   rw [e3];exact h5
  ·refine .one ?_ rfl
   rw [← hlen]
   have hx:=(gP w (.cells cs.toArray e)).ext G.F hw.fsz
   refine .fro (b:=w.heap.size) (o:=0) (h4.mono hx (fun _ h => .inl h)) (fun j v hj => ?_) (.inr rfl) (fun _ => rfl) (zaF _)
   rw [World.cell?,(gP w (.cells cs.toArray e)).new]
   simpa using hj
 ·cases hs
theorem qZ {w : World} {b : Nat} {cur cs : Array Value} {e : TypeId} (hb : w.heap[b]? = some (Obj.cells cur e (0,0))) (hs : cs.size = cur.size) : aJ9 w (w.setRow b cs) b cur cs e :=
 ⟨hb,setRow_heap w b cur cs e _ hb,fun k hk => setRow_other w b k cs hk,hs,by simp [World.setRow],rfl,rfl,rfl⟩
theorem aNB {w : World} {b : Nat} {cur : Array Value} {e : TypeId} (hb : w.heap[b]? = some (Obj.cells cur e (0,0))) : aJ9 w w b cur cur e :=
 ⟨hb,hb,fun k hk => rfl,rfl,rfl,rfl,rfl,rfl⟩
theorem aA5 {w : World} {b o : Nat} {cs : List Value} {cur : Array Value} {e : TypeId} (h : Reads w b o cs) (hb : w.heap[b]? = some (Obj.cells cur e (0,0))) : ∀ (j : Nat) (v : Value),cs[j]? = some v → cur[o + j]? = some v:=by
 intro j v hj
 have:=h j v hj
 simpa [World.cell?,hb] using this
theorem aDF {cur : Array Value} {o : Nat} {pre mid new post : List Value} (h : ∀ (j : Nat) (v : Value),(pre ++ (mid ++ post))[j]? = some v → cur[o + j]? = some v) (hl : new.length = mid.length) (hb : o + pre.length + new.length ≤ cur.size) :
  ∀ (j : Nat) (v : Value),(pre ++ (new ++ post))[j]? = some v → (cur.toList.take (o + pre.length) ++ new ++ cur.toList.drop (o + pre.length + new.length)).toArray[o + j]? = some v:=by
 intro j v hj
 have hlen : (cur.toList.take (o + pre.length)).length = o + pre.length:=by simp;omega
 simp only [List.getElem?_toArray,List.append_assoc]
 by_cases h1 : j < pre.length
 ·rw [List.getElem?_append_left (by omega),List.getElem?_take,if_pos (by omega)]
  rw [List.getElem?_append_left h1] at hj
  have:=h j v (by rw [List.getElem?_append_left h1];exact hj)
  simpa using this
 ·rw [List.getElem?_append_right (by omega),hlen]
  rw [List.getElem?_append_right (by omega)] at hj
  have e1 : o + j - (o + pre.length) = j - pre.length:=by omega
  rw [e1]
  by_cases h2 : j - pre.length < new.length
  ·rw [List.getElem?_append_left h2] at hj ⊢
   exact hj
  ·rw [List.getElem?_append_right (by omega)] at hj ⊢
   have:=h j v (by rw [List.getElem?_append_right (by omega),List.getElem?_append_right (by omega),← hl];exact hj)
   rw [List.getElem?_drop]
   have e2 : o + pre.length + new.length + (j - pre.length - new.length) = o + j:=by omega
   rw [e2]
   simpa using this
theorem aUB {t : TypeId} {n : Nat} {x v : Operand} {x' v' : AX} (hn : szT P t = some n) (hn0 : n ≠ 0) (hx : trX x = some x') (hv : trX v = some v') : Sound P (.store t x v) (.store n x' v'):=by
 intro σ σ' r hs
 simp only [aN] at hs
 split at hs
 ·rename_i id path off hxe
  split at hs
  ·rename_i t0 ht0
   split at hs
   ·rename_i o u t' hat sI
    split at hs
    ·rename_i hc
     obtain ⟨rfl,hun,hvn,hst⟩:=hc
     simp only [zaA,zaJ] at hs
     obtain ⟨rfl,rfl⟩:=hs
     refine ⟨.put id t',rfl,fun k hk => by simp only [Chg.key,zaA] at hk;subst hk;simp [ht0],fun fr oper G w H U a ho hw hf hr hH hU => ?_⟩
     have hx1:=hr x x' (by simp [Op.operands]) hx
     rw [hxe] at hx1
     obtain ⟨b,ob,hρ,hxv⟩:=hx1.mP
     have hvr:=(hr v v' (by simp [Op.operands]) hv).cells hst
     obtain ⟨cs,cur,e,h2,h3,h4,h5⟩:=hw.place hρ (hH _ _ ht0)
     obtain ⟨pre,mid,post,rfl,hp,hm,hm2⟩:=h2.at path hat
     have hlen : (a.eval v).cells.toList.length = mid.length:=by rw [hvr.size,hvn,hm.size,hun]
     have hmn : mid.length = n:=by rw [hm.size,hun]
     have h6:=hm2 _ _ _ sI hvr hlen
     have hbd:=h4.bound h3 (by intro h0;simp only [List.append_eq_nil_iff] at h0;rw [h0.2.1] at hmn;exact hn0 hmn.symm)
     simp only [List.length_append] at hbd
     have hfit : ob + pre.length + (a.eval v).cells.toList.length ≤ cur.size:=by omega
     have hst2:=run_storeCells_at P b (ob + pre.length) e (a.eval v).cells.toList 0 cur w h3 (by simpa using hfit) hvr.vM
     simp only [Nat.add_zero] at hst2
     obtain ⟨i,hi,hisz⟩:=aDA hn
     have hsz : (sizeOf t).run P w = .ok n w:=by simp [sizeOf,typeInfo,hi,hisz]
     have hcsz : (a.eval v).cells.size = n:=by rw [← hmn,← hlen];simp
     have hrun : (execOp a.eval oper).run P w = .ok .skip (w.setRow b (cur.toList.take (ob + pre.length) ++ (a.eval v).cells.toList ++ cur.toList.drop (ob + pre.length + (a.eval v).cells.toList.length)).toArray):=by
      simp only [execOp,ho,Instr.storeAt,hxv,Instr.sureAddr,storeVar,Sem.run_bind,Sem.run_pure,Result.andThen,hsz,hcsz,ne_eq,zaN,if_false,← hp,hst2]
     have h7:=Nxt.rewrite hw hf (hH _ _ ht0) hρ (qZ h3 (cs:=(cur.toList.take (ob + pre.length) ++ (a.eval v).cells.toList ++ cur.toList.drop (ob + pre.length + (a.eval v).cells.toList.length)).toArray)
      (by simp only [List.size_toArray,List.length_append,List.length_take,List.length_drop,Array.length_toList] at hfit ⊢;omega)) (i:=id) (o':=ob) (.inl ⟨rfl,rfl⟩) h6 (aDF (aA5 h4 h3) hlen hfit) (U':=fun j => U j ∧ ((Chg.put id t').lB = true → j ≠ σ.n))
      (fun j hj => ⟨hj.1,fun hji => by subst hji;have:=(hw.free j hj.1).1;rw [hH _ _ ht0] at this;cases this⟩)
     exact ⟨_,_,_,.inr ⟨hrun,rfl⟩,h7,.tup .nil⟩
    ·cases hs
   ·cases hs
  ·cases hs
 ·cases hs
theorem aKF {cs : List Value} : ∀ (n j : Nat),j < n * cs.length → (List.replicate n cs).flatten[j]? = cs[j % cs.length]?
 | 0,j,h => by simp at h
 | n + 1,j,h => by
  rw [List.replicate_succ,List.flatten_cons]
  by_cases hj : j < cs.length
  ·rw [List.getElem?_append_left hj,Nat.mod_eq_of_lt hj]
  ·rw [List.getElem?_append_right (by omega),aKF n (j - cs.length) (by rw [Nat.add_mul,Nat.one_mul] at h;omega),Nat.mod_eq_sub_mod (a:=j) (b:=cs.length) (by omega)]
theorem dQ.replicate {w : World} {F : Nat → Prop} {es : Nat} {z : AV} {cs : List Value} (h : bK w F fB z cs) (hs : cs.length = es) : ∀ n,dQ w F es (List.replicate n z) (List.replicate n cs).flatten
 | 0 => by simp;exact .nil
 | n + 1 => by rw [List.replicate_succ,List.replicate_succ,List.flatten_cons];exact .cons h hs (dQ.replicate h hs n)
theorem aDG {z : Value} {n : Nat} : ∀ (j : Nat) (v : Value),(List.replicate n z.cells.toList).flatten[j]? = some v → (madeCells z.cells (n * z.cells.size))[j]? = some v:=by
 intro j v hj
 have hlt : j < n * z.cells.size:=by
  have:=(List.getElem?_eq_some_iff.1 hj).1
  simpa [List.length_flatten] using this
 rw [aKF n j (by simpa using hlt)] at hj
 have hpos : 0 < z.cells.size:=by
  rcases Nat.eq_zero_or_pos z.cells.size with h0 | h0
  ·rw [h0] at hlt;simp at hlt
  ·exact h0
 simp only [madeCells,Array.getElem?_map]
 rw [Array.getElem?_eq_getElem (by simpa using hlt)]
 simp only [Array.getElem_range,Option.map_some]
 have h3 : j % z.cells.size < z.cells.size:=Nat.mod_lt _ hpos
 simp only [Array.length_toList,Array.getElem?_toList] at hj
 rw [Array.getElem?_eq_getElem h3] at hj
 rw [getElem!_pos z.cells _ h3]
 exact hj
theorem a5F {t e : TypeId} {i : TypeInfo} {z : AV} {l c : Operand} {l' : AX} (ht : kY P t = some (e,i)) (hz : vV P e = some z) (hl : trX l = some l') (hsl : xY l c = true) (hzs : z.size = i.size) : Sound P (.makeSlice t l c) (.mks i.size i.bytes z l'):=by
 intro σ σ' v hs
 simp only [aN] at hs
 split at hs
 ·rename_i n hn
  split at hs
  ·rename_i hc
   obtain ⟨hc1,hc3,hc2⟩:=hc
   simp only [zaA,zaJ] at hs
   obtain ⟨rfl,rfl⟩:=hs
   refine ⟨.new (.arr n.toNat i.size (List.replicate n.toNat z)),rfl,fun k hk => by simp [Chg.key] at hk,fun fr oper G w H U a ho hw hf hr hH hU => ?_⟩
   obtain ⟨hu,hi⟩:=kT ht
   obtain ⟨i2,zv,h1,h2,h3,h4⟩:=pZ hz
   rw [hi] at h1
   simp only [zaA] at h1
   subst h1
   have hlv:=hr l l' (by simp [Op.operands]) hl
   obtain ⟨k,hle⟩:=nY hn hlv
   have hce : ∃ kc,a.eval c = .int kc n:=by
    unfold xY at hsl
    split at hsl
    ·simp only [zaK] at hsl
     subst hsl
     exact ⟨_,hle⟩
    ·simp only [zaG,zaK] at hsl
     obtain ⟨⟨rfl,rfl⟩,rfl⟩:=hsl
     exact ⟨_,hle⟩
    ·cases hsl
   obtain ⟨kc,hce⟩:=hce
   have hb1 : (i.bytes : Int) * n ≤ 281474976710656:=by
    have e2 : (i.bytes : Int) * n = ((n.toNat * i.bytes : Nat) : Int):=by
     rw [Int.natCast_mul,Int.mul_comm,Int.toNat_of_nonneg hc1]
    rw [e2];omega
   have hb2 : n ≤ 9223372036854775807:=by
    have : n.toNat * 1 ≤ n.toNat * i.bytes:=Nat.mul_le_mul_left _ (by omega)
    omega
   have hrun0:=run_make (P:=P) w t e i zv hu hi h2 k kc n n hc1 (Int.le_refl _) hb1 hb2
   have hrun : (execOp a.eval oper).run P w = .ok (.value (.slice (some ⟨w.heap.size,0,none⟩) n.toNat n.toNat)) (w.alloc (.cells (madeCells zv.cells (n.toNat * i.size)) e)):=by
    simp only [execOp,ho,hle,hce]
    exact gF hrun0
   have hzc : zv.cells.toList.length = i.size:=by rw [((h4 w G.F fB).1).size,hzs]
   have hzc' : zv.cells.size = i.size:=by simpa using hzc
   have h5:=Nxt.own hw hf (gP w (.cells (madeCells zv.cells (n.toNat * i.size)) e)) (hU rfl) (t:=.arr n.toNat i.size (List.replicate n.toNat z)) (cs:=(List.replicate n.toNat zv.cells.toList).flatten)
    (.arr (dQ.replicate (h4 w G.F fB).1 hzc _) (by simp)) (by rw [← hzc'];exact aDG) (U':=fun j => U j ∧ ((Chg.new (.arr n.toNat i.size (List.replicate n.toNat z))).lB = true → j ≠ σ.n)) (fun j hj => ⟨hj.1,hj.2 rfl⟩)
   refine ⟨_,_,_,.inl hrun,h5,.one (.sl (b:=w.heap.size) (o:=0) (bN _ _ _) (zaF _) (gP w _).new ?_) rfl⟩
   rw [size_madeCells];omega
  ·cases hs
 ·cases hs
theorem aUC {α : Type} (f : Nat → Option α) {k : Nat} {t : α} (h : f k = some t) : upd (upd f k none) k (some t) = f:=by
 funext j
 by_cases hj : j = k
 ·subst hj;rw [bN,h]
 ·rw [bU _ _ hj,bU _ _ hj]
theorem aKG {w : World} {dT sT ty e : TypeId} {i : TypeInfo} (hu : P.underlying dT = some (.slice e)) (hi : P.info? e = some i) {b o dLen dCap : Nat} {a : Option Addr} {sLen sCap : Nat} {cur : Array Value} {t : TypeId} {cs : List Value}
  (hg : w.heap[b]? = some (.cells cur t (0,0))) (hn : cs.length = Nat.min sLen dLen * i.size) (hsrc : Nat.min sLen dLen = 0 ∨ ∃ b' o',a = some ⟨b',o',none⟩ ∧ Reads w b' o' cs) (hfit : o + cs.length ≤ cur.size) (h1 : ∀ v ∈ cs,v.oneCell' = true) :
  (Builtin.copy_ #[dT,sT] ty #[.slice (some ⟨b,o,none⟩) dLen dCap,.slice a sLen sCap]).run P w =
   .ok (goInt (Nat.min sLen dLen : Nat)) (w.setRow b (cur.toList.take o ++ cs ++ cur.toList.drop (o + cs.length)).toArray):=by
 have hs:=run_storeCells_at P b o t cs 0 cur w hg (by simpa using hfit) h1
 simp only [Nat.add_zero] at hs
 have hf : (Builtin.firstCells i.size (Nat.min sLen dLen) (.slice a sLen sCap)).run P w = .ok cs.toArray w:=by
  rcases hsrc with h0 | ⟨b',o',rfl,hr⟩
  ·rw [h0] at hn ⊢
   have : cs = []:=List.eq_nil_of_length_eq_zero (by simpa using hn)
   subst this
   cases a with
   | none => simp [Builtin.firstCells]
   | some a => simp [Builtin.firstCells,loadCells,loadCellsFrom]
  ·exact run_firstCells_some (P:=P) w i.size _ ⟨b',o',none⟩ sLen sCap cs hn (fun j v hj => by rw [add_lit];exact hr j v hj)
 simp only [Builtin.copy_,Sem.run_bind,run_underlying hu,Result.andThen,Builtin.lenOf,Sem.run_pure,sizeOf,typeInfo,hi,hf,hs,List.getElem?_toArray]
 simp [hf,hs,hi,sizeOf,typeInfo,run_underlying hu,Builtin.lenOf]
theorem aR3 {w : World} {dT sT ty e : TypeId} {i : TypeInfo} (hu : P.underlying dT = some (.slice e)) (hi : P.info? e = some i) {dLen dCap : Nat} {d a : Option Addr} {sLen sCap : Nat} (hn : Nat.min sLen dLen = 0) :
  (Builtin.copy_ #[dT,sT] ty #[.slice d dLen dCap,.slice a sLen sCap]).run P w = .ok (goInt (Nat.min sLen dLen : Nat)) w:=by
 rw [hn]
 cases a <;> cases d <;> simp [Builtin.copy_,run_underlying hu,Builtin.lenOf,sizeOf,typeInfo,hi,hn,Builtin.firstCells,loadCells,loadCellsFrom,storeCells]
theorem aZK {dT sT e e' : TypeId} {i i' : TypeInfo} {c : Call} {x y : Operand} {x' y' : AX} (hc : c.callee = .builtin .copy) (ha : c.args = #[x,y]) (hat : c.argTypes = #[dT,sT]) (ht : kY P dT = some (e,i)) (ht' : kY P sT = some (e',i')) (hsz : i'.size = i.size)
  (hx : trX x = some x') (hy : trX y = some y') : Sound P (.call c) (.copy i.size x' y'):=by
 intro σ σ' v hs
 simp only [aN] at hs
 obtain ⟨hu,hi⟩:=kT ht
 split at hs
 ·rename_i id off k len es' xs hxe hrow
  split at hs
  ·rename_i n es'' ts ht0
   split at hs
   ·rename_i hcnd
    obtain ⟨rfl,rfl,rfl,rfl,rfl⟩:=hcnd
    simp only [zaA,zaJ] at hs
    obtain ⟨rfl,rfl⟩:=hs
    refine ⟨.put id (.arr n i.size (xs.take ts.length ++ ts.drop xs.length)),rfl,fun k hk => by simp only [Chg.key,zaA] at hk;subst hk;simp [ht0],fun fr oper G w H U a ho hw hf hr hH hU => ?_⟩
    have hx1:=hr x x' (by simp [Op.operands,Call.operands,hc,ha]) hx
    have hy1:=hr y y' (by simp [Op.operands,Call.operands,hc,ha]) hy
    rw [hxe] at hx1
    obtain ⟨ad,cap,hxv,hcap,h3⟩:=hx1.oA
    obtain ⟨ad2,cap2,hyv,hcap2,h6⟩:=qY hw hH hrow hy1
    have hgo : ∀ u w',(Builtin.copy_ #[dT,sT] oper.type #[a.eval x,a.eval y]).run P w = .ok u w' → (execOp a.eval oper).run P w = .ok (.value u) w':=fun u w' h => by
     simp [execOp,ho,resolve,hc,ha,hat,invoke,builtin,h]
    have hU' : (fun j => U j ∧ ((Chg.put id (.arr n i.size (xs.take ts.length ++ ts.drop xs.length))).lB = true → j ≠ σ.n)) = U:=by funext j;simp [Chg.lB]
    by_cases h0 : Nat.min xs.length ts.length = 0
    ·have hrun:=aR3 (P:=P) (w:=w) (dT:=dT) (sT:=sT) (ty:=oper.type) hu hi (dLen:=ts.length) (dCap:=cap) (sLen:=xs.length) (sCap:=cap2) (d:=ad) (a:=ad2) h0
     have hsame : xs.take ts.length ++ ts.drop xs.length = ts:=by
      rcases Nat.min_eq_zero_iff.1 h0 with h | h
      ·rw [List.eq_nil_of_length_eq_zero h];simp
      ·rw [List.eq_nil_of_length_eq_zero h];simp
     have h7:=Nxt.same hw hf (hJ.refl w)
     refine ⟨_,_,G,.inl (hgo _ _ (by rw [hxv,hyv];exact hrun)), ?_,.one (.sc rfl) rfl⟩
     rw [hU',hsame]
     simp only [Chg.H]
     rw [aUC H (hH _ _ ht0)]
     exact h7
    ·have hts : ts.length ≠ 0:=fun h => h0 (Nat.min_eq_zero_iff.2 (.inr h))
     have hxs : xs.length ≠ 0:=fun h => h0 (Nat.min_eq_zero_iff.2 (.inl h))
     rcases h3 with ⟨h3,_⟩ | ⟨b,o,cur,e2,h3,hρ,hheap,hfit⟩
     ·exact absurd h3 hts
     rcases h6 with h6 | ⟨b2,o2,cs2,h6,hrel2,hrd2⟩
     ·subst h6;exact absurd rfl hxs
     obtain ⟨cs,cur1,e1,hrel,hheap1,hrd,hnF⟩:=hw.place hρ (hH _ _ ht0)
     rw [hheap] at hheap1
     simp only [zaA,Obj.cells.injEq,and_true] at hheap1
     obtain ⟨rfl,rfl⟩:=hheap1
     cases hrel with
     | arr hrel hn =>
      have hm1 : Nat.min xs.length ts.length ≤ xs.length:=Nat.min_le_left _ _
      have hm2 : Nat.min xs.length ts.length ≤ ts.length:=Nat.min_le_right _ _
      generalize hm : Nat.min xs.length ts.length = m at *
      have hl2:=hrel2.size
      have hl1:=hrel.size
      have hmul1 : m * i.size ≤ xs.length * i.size:=Nat.mul_le_mul_right _ hm1
      have hmul2 : m * i.size ≤ ts.length * i.size:=Nat.mul_le_mul_right _ hm2
      have hmul3 : ts.length * i.size ≤ cap * i.size:=Nat.mul_le_mul_right _ hcap
      have hnew:=hrel2.take m
      have hlen : (cs2.take (m * i.size)).length = m * i.size:=by simp;omega
      have hrun:=aKG (P:=P) (w:=w) (dT:=dT) (sT:=sT) (ty:=oper.type) hu hi (b:=b) (o:=o) (dLen:=ts.length) (dCap:=cap) (a:=ad2) (sLen:=xs.length) (sCap:=cap2) hheap (cs:=cs2.take (m * i.size)) (by rw [hm];exact hlen)
       (.inr ⟨b2,o2,h6,hrd2.take _⟩) (by omega) hnew.vM
      have hR:=qZ hheap (cs:=(cur.toList.take o ++ cs2.take (m * i.size) ++ cur.toList.drop (o + (cs2.take (m * i.size)).length)).toArray) (by
       simp only [List.size_toArray,List.length_append,List.length_take,List.length_drop,Array.length_toList] at hlen ⊢;omega)
      have e3 : cs = [] ++ (cs.take (m * i.size) ++ cs.drop (m * i.size)):=by simp
      have hcell:=aDF (cur:=cur) (o:=o) (pre:=[]) (mid:=cs.take (m * i.size)) (new:=cs2.take (m * i.size)) (post:=cs.drop (m * i.size)) (by rw [← e3];exact aA5 hrd hheap) (by rw [hlen];simp;omega) (by simp only [List.length_nil];omega)
      have e4 : xs.take ts.length ++ ts.drop xs.length = xs.take m ++ ts.drop m:=by
       rcases Nat.le_total xs.length ts.length with h | h
       ·have : m = xs.length:=by rw [← hm];exact Nat.min_eq_left h
        rw [this,List.take_of_length_le h,List.take_of_length_le (zaF _)]
       ·have : m = ts.length:=by rw [← hm];exact Nat.min_eq_right h
        rw [this,List.drop_of_length_le h,List.drop_of_length_le (zaF _)]
      have hC : bK w G.F G.ρ (.arr n i.size (xs.take ts.length ++ ts.drop xs.length)) ([] ++ (cs2.take (m * i.size) ++ cs.drop (m * i.size))):=by
       rw [e4]
       refine .arr (hnew.append (hrel.drop m)) ?_
       simp;omega
      have h7:=Nxt.rewrite hw hf (hH _ _ ht0) hρ hR (i:=id) (o':=o) (.inl ⟨rfl,rfl⟩) hC (by simpa using hcell) (U':=fun j => U j ∧ ((Chg.put id (.arr n i.size (xs.take ts.length ++ ts.drop xs.length))).lB = true → j ≠ σ.n))
       (fun j hj => ⟨hj.1,fun hji => by subst hji;have:=(hw.free j hj.1).1;rw [hH _ _ ht0] at this;cases this⟩)
      refine ⟨_,_,_,.inl (hgo _ _ (by rw [hxv,hyv,h3];exact hrun)),h7, ?_⟩
      rw [hm]
      exact .one (.sc rfl) rfl
   ·cases hs
  ·cases hs
 ·cases hs
theorem yC {w : World} {t ty e : TypeId} {i : TypeInfo} (hu : P.underlying t = some (.slice e)) (hi : P.info? e = some i) {s a : Option Addr} {n cap c : Nat} (hn : n ≤ cap) :
  (Builtin.append_ #[t,t] ty #[.slice s n cap,.slice a 0 c]).run P w = .ok (.slice s n cap) w:=by
 cases a <;> cases s <;> simp [Builtin.append_,run_underlying hu,sizeOf,typeInfo,hi,Builtin.lenOf,hn,Builtin.firstCells,loadCells,loadCellsFrom,storeCells]
theorem aKH {w : World} {t ty e : TypeId} {i : TypeInfo} (hu : P.underlying t = some (.slice e)) (hi : P.info? e = some i) {b o sLen sCap : Nat} {cur : Array Value} {e2 : TypeId} (hg : w.heap[b]? = some (.cells cur e2 (0,0)))
  {b2 o2 m c : Nat} {news : List Value} (hl : news.length = m * i.size) (hr : Reads w b2 o2 news) (h1 : ∀ u ∈ news,u.oneCell' = true) (hroom : sLen + m ≤ sCap) (hfit : o + sLen * i.size + news.length ≤ cur.size) :
  (Builtin.append_ #[t,t] ty #[.slice (some ⟨b,o,none⟩) sLen sCap,.slice (some ⟨b2,o2,none⟩) m c]).run P w =
   .ok (.slice (some ⟨b,o,none⟩) (sLen + m) sCap) (w.setRow b (cur.toList.take (o + sLen * i.size) ++ news ++ cur.toList.drop (o + sLen * i.size + news.length)).toArray):=by
 have hf:=run_firstCells_some (P:=P) w i.size m ⟨b2,o2,none⟩ m c news hl (fun j v hj => by rw [add_lit];exact hr j v hj)
 have hst:=run_storeCells_at P b (o + sLen * i.size) e2 news 0 cur w hg (by simpa using hfit) h1
 simp only [Nat.add_zero] at hst
 simp [Builtin.append_,run_underlying hu,sizeOf,typeInfo,hi,Builtin.lenOf,hroom,hf,add_lit,hst]
theorem o6 {w : World} {t ty e : TypeId} {i : TypeInfo} {z : Value} (hu : P.underlying t = some (.slice e)) (hi : P.info? e = some i) (hz : i.zero = some z) (hzs : z.cells.size = i.size) {ad : Option Addr} {sLen sCap : Nat} {olds : List Value} (hlo : olds.length = sLen * i.size)
  (hold : (sLen = 0 ∧ sCap = 0) ∨ ∃ b o,ad = some ⟨b,o,none⟩ ∧ Reads w b o olds) {b2 o2 m c : Nat} {news : List Value} (hl : news.length = m * i.size) (hr : Reads w b2 o2 news) (hm : m ≠ 0) (hg : sCap < sLen + m) (hb0 : 0 < i.bytes) (hby1 : (sLen + m) * i.bytes ≤ 140737488355328) :
  ∃ cap' cur',(Builtin.append_ #[t,t] ty #[.slice ad sLen sCap,.slice (some ⟨b2,o2,none⟩) m c]).run P w = .ok (.slice (some ⟨w.heap.size,0,none⟩) (sLen + m) cap') (w.drew.alloc (.cells cur' e)) ∧
   sLen + m ≤ cap' ∧ cur'.size = cap' * i.size ∧ ∀ (j : Nat) (v : Value),(olds ++ news)[j]? = some v → cur'[j]? = some v:=by
 have hby2 : (sLen + m) * 1 ≤ (sLen + m) * i.bytes:=Nat.mul_le_mul_left _ hb0
 have hread : ∀ j v,news[j]? = some v → w.cell? ((⟨b2,o2,none⟩ : Addr).add j) = some v:=fun j v hj => by rw [add_lit];exact hr j v hj
 have hge:=grownCap_ge w (sLen + m) sCap e
 have hsz : (olds.toArray ++ news.toArray ++ Builtin.zeroCells z.cells (grownCap w (sLen + m) sCap e - (sLen + m))).size = grownCap w (sLen + m) sCap e * i.size:=by
  simp only [Array.size_append,List.size_toArray,size_zeroCells,hzs,hlo,hl,← Nat.add_mul]
  congr 1
  omega
 have hcells : ∀ (j : Nat) (v : Value),(olds ++ news)[j]? = some v → (olds.toArray ++ news.toArray ++ Builtin.zeroCells z.cells (grownCap w (sLen + m) sCap e - (sLen + m)))[j]? = some v:=by
  intro j v hj
  have hlt:=(List.getElem?_eq_some_iff.1 hj).1
  have h1 : (olds.toArray ++ news.toArray ++ Builtin.zeroCells z.cells (grownCap w (sLen + m) sCap e - (sLen + m)))[j]? = (olds.toArray ++ news.toArray)[j]?:=Array.getElem?_append_left (by simpa using hlt)
  rw [h1]
  simpa using hj
 have hgrow : ∀ b o,ad = some ⟨b,o,none⟩ → (∀ j v,olds[j]? = some v → w.cell? ((⟨b,o,none⟩ : Addr).add j) = some v) → ∃ cap' cur',(Builtin.append_ #[t,t] ty #[.slice ad sLen sCap,.slice (some ⟨b2,o2,none⟩) m c]).run P w = .ok (.slice (some ⟨w.heap.size,0,none⟩) (sLen + m) cap') (w.drew.alloc (.cells cur' e)) ∧
   sLen + m ≤ cap' ∧ cur'.size = cap' * i.size ∧ ∀ (j : Nat) (v : Value),(olds ++ news)[j]? = some v → cur'[j]? = some v:=fun b o had hro => by
  subst had
  have hrun:=run_append_grow (P:=P) w t ty e i z hu hi hz ⟨b,o,none⟩ sLen sCap olds hlo hro ⟨b2,o2,none⟩ m c news hl hread hg (by omega) (growslice_fits (by omega) (by omega))
  exact ⟨_,_,hrun,hge,hsz,hcells⟩
 rcases hold with ⟨rfl,rfl⟩ | ⟨b,o,had,hro⟩
 ·have h0 : olds = []:=List.eq_nil_of_length_eq_zero (by simpa using hlo)
  subst h0
  cases ad with
  | none =>
   have hb0' : m * i.bytes ≤ 140737488355328:=by simpa using hby1
   have hrun:=run_append_nil (P:=P) w t ty e i z hu hi hz ⟨b2,o2,none⟩ m c news hl hread (by omega) (by omega) (by omega)
   simp only [Nat.zero_add,List.nil_append] at hge hsz hcells ⊢
   refine ⟨_,_,hrun,hge, ?_, ?_⟩
   ·simpa using hsz
   ·simpa using hcells
  | some ad =>
   obtain ⟨b,o,f⟩:=ad
   have hrun:=run_append_grow (P:=P) w t ty e i z hu hi hz ⟨b,o,f⟩ 0 0 [] hlo (by simp) ⟨b2,o2,none⟩ m c news hl hread hg (by omega) (growslice_fits (by omega) (by omega))
   exact ⟨_,_,hrun,hge,hsz,hcells⟩
 ·exact hgrow b o had (fun j v hj => by rw [add_lit];exact hro j v hj)
theorem aUD {cur : Array Value} {o : Nat} {pre new : List Value} (h : ∀ (j : Nat) (v : Value),pre[j]? = some v → cur[o + j]? = some v) (hb : o + pre.length + new.length ≤ cur.size) :
  ∀ (j : Nat) (v : Value),(pre ++ new)[j]? = some v → (cur.toList.take (o + pre.length) ++ new ++ cur.toList.drop (o + pre.length + new.length)).toArray[o + j]? = some v:=by
 intro j v hj
 have hlen : (cur.toList.take (o + pre.length)).length = o + pre.length:=by simp;omega
 simp only [List.getElem?_toArray,List.append_assoc]
 by_cases h1 : j < pre.length
 ·rw [List.getElem?_append_left (by omega),List.getElem?_take,if_pos (by omega)]
  rw [List.getElem?_append_left h1] at hj
  simpa using h j v hj
 ·rw [List.getElem?_append_right (by omega),hlen]
  rw [List.getElem?_append_right (by omega)] at hj
  have hlt:=(List.getElem?_eq_some_iff.1 hj).1
  rw [List.getElem?_append_left (by omega)]
  have e1 : o + j - (o + pre.length) = j - pre.length:=by omega
  rw [e1];exact hj
theorem aH4 {fr : Fr} {G : Gh} {w : World} {H : Nat → Option AV} {U U' : Nat → Prop} (hw : Wf G w H U) (hf : sO fr G w H) {i n es cap : Nat} {e : TypeId} {cur : Array Value} {ts : List AV} {cs : List Value} {r : Result Next} (hU : U i)
  (hrun : r = .ok (.value (.slice (some ⟨w.heap.size,0,none⟩) n cap)) (w.drew.alloc (.cells cur e))) (hts : ts.length = n) (hrel : dQ w G.F es ts cs) (hcap : n ≤ cap) (hsz : cur.size = cap * es) (hc : ∀ (j : Nat) (v : Value),cs[j]? = some v → cur[j]? = some v) (hU' : ∀ j,U' j → U j ∧ j ≠ i) :
  a46 fr G w r (.sl i [] 0 0 n es) (upd H i (some (.arr n es ts))) U':=by
 have h1:=Nxt.own hw hf (mU w (.cells cur e)) hU (t:=.arr n es ts) (cs:=cs) (.arr hrel hts) hc hU'
 refine ⟨_,_,_,.inl hrun,h1,.one (.sl (b:=w.heap.size) (o:=0) (bN _ _ _) hcap (mU w _).new ?_) rfl⟩
 rw [hsz];omega
theorem a5G {t e : TypeId} {i : TypeInfo} {z : Value} {c : Call} {s x : Operand} {s' x' : AX} (hc : c.callee = .builtin .append) (ha : c.args = #[s,x]) (hat : c.argTypes = #[t,t]) (ht : kY P t = some (e,i)) (hz : i.zero = some z) (hzs : z.cells.size = i.size) (hs' : trX s = some s') (hx : trX x = some x') :
  Sound P (.call c) (.app i.size i.bytes s' x'):=by
 intro σ σ' v hs
 obtain ⟨hu,hi⟩:=kT ht
 simp only [aN] at hs
 split at hs
 ·rename_i xs hrow
  have hgo : ∀ (oper : Oper) (a : Act) (w : World) u w',oper.op = .call c → (Builtin.append_ #[t,t] oper.type #[a.eval s,a.eval x]).run P w = .ok u w' → (execOp a.eval oper).run P w = .ok (.value u) w':=fun oper a w u w' ho h => by
   simp [execOp,ho,resolve,hc,ha,hat,invoke,builtin,h]
  unfold aRW at hs
  split at hs
  ·rename_i es' ts hse
   split at hs
   ·rename_i hcnd
    obtain ⟨hes,hne,hb0,hby⟩:=hcnd
    simp only [zaA,zaJ] at hs
    obtain ⟨rfl,rfl⟩:=hs
    refine ⟨.new (.arr (ts.length + xs.length) i.size (ts ++ xs)),rfl,fun k hk => by simp [Chg.key] at hk,fun fr oper G w H U a ho hw hf hr hH hU => ?_⟩
    have hs1:=hr s s' (by simp [Op.operands,Call.operands,hc,ha]) hs'
    have hx1:=hr x x' (by simp [Op.operands,Call.operands,hc,ha]) hx
    rw [hse] at hs1
    obtain ⟨ad,cap,hsv,hcap,hxt,h3⟩:=hs1.o5
    have hcap':=hxt rfl
    subst hcap'
    obtain ⟨ad2,cap2,hxv,hcap2,h6⟩:=qY hw hH hrow hx1
    have hU2 : ∀ j,(U j ∧ ((Chg.new (.arr (ts.length + xs.length) i.size (ts ++ xs))).lB = true → j ≠ σ.n)) → U j ∧ j ≠ σ.n:=fun j hj => ⟨hj.1,hj.2 rfl⟩
    by_cases hx0 : xs = []
    ·subst hx0
     have ht0 : ts = []:=by simpa using hne
     subst ht0
     have h1:=Nxt.none hw hf (hJ.refl w) (hU rfl) i.size hU2
     exact ⟨_,_,G,.inl (hgo oper a w _ _ ho (by rw [hsv,hxv];exact yC hu hi (zaF _))),h1,.one .sl0 rfl⟩
    ·rcases h6 with h6 | ⟨b2,o2,cs2,rfl,hrel2,hrd2⟩
     ·exact absurd h6 hx0
     have hxl : xs.length ≠ 0:=fun h => hx0 (List.eq_nil_of_length_eq_zero h)
     have hold : ∃ olds,dQ w G.F i.size ts olds ∧ ((ts.length = 0 ∧ ts.length = 0) ∨ ∃ b o,ad = some ⟨b,o,none⟩ ∧ Reads w b o olds):=by
      rcases h3 with h3 | ⟨b,o,cs,rfl,h3,h4,_⟩
      ·subst h3;exact ⟨[],.nil,.inl ⟨rfl,rfl⟩⟩
      ·rcases hes with rfl | rfl
       ·exact ⟨cs,h3,.inr ⟨b,o,rfl,h4⟩⟩
       ·exact ⟨[],.nil,.inl ⟨rfl,rfl⟩⟩
     obtain ⟨olds,hrel1,hold⟩:=hold
     obtain ⟨cap',cur',hrun,h7,h8,h9⟩:=o6 (P:=P) (ty:=oper.type) (c:=cap2) hu hi hz hzs hrel1.size hold hrel2.size hrd2 hxl (by omega) hb0 hby
     exact aH4 hw hf (hU rfl) (hgo oper a w _ _ ho (by rw [hsv,hxv];exact hrun)) (by simp) (hrel1.append hrel2) h7 h8 h9 hU2
   ·cases hs
  ·rename_i id off k len es' hse
   split at hs
   ·rename_i n es'' ts ht0
    split at hs
    ·rename_i hcnd
     obtain ⟨rfl,rfl,hoff,hkl,hb0,hby⟩:=hcnd
     simp only [zaA,zaJ] at hs
     obtain ⟨rfl,rfl⟩:=hs
     refine ⟨.move id (.arr (len + xs.length) i.size ((ts.drop k).take len ++ xs)),rfl,fun k hk => by simp only [Chg.key,zaA] at hk;subst hk;simp [ht0],fun fr oper G w H U a ho hw hf hr hH hU => ?_⟩
     have hs1:=hr s s' (by simp [Op.operands,Call.operands,hc,ha]) hs'
     have hx1:=hr x x' (by simp [Op.operands,Call.operands,hc,ha]) hx
     rw [hse] at hs1
     obtain ⟨ad,cap,hsv,hcap,h3⟩:=hs1.oA
     obtain ⟨ad2,cap2,hxv,hcap2,h6⟩:=qY hw hH hrow hx1
     have hU2 : ∀ j,(U j ∧ ((Chg.move id (.arr (len + xs.length) i.size ((ts.drop k).take len ++ xs))).lB = true → j ≠ σ.n)) → U j ∧ j ≠ σ.n:=fun j hj => ⟨hj.1,hj.2 rfl⟩
     have hlen : ((ts.drop k).take len ++ xs).length = len + xs.length:=by simp;omega
     rcases h3 with ⟨rfl,rfl⟩ | ⟨b,o,cur,e2,rfl,hρ,hheap,hfit⟩
     ·by_cases hx0 : xs = []
      ·subst hx0
       have h1:=Nxt.none (hw.kill id) (hf.kill id) (hJ.refl w) (hU rfl) i.size hU2
       refine ⟨_,_,G,.inl (hgo oper a w _ _ ho (by rw [hsv,hxv];exact yC hu hi (zaF _))), ?_,.one .sl0 rfl⟩
       simpa [Chg.H] using h1
      ·rcases h6 with h6 | ⟨b2,o2,cs2,rfl,hrel2,hrd2⟩
       ·exact absurd h6 hx0
       have hxl : xs.length ≠ 0:=fun h => hx0 (List.eq_nil_of_length_eq_zero h)
       obtain ⟨cap',cur',hrun,h7,h8,h9⟩:=o6 (P:=P) (ty:=oper.type) (c:=cap2) (ad:=ad) (sLen:=0) (sCap:=0) (olds:=[]) hu hi hz hzs (by simp) (.inl ⟨rfl,rfl⟩) hrel2.size hrd2 hxl (by omega) hb0 hby
       exact aH4 (hw.kill id) (hf.kill id) (hU rfl) (hgo oper a w _ _ ho (by rw [hsv,hxv];exact hrun)) hlen (by simpa using hrel2) h7 h8 (by simpa using h9) hU2
     ·obtain ⟨cs,cur1,e1,hrel,hheap1,hrd,hnF⟩:=hw.place hρ (hH _ _ ht0)
      rw [hheap] at hheap1
      simp only [zaA,Obj.cells.injEq,and_true] at hheap1
      obtain ⟨rfl,rfl⟩:=hheap1
      cases hrel with
      | arr hrel hn =>
       have hrel1:=(hrel.drop k).take len
       have hrd1 : Reads w b (o + off) ((cs.drop (k * i.size)).take (len * i.size)):=by
        rw [hoff];exact (hrd.drop (k * i.size)).take (len * i.size)
       generalize holds : (cs.drop (k * i.size)).take (len * i.size) = olds at hrel1 hrd1
       have hlo : olds.length = len * i.size:=by
        have:=hrel1.size
        rw [this];congr 1;simp;omega
       have hoc:=aA5 hrd1 hheap
       by_cases hx0 : xs = []
       ·subst hx0
        have h1:=Nxt.rewrite hw hf (hH _ _ ht0) hρ (aNB hheap) (i:=σ.n) (o':=o + off) (.inr (hU rfl)) (t':=.arr (len + 0) i.size ((ts.drop k).take len ++ [])) (cs':=olds) (.arr (by simpa using hrel1) hlen) hoc hU2
        refine ⟨_,_,_,.inl (hgo oper a w _ _ ho (by rw [hsv,hxv];exact yC hu hi hcap)),h1,.one (.sl (b:=b) (o:=o + off) (bN _ _ _) hcap hheap (by omega)) rfl⟩
       ·rcases h6 with h6 | ⟨b2,o2,cs2,rfl,hrel2,hrd2⟩
        ·exact absurd h6 hx0
        have hxl : xs.length ≠ 0:=fun h => hx0 (List.eq_nil_of_length_eq_zero h)
        by_cases hroom : len + xs.length ≤ cap
        ·have hmul : (len + xs.length) * i.size ≤ cap * i.size:=Nat.mul_le_mul_right _ hroom
         rw [Nat.add_mul] at hmul
         have hl2:=hrel2.size
         have hrun:=aKH (P:=P) (ty:=oper.type) (c:=cap2) hu hi hheap (o:=o + off) hl2 hrd2 hrel2.vM hroom (by omega)
         have hR:=qZ hheap (cs:=(cur.toList.take (o + off + len * i.size) ++ cs2 ++ cur.toList.drop (o + off + len * i.size + cs2.length)).toArray) (by
          simp only [List.size_toArray,List.length_append,List.length_take,List.length_drop,Array.length_toList];omega)
         have hcell:=aUD (cur:=cur) (o:=o + off) (pre:=olds) (new:=cs2) hoc (by omega)
         rw [hlo] at hcell
         have h1:=Nxt.rewrite hw hf (hH _ _ ht0) hρ hR (i:=σ.n) (o':=o + off) (.inr (hU rfl)) (t':=.arr (len + xs.length) i.size ((ts.drop k).take len ++ xs)) (cs':=olds ++ cs2) (.arr (hrel1.append hrel2) hlen) hcell hU2
         refine ⟨_,_,_,.inl (hgo oper a w _ _ ho (by rw [hsv,hxv];exact hrun)),h1,.one (.sl (b:=b) (o:=o + off) (bN _ _ _) hroom hR.new ?_) rfl⟩
         rw [hR.size];omega
        ·obtain ⟨cap',cur',hrun,h7,h8,h9⟩:=o6 (P:=P) (ty:=oper.type) (c:=cap2) (sLen:=len) (sCap:=cap) hu hi hz hzs hlo (.inr ⟨b,o + off,rfl,hrd1⟩) hrel2.size hrd2 hxl (by omega) hb0 hby
         exact aH4 (hw.kill id) (hf.kill id) (hU rfl) (hgo oper a w _ _ ho (by rw [hsv,hxv];exact hrun)) hlen (hrel1.append hrel2) h7 h8 h9 hU2
    ·cases hs
   ·cases hs
  ·cases hs
 ·cases hs
end
end Go.Ra
namespace Go.Ra
set_option linter.unusedVariables false
set_option linter.unusedSimpArgs false
section
variable {P : Program}
theorem fW {α β : Type} {x : Option α} {f : α → β} {b : β} (h : x.map f = some b) : ∃ a,x = some a ∧ f a = b:=by
 cases x with
 | none => cases h
 | some a => exact ⟨a,rfl,by simpa using h⟩
theorem aKI {l : List Operand} {a : AX} (h : nX l = some [a]) : ∃ x,l = [x] ∧ trX x = some a:=by
 cases l with
 | nil => simp [nX] at h
 | cons x r =>
  simp only [nX] at h
  split at h
  ·rename_i a' b' h1 h2
   simp only [zaA,List.cons.injEq] at h
   obtain ⟨rfl,rfl⟩:=h
   cases r with
   | nil => exact ⟨x,rfl,h1⟩
   | cons y r =>
    simp only [nX] at h2
    split at h2 <;> simp at h2
  ·cases h
theorem aDH {l : List Operand} {a b : AX} (h : nX l = some [a,b]) : ∃ x y,l = [x,y] ∧ trX x = some a ∧ trX y = some b:=by
 cases l with
 | nil => simp [nX] at h
 | cons x r =>
  simp only [nX] at h
  split at h
  ·rename_i a' b' h1 h2
   simp only [zaA,List.cons.injEq] at h
   obtain ⟨rfl,rfl⟩:=h
   obtain ⟨y,rfl,h3⟩:=aKI h2
   exact ⟨x,y,rfl,h1,h3⟩
  ·cases h
theorem lC {α : Type} {a : Array α} {l : List α} (h : a.toList = l) : a = l.toArray:=by rw [← h]
theorem Sound.none {o : Op} {ao : AOp} (h : ∀ σ,aN ao σ = Option.none) : Sound P o ao:=by
 intro σ σ' v hs
 rw [h] at hs
 cases hs
theorem aUE {op : BinOp} {t yt : TypeId} {x y : Operand} {x' y' : AX} {ao : AOp} (hp : wQ P t = false) (h : aH1 P op t x' y' = some ao) (hx : trX x = some x') (hy : trX y = some y') : Sound P (.binOp op t x y yt) ao:=by
 unfold aH1 at h
 cases op <;> simp only at h <;> first | (cases h;done) | skip
 all_goals
  split at h
  ·rename_i e hu
   split at h
   ·rename_i hn
    simp only [zaA] at h
    subst h
    first
     | exact (aT2 (neg:=false) rfl hu hx hy hn).sound
     | exact (aT2 (neg:=true) rfl hu hx hy hn).sound
   ·cases h
  ·split at h
   ·cases h
   ·rename_i hg
    split at h
    ·rename_i s hs
     simp only [zaA] at h
     subst h
     first
      | exact (aT5 (neg:=false) rfl hp (by simpa using hg) hs hx hy).sound
      | exact (aT5 (neg:=true) rfl hp (by simpa using hg) hs hx hy).sound
    ·cases h
theorem aNC {c : Call} {ao : AOp} (h : j7 P (.call c) = some ao) : Sound P (.call c) ao:=by
 simp only [j7] at h
 split at h
 ·simp only [zaA] at h
  subst h
  exact Sound.none fun _ => rfl
 ·obtain ⟨a,h1,rfl⟩:=fW h
  exact Sound.none fun _ => rfl
 ·rename_i s x hc hxs
  obtain ⟨s0,x0,ha,hs,hx⟩:=aDH hxs
  split at h
  ·rename_i t u hat
   split at h
   ·rename_i htu
    subst htu
    unfold aC9 at h
    split at h
    ·rename_i e i ht
     split at h
     ·rename_i z hz
      split at h
      ·rename_i hzs
       simp only [zaA] at h
       subst h
       exact a5G hc (lC ha) (lC hat) ht hz hzs hs hx
      ·cases h
     ·cases h
    ·cases h
   ·cases h
  ·cases h
 ·rename_i x hc hxs
  obtain ⟨x0,ha,hx⟩:=aKI hxs
  split at h
  ·rename_i t hat
   split at h
   ·rename_i e hu
    simp only [zaA] at h
    subst h
    exact (aH3 hc (lC ha) (lC hat) hu hx).sound
   ·rename_i hu
    simp only [zaA] at h
    subst h
    exact (aZH hc (lC ha) (lC hat) hu hx).sound
   ·rename_i n e hu
    simp only [zaA] at h
    subst h
    exact (aDB hc (lC ha) (lC hat) (.inl ⟨e,hu⟩) hx).sound
   ·rename_i u hu
    split at h
    ·rename_i n e hu2
     simp only [zaA] at h
     subst h
     exact (aDB hc (lC ha) (lC hat) (.inr ⟨u,e,hu,hu2⟩) hx).sound
    ·cases h
   ·cases h
  ·cases h
 ·rename_i x y hc hxs
  obtain ⟨x0,y0,ha,hx,hy⟩:=aDH hxs
  split at h
  ·rename_i t u hat
   split at h
   ·rename_i e i e' i' ht ht'
    split at h
    ·rename_i hsz
     simp only [zaA] at h
     subst h
     exact aZK hc (lC ha) (lC hat) ht ht' hsz hx hy
    ·cases h
   ·cases h
  ·cases h
 ·rename_i xs hc hxs
  simp only [zaA] at h
  subst h
  exact (a5B hc hxs).sound
 ·rename_i xs hc hxs
  simp only [zaA] at h
  subst h
  exact (a5A hc hxs).sound
 ·cases h
theorem aKJ {o : Op} {ao : AOp} (h : j7 P o = some ao) : Sound P o ao:=by
 cases o with
 | call c => exact aNC h
 | move x =>
  obtain ⟨x',hx,rfl⟩:=fW h
  exact (aZC hx).sound
 | assign x =>
  obtain ⟨x',hx,rfl⟩:=fW h
  exact (aR0 hx).sound
 | pick c a b =>
  simp only [j7] at h
  split at h
  ·rename_i h1 h2 h3
   simp only [zaA] at h
   subst h
   exact (aZD h1 h2 h3).sound
  ·cases h
 | alloc t =>
  obtain ⟨z,hz,rfl⟩:=fW h
  exact aUA hz
 | box t x =>
  obtain ⟨x',hx,rfl⟩:=fW h
  exact a5D hx
 | build t parts =>
  simp only [j7] at h
  split at h
  ·rename_i fs n zs hu hz
   split at h
   ·rename_i ps hp
    split at h
    ·rename_i hf
     simp only [zaA] at h
     subst h
     exact (aT9 hu hz hp hf).sound
    ·cases h
   ·cases h
  ·rename_i m el n es zs hu hz
   split at h
   ·rename_i xs i hx hi
    split at h
    ·rename_i hc
     simp only [zaA] at h
     subst h
     exact (aZJ hu hz hx hi hc.1 hc.2.1 hc.2.2.1 hc.2.2.2).sound
    ·cases h
   ·cases h
  ·cases h
 | buildSlice t len parts =>
  simp only [j7] at h
  split at h
  ·rename_i e i ht
   split at h
   ·rename_i xs z hx hz
    split at h
    ·rename_i hc
     simp only [zaA] at h
     subst h
     exact a5E ht hz hx hc.1 hc.2.1 hc.2.2
    ·cases h
   ·cases h
  ·cases h
 | load t x =>
  simp only [j7] at h
  split at h
  ·rename_i h1 h2 h3
   simp only [zaA] at h
   subst h
   exact (aZI h1 h2 h3).sound
  ·cases h
 | store t a x =>
  simp only [j7] at h
  split at h
  ·rename_i h1 h2 h3
   split at h
   ·cases h
   ·rename_i hn
    simp only [zaA] at h
    subst h
    exact aUB h1 hn h2 h3
  ·cases h
 | nilCheck x =>
  obtain ⟨x',hx,rfl⟩:=fW h
  exact (aT0 hx).sound
 | binOp op t x y yt =>
  simp only [j7] at h
  split at h
  ·rename_i hx hy
   split at h
   ·rename_i hp
    simp only [zaA] at h
    subst h
    exact (a48 hp hx hy).sound
   ·rename_i hp
    exact aUE (by simpa using hp) h hx hy
  ·cases h
 | unOp op t x =>
  obtain ⟨x',hx,rfl⟩:=fW h
  exact (a82 hx).sound
 | convert src dst x =>
  simp only [j7] at h
  split at h
  ·rename_i h1 h2 h3
   simp only [zaA] at h
   subst h
   exact (aZE h1 h2 h3).sound
  ·rename_i h1 h2 h3
   split at h
   ·rename_i h4
    simp only [zaA] at h
    subst h
    exact (a5C h1 h2 h4 h3).sound
   ·cases h
  ·cases h
 | slice t x lo hi mx =>
  cases mx with
  | some m => simp [j7] at h
  | none =>
   simp only [j7] at h
   split at h
   ·rename_i h1 h2 h3 h4
    simp only [zaA] at h
    subst h
    exact (aT7 h1 h2 h3 h4).sound
   ·rename_i h1 h2 h3 h4 _
    simp only [zaA] at h
    subst h
    exact (aR2 h1 h2 h3 h4).sound
   ·cases h
 | fieldAddr s x i =>
  simp only [j7] at h
  split at h
  ·rename_i h1 h2
   split at h
   ·rename_i f h3
    split at h
    ·rename_i n h4
     split at h
     ·cases h
     ·rename_i h5
      simp only [zaA] at h
      subst h
      exact (aZG h1 h3 h4 h5 h2).sound
    ·cases h
   ·cases h
  ·cases h
 | indexAddr t x i =>
  simp only [j7] at h
  split at h
  ·rename_i h1 h2 h3
   simp only [zaA] at h
   subst h
   exact (aFV h1 h2 h3).sound
  ·rename_i h1 h2 h3 _
   simp only [zaA] at h
   subst h
   exact (aKC h1 h2 h3).sound
  ·cases h
 | extract x i =>
  obtain ⟨x',hx,rfl⟩:=fW h
  exact (aM9 hx).sound
 | makeFunc fn first caps =>
  cases fn with
  | func f =>
   simp only [j7] at h
   split at h
   ·rename_i cs hc
    split at h
    ·rename_i hf
     simp only [zaA] at h
     subst h
     exact (a47 hf hc).sound
    ·cases h
   ·cases h
  | _ => simp [j7] at h
 | makeSlice t l c =>
  simp only [j7] at h
  split at h
  ·rename_i h1 h2
   split at h
   ·rename_i z h3
    split at h
    ·rename_i h4
     simp only [zaA] at h
     subst h
     exact a5F h1 h3 h2 h4.1 h4.2
    ·cases h
   ·cases h
  ·cases h
 | _ => simp [j7] at h
def AOp.wT : AOp → Bool
 | .call .. => true
 | .mD .. => true
 | .j6 .. => true
 | _ => false
def aUF (o : Op) (ao : AOp) : Prop:=∃ c y,o = .call c ∧ c.callee = .value y ∧ ((∃ f args,y = .func f ∧ nX c.args.toList = some args ∧ (ao = .call f args ∨ ao = .j6 f args)) ∨ (∃ x args,trX y = some x ∧ nX c.args.toList = some args ∧ ao = .mD x args))
def TrO (P : Program) (o : Op) (ao : AOp) : Prop:=Sound P o ao ∧ (ao.wT = true → aUF o ao)
theorem aGR {t : TypeId} {s x : AX} {ao : AOp} (h : aC9 P t s x = some ao) : ∃ e i z,kY P t = some (e,i) ∧ i.zero = some z ∧ z.cells.size = i.size ∧ ao = .app i.size i.bytes s x:=by
 unfold aC9 at h
 split at h
 ·rename_i e i ht
  split at h
  ·rename_i z hz
   split at h
   ·rename_i hzs
    simp only [zaA] at h
    exact ⟨e,i,z,ht,hz,hzs,h.symm⟩
   ·cases h
  ·cases h
 ·cases h
theorem aZL {op : BinOp} {t : TypeId} {x y : AX} {es b : Nat} {s u : AX} (h : aH1 P op t x y = some (.app es b s u)) : False:=by
 unfold aH1 at h
 cases op <;> simp only at h <;> first | (cases h;done) | skip
 all_goals
  repeat' split at h
  all_goals first | (cases h;done)
theorem aUG {o : Op} {es b : Nat} {s x : AX} (h : j7 P o = some (.app es b s x)) : ∃ c s0 x0 t e i z,o = .call c ∧ c.callee = .builtin .append ∧ c.args = #[s0,x0] ∧ c.argTypes = #[t,t] ∧ kY P t = some (e,i) ∧ i.zero = some z ∧ z.cells.size = i.size ∧
  trX s0 = some s ∧ trX x0 = some x ∧ es = i.size ∧ b = i.bytes:=by
 cases o with
 | call c =>
  simp only [j7] at h
  split at h
  ·cases h
  ·obtain ⟨a,h1,h2⟩:=fW h
   cases h2
  ·rename_i s' x' hc hxs
   obtain ⟨s0,x0,ha,hs,hx⟩:=aDH hxs
   split at h
   ·rename_i t u hat
    split at h
    ·rename_i htu
     subst htu
     obtain ⟨e,i,z,h1,h2,h3,h4⟩:=aGR h
     simp only [AOp.app.injEq] at h4
     obtain ⟨rfl,rfl,rfl,rfl⟩:=h4
     exact ⟨c,s0,x0,t,e,i,z,rfl,hc,lC ha,lC hat,h1,h2,h3,hs,hx,rfl,rfl⟩
    ·cases h
   ·cases h
  all_goals
   repeat' split at h
   all_goals first | (cases h;done)
 | _ =>
  simp only [j7] at h
  repeat' split at h
  all_goals first | (cases h;done) | contradiction | (obtain ⟨a,h1,h2⟩:=fW h;cases h2;done) | exact (aZL h).elim
theorem aZM {s : Operand} (h : trX s = some (.c (.fro true 0 []))) : s = .const (.slice none 0 0):=by
 unfold trX at h
 split at h
 ·cases h
 ·rename_i v
  split at h
  ·rename_i a hv
   simp only [zaA,AX.c.injEq] at h
   subst h
   unfold trV at hv
   split at hv <;> first | rfl | (cases hv;done)
  ·cases h
 ·cases h
 ·cases h
theorem aND {o : Op} {es b : Nat} {x : AX} (h : j7 P o = some (.app es b (.c (.fro true 0 [])) x)) : Sound P o (.aHZ es b x):=by
 obtain ⟨c,s0,x0,t,e,i,z,rfl,hc,ha,hat,ht,hz,hzs,hs,hx,rfl,rfl⟩:=aUG h
 have hs0:=aZM hs
 obtain ⟨hu,hi⟩:=kT ht
 intro σ σ' v hst
 simp only [aN] at hst
 split at hst
 ·rename_i xs hrow
  split at hst
  ·rename_i hcnd
   obtain ⟨hb0,hby⟩:=hcnd
   simp only [zaA,zaJ] at hst
   obtain ⟨rfl,rfl⟩:=hst
   refine ⟨.same,rfl,fun k hk => by simp [Chg.key] at hk,fun fr oper G w H U a ho hw hf hr hH hU => ?_⟩
   have hgo : ∀ u w',(Builtin.append_ #[t,t] oper.type #[.slice none 0 0,a.eval x0]).run P w = .ok u w' → (execOp a.eval oper).run P w = .ok (.value u) w':=fun u w' h => by
    have hsv : a.eval s0 = .slice none 0 0:=by rw [hs0];rfl
    simp [execOp,ho,resolve,hc,ha,hat,invoke,builtin,hsv,h]
   have hx1:=hr x0 x (by simp [Op.operands,Call.operands,hc,ha]) hx
   obtain ⟨ad,cap,hxv,hcap,h6⟩:=qY hw hH hrow hx1
   have e3 : (fun j => U j ∧ (Chg.same.lB = true → j ≠ σ.n)) = U:=by funext j;simp [Chg.lB]
   by_cases hx0 : xs = []
   ·subst hx0
    refine ⟨_,_,G,.inl (hgo _ _ (by rw [hxv];exact yC hu hi (zaF _))), ?_,.one (.gW fun h => by cases h) rfl⟩
    rw [e3];exact Nxt.same hw hf (hJ.refl w)
   ·rcases h6 with h6 | ⟨b2,o2,cs2,rfl,hrel2,hrd2⟩
    ·exact absurd h6 hx0
    have hxl : xs.length ≠ 0:=fun h => hx0 (List.eq_nil_of_length_eq_zero h)
    obtain ⟨cap',cur',hrun,h7,h8,h9⟩:=o6 (P:=P) (ty:=oper.type) (c:=cap) (ad:=none) (sLen:=0) (sCap:=0) (olds:=[]) hu hi hz hzs (by simp) (.inl ⟨rfl,rfl⟩) hrel2.size hrd2 hxl (by omega) hb0 (by simpa using hby)
    rw [Nat.zero_add] at hrun h7
    have h5:=Nxt.frozen hw hf (mU w (.cells cur' e))
    refine ⟨_,_,⟨G.ρ,fun b => G.F b ∨ b = w.heap.size⟩,.inl (hgo _ _ (by rw [hxv];exact hrun)), ?_, ?_⟩
    ·rw [e3];exact h5
    ·have hx2:=(mU w (.cells cur' e)).ext G.F hw.fsz
     refine .one (.fro (b:=w.heap.size) (o:=0) (hrel2.mono hx2 (fun _ h => .inl h)) (fun j v hj => ?_) (.inr rfl) (fun h => by cases h) h7) rfl
     rw [World.cell?,(mU w (.cells cur' e)).new]
     simpa using h9 j v (by simpa using hj)
  ·cases hst
 ·cases hst
theorem aZN {op : BinOp} {t : TypeId} {x y : AX} {es b : Nat} {z : AV} {l : AX} (h : aH1 P op t x y = some (.mks es b z l)) : False:=by
 unfold aH1 at h
 cases op <;> simp only at h <;> first | (cases h;done) | skip
 all_goals
  repeat' split at h
  all_goals first | (cases h;done)
theorem aUH {t : TypeId} {s x : AX} {es b : Nat} {z : AV} {l : AX} (h : aC9 P t s x = some (.mks es b z l)) : False:=by
 obtain ⟨e,i,z,h1,h2,h3,h4⟩:=aGR h
 cases h4
theorem aUI {o : Op} {es b : Nat} {z : AV} {l : AX} (h : j7 P o = some (.mks es b z l)) : ∃ t l0 c e i,o = .makeSlice t l0 c ∧ kY P t = some (e,i) ∧ trX l0 = some l ∧ vV P e = some z ∧ xY l0 c = true ∧ z.size = i.size ∧ es = i.size ∧ b = i.bytes:=by
 cases o with
 | makeSlice t l0 c =>
  simp only [j7] at h
  split at h
  ·rename_i h1 h2
   split at h
   ·rename_i z' h3
    split at h
    ·rename_i h4
     simp only [zaA,AOp.mks.injEq] at h
     obtain ⟨rfl,rfl,rfl,rfl⟩:=h
     exact ⟨t,l0,c,_,_,rfl,h1,h2,h3,h4.1,h4.2,rfl,rfl⟩
    ·cases h
   ·cases h
  ·cases h
 | _ =>
  simp only [j7] at h
  repeat' split at h
  all_goals first | (cases h;done) | contradiction | (obtain ⟨a,h1,h2⟩:=fW h;cases h2;done) | exact (aZN h).elim | exact (aUH h).elim
theorem aKK {o : Op} {es b : Nat} {z : AV} {l' : AX} (h : j7 P o = some (.mks es b z l')) : Sound P o (.aM6 es b z l'):=by
 obtain ⟨t,l,c,e,i,rfl,ht,hl,hz,hsl,hzs,rfl,rfl⟩:=aUI h
 intro σ σ' v hs
 simp only [aN] at hs
 split at hs
 ·rename_i n hn
  split at hs
  ·rename_i hc
   obtain ⟨hc1,hc3,hc2⟩:=hc
   simp only [zaA,zaJ] at hs
   obtain ⟨rfl,rfl⟩:=hs
   refine ⟨.same,rfl,fun k hk => by simp [Chg.key] at hk,fun fr oper G w H U a ho hw hf hr hH hU => ?_⟩
   obtain ⟨hu,hi⟩:=kT ht
   obtain ⟨i2,zv,h1,h2,h3,h4⟩:=pZ hz
   rw [hi] at h1
   simp only [zaA] at h1
   subst h1
   have hlv:=hr l l' (by simp [Op.operands]) hl
   obtain ⟨k,hle⟩:=nY hn hlv
   have hce : ∃ kc,a.eval c = .int kc n:=by
    unfold xY at hsl
    split at hsl
    ·simp only [zaK] at hsl
     subst hsl
     exact ⟨_,hle⟩
    ·simp only [zaG,zaK] at hsl
     obtain ⟨⟨rfl,rfl⟩,rfl⟩:=hsl
     exact ⟨_,hle⟩
    ·cases hsl
   obtain ⟨kc,hce⟩:=hce
   have hb1 : (i.bytes : Int) * n ≤ 281474976710656:=by
    have e2 : (i.bytes : Int) * n = ((n.toNat * i.bytes : Nat) : Int):=by
     rw [Int.natCast_mul,Int.mul_comm,Int.toNat_of_nonneg hc1]
    rw [e2];omega
   have hb2 : n ≤ 9223372036854775807:=by
    have : n.toNat * 1 ≤ n.toNat * i.bytes:=Nat.mul_le_mul_left _ (by omega)
    omega
   have hrun0:=run_make (P:=P) w t e i zv hu hi h2 k kc n n hc1 (Int.le_refl _) hb1 hb2
   have hrun : (execOp a.eval oper).run P w = .ok (.value (.slice (some ⟨w.heap.size,0,none⟩) n.toNat n.toNat)) (w.alloc (.cells (madeCells zv.cells (n.toNat * i.size)) e)):=by
    simp only [execOp,ho,hle,hce]
    exact gF hrun0
   have e3 : (fun j => U j ∧ (Chg.same.lB = true → j ≠ σ.n)) = U:=by funext j;simp [Chg.lB]
   have hzc : zv.cells.toList.length = i.size:=by rw [((h4 w G.F fB).1).size,hzs]
   have hzc' : zv.cells.size = i.size:=by simpa using hzc
   have h5:=Nxt.frozen hw hf (gP w (.cells (madeCells zv.cells (n.toNat * i.size)) e))
   have hrel:=dQ.replicate (h4 (w.alloc (.cells (madeCells zv.cells (n.toNat * i.size)) e)) (fun b => G.F b ∨ b = w.heap.size) fB).1 hzc n.toNat
   have hR : bK (w.alloc (.cells (madeCells zv.cells (n.toNat * i.size)) e)) (fun b => G.F b ∨ b = w.heap.size) G.ρ (.fro false i.size (List.replicate n.toNat z)) [.slice (some ⟨w.heap.size,0,none⟩) (List.replicate n.toNat z).length n.toNat]:=by
    refine .fro (b:=w.heap.size) (o:=0) hrel (fun j v hj => ?_) (.inr rfl) (fun h => by cases h) (by simp)
    rw [World.cell?,(gP w (.cells (madeCells zv.cells (n.toNat * i.size)) e)).new]
    have:=aDG j v hj
    rw [hzc'] at this
    simpa using this
   rw [List.length_replicate] at hR
   refine ⟨_,_,⟨G.ρ,fun b => G.F b ∨ b = w.heap.size⟩,.inl hrun, ?_,.one hR rfl⟩
   rw [e3];exact h5
  ·cases hs
 ·cases hs
theorem aZO {op : BinOp} {t : TypeId} {x y : AX} {ao : AOp} (h : aH1 P op t x y = some ao) : ao.wT = false:=by
 unfold aH1 at h
 cases op <;> simp only at h <;> first | (cases h;done) | skip
 all_goals
  repeat' split at h
  all_goals first | (cases h;done) | (simp only [zaA] at h;subst h;rfl)
theorem aUJ {t : TypeId} {x y : AX} {ao : AOp} (h : aC9 P t x y = some ao) : ao.wT = false:=by
 unfold aC9 at h
 repeat' split at h
 all_goals first | (cases h;done) | (simp only [zaA] at h;subst h;rfl)
theorem aKL {o : Op} {ao : AOp} (h : j7 P o = some ao) (hc : ao.wT = true) : ∃ c y,o = .call c ∧ c.callee = .value y ∧ ((∃ f args,y = .func f ∧ nX c.args.toList = some args ∧ ao = .call f args) ∨ (∃ x args,trX y = some x ∧ nX c.args.toList = some args ∧ ao = .mD x args)):=by
 cases o with
 | call c =>
  simp only [j7] at h
  split at h
  ·rename_i f xs hc2 hx
   simp only [zaA] at h
   exact ⟨c,_,rfl,hc2,.inl ⟨f,xs,rfl,hx,h.symm⟩⟩
  ·rename_i y xs hx _ hc2
   obtain ⟨a,h1,h2⟩:=fW h
   exact ⟨c,_,rfl,by assumption,.inr ⟨a,_,h1,by assumption,h2.symm⟩⟩
  all_goals
   repeat' split at h
   all_goals first | (cases h;done) | (have:=aUJ h;rw [this] at hc;cases hc;done) | (simp only [zaA] at h;subst h;cases hc)
 | _ =>
  simp only [j7] at h
  repeat' split at h
  all_goals first | (cases h;done) | contradiction | (obtain ⟨a,h1,h2⟩:=fW h;subst h2;cases hc;done) | (have:=aZO h;rw [this] at hc;cases hc;done) | (simp only [zaA] at h;subst h;cases hc;done)
theorem aGS {o : Op} {ao : AOp} (h : j7 P o = some ao) (hc : ao.wT = true) : aUF o ao:=by
 obtain ⟨c,y,e1,e2,e3⟩:=aKL h hc
 refine ⟨c,y,e1,e2,e3.imp (fun ⟨f,args,h1,h2,h3⟩ => ⟨f,args,h1,h2,.inl h3⟩) id⟩
theorem aUK {o : Op} {ao : AOp} (h : j7 P o = some ao) (z : ZM) : TrO P o (zmO z ao):=by
 have h1 : TrO P o (if z.soft then aPJ ao else ao):=by
  cases z.soft with
  | false => exact ⟨aKJ h,fun hc => aGS h hc⟩
  | true =>
   simp only [if_true]
   unfold aPJ
   split
   ·exact ⟨aND h,fun hc => by simp [AOp.wT] at hc⟩
   ·exact ⟨aKK h,fun hc => by simp [AOp.wT] at hc⟩
   ·exact ⟨aKJ h,fun hc => aGS h hc⟩
 unfold zmO
 generalize (if z.soft then aPJ ao else ao) = a1 at h1
 unfold a3Q
 split
 ·rename_i f args
  split
  ·obtain ⟨c,y,e1,e2,e3⟩:=h1.2 rfl
   refine ⟨fun σ τ v hs => by simp [aN] at hs,fun _ => ⟨c,y,e1,e2,.inl ?_⟩⟩
   rcases e3 with ⟨f',args',rfl,h3,h4 | h4⟩ | ⟨x,args',_,_,h4⟩
   ·simp only [AOp.call.injEq] at h4
    obtain ⟨rfl,rfl⟩:=h4
    exact ⟨f,args,rfl,h3,.inr rfl⟩
   ·cases h4
   ·cases h4
  ·exact h1
 ·exact h1
end
end Go.Ra
namespace Go.Ra
set_option linter.unusedVariables false
def wpE (C : Orc) (e : Option (AV × St)) (d : Option Nat) (r : List AG) (K : St → Prop) : Prop :=
 match e with
 | some (v,σ) => wpOps C r (σ.put d v) K
 | none => False
def wpG (v : AV) (b : Bool) (p q : Prop) : Prop :=
 match v with
 | .sc (.bool b') => (b' = b → p) ∧ (b' ≠ b → q)
 | .tup [] => q
 | _ => False
def yD (C : Orc) (v : AV) (b : Bool) (d : Option Nat) (o : AOp) (r : List AG) (σ : St) (K : St → Prop) : Prop :=
 wpG v b (wpOps C (⟨d,o,none⟩ :: r) σ K) (wpOps C r (σ.put d (.tup [])) K)
section
variable {C : Orc} {d : Option Nat} {r : List AG} {σ : St} {K : St → Prop}
theorem aUL (v : AV) (σ : St) : wpE C (some (v,σ)) d r K = wpOps C r (σ.put d v) K:=rfl
theorem aR4 : wpOps C [] σ K = K σ:=rfl
theorem aUM (x : AX) : wpOps C (⟨d,.mv x,none⟩ :: r) σ K = wpOps C r (σ.put d (σ.ev x)) K:=rfl
theorem aNE (c a b : AX) : wpOps C (⟨d,.pick c a b,none⟩ :: r) σ K = wpE C (aN (.pick c a b) σ) d r K:=rfl
theorem aR5 (x : AX) : wpOps C (⟨d,.box x,none⟩ :: r) σ K = wpE C (aN (.box x) σ) d r K:=rfl
theorem aKM (n : Nat) (z : List AV) (p : List (Nat × AX)) : wpOps C (⟨d,.build n z p,none⟩ :: r) σ K = wpE C (aN (.build n z p) σ) d r K:=rfl
theorem aR6 (n : Nat) (xs : List AX) : wpOps C (⟨d,.bsl n xs,none⟩ :: r) σ K = wpE C (aN (.bsl n xs) σ) d r K:=rfl
theorem aNF (a : Bool) (n : Nat) (x : AX) : wpOps C (⟨d,.load a n x,none⟩ :: r) σ K = wpE C (aN (.load a n x) σ) d r K:=rfl
theorem aKN (n : Nat) (x v : AX) : wpOps C (⟨d,.store n x v,none⟩ :: r) σ K = wpE C (aN (.store n x v) σ) d r K:=rfl
theorem aKO (x : AX) : wpOps C (⟨d,.xV x,none⟩ :: r) σ K = wpE C (aN (.xV x) σ) d r K:=rfl
theorem aR7 (op : BinOp) (x y : AX) : wpOps C (⟨d,.bin op x y,none⟩ :: r) σ K = wpE C (aN (.bin op x y) σ) d r K:=rfl
theorem aR8 (b : Bool) (x : AX) : wpOps C (⟨d,.eqn b x,none⟩ :: r) σ K = wpE C (aN (.eqn b x) σ) d r K:=rfl
theorem aR9 (b : Bool) (t : TS) (x y : AX) : wpOps C (⟨d,.eqs b t x y,none⟩ :: r) σ K = wpE C (aN (.eqs b t x y) σ) d r K:=rfl
theorem aUN (op : UnOp) (x : AX) : wpOps C (⟨d,.un op x,none⟩ :: r) σ K = wpE C (aN (.un op x) σ) d r K:=rfl
theorem aNG (k : IntKind) (x : AX) : wpOps C (⟨d,.conv k x,none⟩ :: r) σ K = wpE C (aN (.conv k x) σ) d r K:=rfl
theorem aSA (x : AX) : wpOps C (⟨d,.b2s x,none⟩ :: r) σ K = wpE C (aN (.b2s x) σ) d r K:=rfl
theorem aKP (n : Nat) (x : AX) (a b : Option AX) : wpOps C (⟨d,.slice n x a b,none⟩ :: r) σ K = wpE C (aN (.slice n x a b) σ) d r K:=rfl
theorem aH5 (m n : Nat) (x : AX) (a b : Option AX) : wpOps C (⟨d,.qP m n x a b,none⟩ :: r) σ K = wpE C (aN (.qP m n x a b) σ) d r K:=rfl
theorem aNH (i o n : Nat) (x : AX) : wpOps C (⟨d,.aJ6 i o n x,none⟩ :: r) σ K = wpE C (aN (.aJ6 i o n x) σ) d r K:=rfl
theorem aNI (a : Option Nat) (n : Nat) (x i : AX) : wpOps C (⟨d,.aFS a n x i,none⟩ :: r) σ K = wpE C (aN (.aFS a n x i) σ) d r K:=rfl
theorem aSB (x : AX) (i : Nat) : wpOps C (⟨d,.ext x i,none⟩ :: r) σ K = wpE C (aN (.ext x i) σ) d r K:=rfl
theorem aSC (f : Nat) (xs : List AX) : wpOps C (⟨d,.mkf f xs,none⟩ :: r) σ K = wpE C (aN (.mkf f xs) σ) d r K:=rfl
theorem aSD (a b : Nat) (z : AV) (x : AX) : wpOps C (⟨d,.mks a b z x,none⟩ :: r) σ K = wpE C (aN (.mks a b z x) σ) d r K:=rfl
theorem aSE (a b : Nat) (x y : AX) : wpOps C (⟨d,.app a b x y,none⟩ :: r) σ K = wpE C (aN (.app a b x y) σ) d r K:=rfl
theorem aNJ (a b : Nat) (x : AX) : wpOps C (⟨d,.aHZ a b x,none⟩ :: r) σ K = wpE C (aN (.aHZ a b x) σ) d r K:=rfl
theorem aSF (a : Option Nat) (x : AX) : wpOps C (⟨d,.len a x,none⟩ :: r) σ K = wpE C (aN (.len a x) σ) d r K:=rfl
theorem aNK (x : AX) : wpOps C (⟨d,.lens x,none⟩ :: r) σ K = wpE C (aN (.lens x) σ) d r K:=rfl
theorem aNL (n : Nat) (x y : AX) : wpOps C (⟨d,.copy n x y,none⟩ :: r) σ K = wpE C (aN (.copy n x y) σ) d r K:=rfl
theorem aSG (xs : List AX) : wpOps C (⟨d,.min xs,none⟩ :: r) σ K = wpE C (aN (.min xs) σ) d r K:=rfl
theorem aSH (xs : List AX) : wpOps C (⟨d,.max xs,none⟩ :: r) σ K = wpE C (aN (.max xs) σ) d r K:=rfl
theorem mV (o : AOp) (t : Nat) (b : Bool) : wpOps C (⟨d,o,some (t,b)⟩ :: r) σ K = yD C (get σ.env t) b d o r σ K:=rfl
theorem a5H (o : AOp) : yD C (.sc (.bool true)) true d o r σ K = wpOps C (⟨d,o,none⟩ :: r) σ K:=by simp [yD,wpG]
theorem a5I (o : AOp) : yD C (.sc (.bool false)) false d o r σ K = wpOps C (⟨d,o,none⟩ :: r) σ K:=by simp [yD,wpG]
theorem a5J (o : AOp) : yD C (.sc (.bool true)) false d o r σ K = wpOps C r (σ.put d (.tup [])) K:=by simp [yD,wpG]
theorem a5K (o : AOp) : yD C (.sc (.bool false)) true d o r σ K = wpOps C r (σ.put d (.tup [])) K:=by simp [yD,wpG]
theorem a83 (b : Bool) (o : AOp) : yD C (.tup []) b d o r σ K = wpOps C r (σ.put d (.tup [])) K:=rfl
theorem aUO {b' : Bool} {o : AOp} (h1 : b' = true → wpOps C (⟨d,o,none⟩ :: r) σ K) (h2 : b' = false → wpOps C r (σ.put d (.tup [])) K) : yD C (.sc (.bool b')) true d o r σ K :=
 ⟨h1,fun h => h2 (by simpa using h)⟩
theorem aSI {b' : Bool} {o : AOp} (h1 : b' = true → wpOps C r (σ.put d (.tup [])) K) (h2 : b' = false → wpOps C (⟨d,o,none⟩ :: r) σ K) : yD C (.sc (.bool b')) false d o r σ K :=
 ⟨h2,fun h => h1 (by simpa using h)⟩
variable {e : List (Nat × AV)} {hl : List (Nat × Option AV)} {hb : Nat → Option AV} {n : Nat}
theorem aUP (i : Nat) (v : AV) : St.put ⟨e,hl,hb,n⟩ (some i) v = ⟨(i,v) :: e,hl,hb,n⟩:=rfl
theorem aUQ (v : AV) : St.put ⟨e,hl,hb,n⟩ none v = ⟨e,hl,hb,n⟩:=rfl
theorem bC1 (i : Nat) : St.ev ⟨e,hl,hb,n⟩ (.t i) = get e i:=rfl
theorem bC2 (v : AV) : St.ev ⟨e,hl,hb,n⟩ (.c v) = v:=rfl
theorem a84 : St.H ⟨e,hl,hb,n⟩ = look hl hb:=rfl
theorem aZP (i : Nat) (t : Option AV) : St.n7 ⟨e,hl,hb,n⟩ i t = ⟨e,sI hl i t,hb,n⟩:=rfl
theorem a5L (t : AV) : St.new ⟨e,hl,hb,n⟩ t = ⟨e,(n,some t) :: hl,hb,n + 1⟩:=rfl
theorem aUR (i : Nat) (v : AV) : get ((i,v) :: e) i = v:=by simp [get]
theorem aKQ (i k : Nat) (v : AV) : get ((k,v) :: e) i = if i = k then v else get e i:=rfl
theorem aGT (i k : Nat) (v : Option AV) : look ((k,v) :: hl) hb i = if i = k then v else look hl hb i:=rfl
theorem aKR (i : Nat) : look [] hb i = hb i:=rfl
theorem aUS (i : Nat) (t : Option AV) : sI [] i t = [(i,t)]:=rfl
theorem aSJ (i k : Nat) (v t : Option AV) : sI ((k,v) :: hl) i t = if i = k then (k,t) :: hl else (k,v) :: sI hl i t:=rfl
end
structure KK (K P : St → Prop) : Prop where
 out : ∀ σ,P σ → K σ
def cnd (v : AV) (p q : Prop) : Prop :=
 match v with
 | .sc (.bool b) => (b = true → p) ∧ (b = false → q)
 | .dV => p ∧ q
 | _ => False
section
variable {k : IntKind} {a b : Int}
theorem aNM : gY .add k a b = some (.int k (k.wrap (a + b))):=rfl
theorem aNN : gY .sub k a b = some (.int k (k.wrap (a - b))):=rfl
theorem aNO : gY .mul k a b = some (.int k (k.wrap (a * b))):=rfl
theorem aNP (h : ¬ b = 0) : gY .quo k a b = some (.int k (k.wrap (a.tdiv b))):=by simp [gY,h]
theorem aNQ (h : ¬ b = 0) : gY .rem k a b = some (.int k (a.tmod b)):=by simp [gY,h]
theorem aNR : gY .and k a b = some (.int k (eH .and k a b)):=rfl
theorem aSK : gY .or k a b = some (.int k (eH .or k a b)):=rfl
theorem aNS : gY .xor k a b = some (.int k (eH .xor k a b)):=rfl
theorem aNT : gY .eql k a b = some (.bool (decide (a = b))):=rfl
theorem aNU : gY .neq k a b = some (.bool (decide (¬ a = b))):=rfl
theorem aNV : gY .lss k a b = some (.bool (decide (a < b))):=rfl
theorem aNW : gY .leq k a b = some (.bool (decide (a ≤ b))):=rfl
theorem aNX : gY .gtr k a b = some (.bool (decide (a > b))):=rfl
theorem aNY : gY .geq k a b = some (.bool (decide (a ≥ b))):=rfl
theorem wrap_i64 {x : Int} (h1 : -9223372036854775808 ≤ x) (h2 : x ≤ 9223372036854775807) : IntKind.i64.wrap x = x:=IntWalk.i64_in x ⟨h1,h2⟩
theorem wrap_u32 {x : Int} (h1 : 0 ≤ x) (h2 : x ≤ 4294967295) : IntKind.u32.wrap x = x:=IntWalk.u32_in x ⟨h1,h2⟩
end
section
theorem aUT (v : Value) : AV.isAgg (.sc v) = false:=rfl
theorem aZQ (v : Value) : AV.size (.sc v) = 1:=rfl
theorem aKS (v : Value) : AV.storable (.sc v) = true:=rfl
theorem aSL (n : Nat) (ts : List AV) : AV.isAgg (.agg n ts) = true:=rfl
theorem aUU (n : Nat) (ts : List AV) : AV.size (.agg n ts) = n:=rfl
theorem aH6 (n : Nat) (ts : List AV) : AV.storable (.agg n ts) = true:=rfl
theorem aSM (n es : Nat) (ts : List AV) : AV.isAgg (.arr n es ts) = true:=rfl
theorem aUV (n es : Nat) (ts : List AV) : AV.size (.arr n es ts) = n * es:=rfl
theorem aH7 (n es : Nat) (ts : List AV) : AV.storable (.arr n es ts) = true:=rfl
theorem aSN (x : Bool) (es : Nat) (ts : List AV) : AV.isAgg (.fro x es ts) = false:=rfl
theorem aUW (x : Bool) (es : Nat) (ts : List AV) : AV.size (.fro x es ts) = 1:=rfl
theorem aH8 (x : Bool) (es : Nat) (ts : List AV) : AV.storable (.fro x es ts) = true:=rfl
theorem aNZ (t : AV) : AV.isAgg (.cC t) = false:=rfl
theorem aSO (t : AV) : AV.size (.cC t) = 1:=rfl
theorem aFW (t : AV) : AV.storable (.cC t) = true:=rfl
theorem aUX (id : Nat) (path : List Nat) (off k len es : Nat) : AV.isAgg (.sl id path off k len es) = false:=rfl
theorem aZR (id : Nat) (path : List Nat) (off k len es : Nat) : AV.size (.sl id path off k len es) = 1:=rfl
theorem aKT (id : Nat) (path : List Nat) (off k len es : Nat) : AV.storable (.sl id path off k len es) = true:=rfl
theorem aSP (id : Nat) (path : List Nat) (off : Nat) : AV.isAgg (.ptr id path off) = false:=rfl
theorem aUY (id : Nat) (path : List Nat) (off : Nat) : AV.size (.ptr id path off) = 1:=rfl
theorem aH9 (id : Nat) (path : List Nat) (off : Nat) : AV.storable (.ptr id path off) = true:=rfl
theorem aSQ (f : Nat) (caps : List AV) : AV.isAgg (.clo f caps) = false:=rfl
theorem aUZ (f : Nat) (caps : List AV) : AV.size (.clo f caps) = 1:=rfl
theorem aIA (f : Nat) (caps : List AV) : AV.storable (.clo f caps) = true:=rfl
end
end Go.Ra
namespace Go.Ra
set_option linter.unusedVariables false
set_option linter.unusedSimpArgs false
def Pass (σ : St) (g : Option (Nat × Bool)) (y : Bool) : Prop :=
 match g with
 | none => y = true
 | some (t,b) =>
  match get σ.env t with
  | .sc (.bool b') => y = decide (b' = b)
  | .tup [] => y = false
  | _ => False
inductive Stp (C : Orc) (σ : St) : AG → AV → St → Prop
 | op {d : Option Nat} {o : AOp} {g : Option (Nat × Bool)} {v : AV} {τ : St} : Pass σ g true → aN o σ = some (v,τ) → Stp C σ ⟨d,o,g⟩ v τ
 | call {d : Option Nat} {f : Nat} {args : List AX} {g : Option (Nat × Bool)} {v : AV} {τ : St} : Pass σ g true → C f (args.map σ.ev) σ v τ → Stp C σ ⟨d,.call f args,g⟩ v (σ.back τ)
 | mD {d : Option Nat} {x : AX} {f : Nat} {caps : List AV} {args : List AX} {g : Option (Nat × Bool)} {v : AV} {τ : St} : Pass σ g true → σ.ev x = .clo f caps → C f (args.map σ.ev ++ caps) σ v τ → τ.hl = σ.hl ∧ τ.hb = σ.hb ∧ τ.n = σ.n →
   Stp C σ ⟨d,.mD x args,g⟩ v (σ.back τ)
 | j6 {d : Option Nat} {f : Nat} {args : List AX} {g : Option (Nat × Bool)} {v : AV} : Pass σ g true → (∀ σ',C f (args.map σ.ev) σ' v σ') → Stp C σ ⟨d,.j6 f args,g⟩ v σ
 | skip {d : Option Nat} {o : AOp} {g : Option (Nat × Bool)} : Pass σ g false → Stp C σ ⟨d,o,g⟩ (.tup []) σ
section
variable {C : Orc} {σ : St}
theorem aGU {d : Option Nat} {o : AOp} {g : Option (Nat × Bool)} {r : List AG} {K : St → Prop} (hp : Pass σ g true) (h : wpOps C (⟨d,o,none⟩ :: r) σ K) : ∃ v τ,Stp C σ ⟨d,o,g⟩ v τ ∧ wpOps C r (τ.put d v) K:=by
 unfold wpOps at h
 simp only at h
 split at h
 ·obtain ⟨v,τ,h1,h2⟩:=h
  exact ⟨v,_,.call hp h1,h2⟩
 ·split at h
  ·rename_i hx
   obtain ⟨v,τ,h1,h3,h2⟩:=h
   exact ⟨v,_,.mD hp hx h1 h3,h2⟩
  ·cases h
 ·obtain ⟨v,h1,h2⟩:=h
  exact ⟨v,_,.j6 hp h1,h2⟩
 ·split at h
  ·rename_i hs
   exact ⟨_,_,.op hp hs,h⟩
  ·cases h
theorem aDI {ag : AG} {r : List AG} {K : St → Prop} (h : wpOps C (ag :: r) σ K) : ∃ v τ,Stp C σ ag v τ ∧ wpOps C r (τ.put ag.d v) K:=by
 obtain ⟨d,o,g⟩:=ag
 cases g with
 | none => exact aGU (by simp [Pass]) h
 | some g =>
  obtain ⟨t,b⟩:=g
  rw [mV] at h
  unfold yD wpG at h
  split at h
  ·rename_i b' hb
   by_cases hbb : b' = b
   ·exact aGU (by simp [Pass,hb,hbb]) (h.1 hbb)
   ·exact ⟨_,σ,.skip (by simp [Pass,hb,hbb]),h.2 hbb⟩
  ·rename_i hb
   exact ⟨_,σ,.skip (by simp [Pass,hb]),h⟩
  ·cases h
end
theorem uW : ∀ (hl : List (Nat × Option AV)) (hb : Nat → Option AV) (i : Nat) (t : Option AV),look (sI hl i t) hb = upd (look hl hb) i t
 | [],hb,i,t => by
  funext j
  simp only [sI,look,upd]
 |(k,v) :: hl,hb,i,t => by
  have ih:=uW hl hb i t
  funext j
  simp only [sI]
  split
  ·rename_i hik
   subst hik
   simp only [look,upd]
   split <;> rfl
  ·rename_i hik
   simp only [look,upd,ih]
   by_cases hjk : j = k
   ·subst hjk
    rw [if_pos rfl,if_neg (fun h => hik h.symm),if_pos rfl]
   ·rw [if_neg hjk,if_neg hjk]
theorem Chg.wU (c : Chg) (σ : St) : (c.st σ).H = c.H σ.n σ.H:=by
 cases c with
 | same => rfl
 | new t => funext j;simp [Chg.st,Chg.H,St.new,St.H,look,upd]
 | put k t =>
  simp only [Chg.st,Chg.H,St.n7,St.H,uW]
  funext j
  by_cases hj : j = k
  ·subst hj;rw [bN,bN]
  ·rw [bU _ _ hj,bU _ _ hj,bU _ _ hj]
 | move k t =>
  simp only [Chg.st,Chg.H,St.n7,St.H,St.new]
  funext j
  simp only [look,upd,uW]
theorem Chg.a5M (c : Chg) (σ : St) : (c.st σ).env = σ.env:=by cases c <;> rfl
theorem Chg.bC3 (c : Chg) (σ : St) : (c.st σ).n = if c.lB = true then σ.n + 1 else σ.n:=by cases c <;> rfl
def Own (fr : Fr) (G : Gh) (w : World) (σ : St) : Prop:=Wf G w σ.H (fun i => σ.n ≤ i) ∧ sO fr G w σ.H
def iM (fr : Fr) (G : Gh) (w : World) (G' : Gh) (w' : World) (τ : St) : Prop:=Nxt fr G w G' w' τ.H (fun i => τ.n ≤ i)
theorem iM.own {fr : Fr} {G G' : Gh} {w w' : World} {τ : St} (h : iM fr G w G' w' τ) : Own fr G' w' τ:=⟨h.wf,h.fr⟩
theorem iM.mono {fr : Fr} {G G' : Gh} {w w' : World} {τ : St} (h : iM fr G w G' w' τ) {t : AV} {v : Value} (hr : bL w G.F G.ρ t v) : bL w' G'.F G'.ρ t v:=hr.mono h.ext h.leF h.leR
theorem Own.goto {fr : Fr} {G : Gh} {w : World} {σ : St} (h : Own fr G w σ) : iM fr G w G w σ:=Nxt.same h.1 h.2 (hJ.refl w)
def aGV (P : Program) (f : Nat) : Prop := ∃ fn, P.funcs[f]? = some fn ∧ (fn.name == "runtime.NumGoroutine") = false ∧ fn.body.isNone = false
def oC (P : Program) (C : Orc) : Prop :=
 ∀ f args σ v τ,C f args σ v τ → aGV P f ∧ ∀ fr G w vs,Own fr G w σ → bR w G.F G.ρ args vs →
  Calls P f vs.toArray w fun e w' => ∃ u G',e = .returned u ∧ iM fr G w G' w' τ ∧ bL w' G'.F G'.ρ v u
section
variable {P : Program}
theorem aZS {w : World} {F : Nat → Prop} {ρ : Nat → Option Loc} {v : Value} {t : AV} (h : trV v = some t) : bL w F ρ t v:=by
 unfold trV at h
 split at h
 ·simp only [zaA] at h;subst h;exact .one (.sc rfl) rfl
 ·simp only [zaA] at h;subst h;exact .one (.sc rfl) rfl
 ·simp only [zaA] at h;subst h;exact .one (.sc rfl) rfl
 ·simp only [zaA] at h;subst h;exact .one (.gW (fun _ => rfl)) rfl
 ·simp only [zaA] at h;subst h;exact .one (.sc rfl) rfl
 ·cases h
theorem aPQ {w : World} {G : Gh} {σ : St} {a : Act} {x : Operand} {x' : AX} (h : trX x = some x') (ht : ∀ t,x = .tmp t → bL w G.F G.ρ (get σ.env t) (a.tmps.getD t undef)) : bL w G.F G.ρ (σ.ev x') (a.eval x):=by
 unfold trX at h
 split at h
 ·simp only [zaA] at h;subst h
  exact ht _ rfl
 ·split at h
  ·rename_i hv
   simp only [zaA] at h;subst h
   exact aZS hv
  ·cases h
 ·simp only [zaA] at h;subst h
  exact .one (.clo .nil) rfl
 ·cases h
theorem aU0 {w : World} {G : Gh} {σ : St} {a : Act} {o : Op} (h : ∀ t,Operand.tmp t ∈ o.operands → bL w G.F G.ρ (get σ.env t) (a.tmps.getD t undef)) : aPM σ G w a o :=
 fun x x' hx hx' => aPQ hx' fun t ht => h t (ht ▸ hx)
theorem aSR {ops : Array Oper} {o : Oper} {t : Nat} (h : Operand.tmp t ∈ o.op.operands) : t ∈ o.looksAt ops:=by
 unfold Oper.looksAt
 refine List.mem_append_left _ (List.mem_filterMap.2 ⟨.tmp t, ?_,rfl⟩)
 simpa using h
theorem mW {w : World} {G : Gh} {σ : St} {a : Act} {ops : Array Oper} {o : Oper} {g : Option (Nat × Bool)} {y : Bool} (hg : trG ops o.guard = some g) (hp : Pass σ g y)
  (hr : ∀ t ∈ o.looksAt ops,bL w G.F G.ρ (get σ.env t) (a.tmps.getD t undef)) : Region.wanted o (yielded ops a.tmps) = y:=by
 unfold trG at hg
 unfold Region.wanted
 split at hg
 ·rename_i h0
  simp only [zaA] at hg
  subst hg
  rw [h0]
  simp only [Pass] at hp
  rw [hp]
 ·rename_i j b h0
  split at hg
  ·rename_i t ht
   simp only [zaA] at hg
   subst hg
   rw [h0]
   have h1:=hr t (by
    unfold Oper.looksAt
    refine List.mem_append_right _ ?_
    rw [h0]
    simp only [ht,Option.toList_some,List.mem_singleton])
   simp only [Pass] at hp
   simp only [yielded,ht,Option.bind_some]
   split at hp
   ·rename_i b' hb
    rw [hb] at h1
    obtain ⟨h2,_⟩:=h1.kZ
    rw [hp]
    rw [Array.getD_eq_getD_getElem?] at h2
    cases hq : a.tmps[t]? with
    | none => rw [hq] at h2;cases h2
    | some q =>
     rw [hq] at h2
     simp only [Option.getD_some] at h2
     subst h2
     cases b' <;> cases b <;> rfl
   ·rename_i hb
    rw [hb] at h1
    obtain ⟨vs,h2,h3⟩:=h1.aCY
    cases h3
    rw [hp]
    rw [Array.getD_eq_getD_getElem?] at h2
    cases hq : a.tmps[t]? with
    | none => rfl
    | some q =>
     rw [hq] at h2
     simp only [Option.getD_some] at h2
     subst h2
     rfl
   ·cases hp
  ·cases hg
theorem bR.append {w : World} {F : Nat → Prop} {ρ : Nat → Option Loc} : ∀ {ts us : List AV} {vs xs : List Value},bR w F ρ ts vs → bR w F ρ us xs → bR w F ρ (ts ++ us) (vs ++ xs)
 | _,_,_,_,.nil,h => h
 | _,_,_,_,.cons h1 h2,h => .cons h1 (bR.append h2 h)
theorem bR.aPR {w : World} {F : Nat → Prop} {ρ : Nat → Option Loc} : ∀ {ts : List AV} {cs : List Value},jM w F ρ ts cs → bR w F ρ ts cs
 | _,_,.nil => .nil
 | _,_,.cons h1 h2 h3 => .cons (.one h1 h2) (bR.aPR h3)
theorem aDJ {o : Oper} {c : Call} {y : Operand} {a : Act} {w : World} {f : Nat} {cs : List Value} (ho : o.op = .call c) (hc : c.callee = .value y) (hy : a.eval y = .func (.func f) #[] cs.toArray) (hk : aGV P f) :
  (execOp a.eval o).run P w = .ok (.enter f (c.args.toList.map a.eval ++ cs).toArray) w:=by
 obtain ⟨fn,h1,h2,h3⟩:=hk
 have e : (c.args.toList.map a.eval ++ cs).toArray = c.args.map a.eval ++ cs.toArray:=by
  apply Array.ext'
  simp
 rw [e]
 have h2' : ¬ fn.name = "runtime.NumGoroutine" := by simpa using h2
 have h3' : ¬ fn.body = none:=by
  intro h4
  rw [h4] at h3
  cases h3
 simp [execOp,ho,resolve,hc,hy,Deferred.ofValue,invoke,callFunc,h1,h2',h3']
theorem aSS {C : Orc} (hC : oC P C) {ops : Array Oper} {o : Oper} {ao : AOp} {g : Option (Nat × Bool)} (htr : TrO P o.op ao) (hg : trG ops o.guard = some g) {σ τ : St} {v : AV} (h : Stp C σ ⟨o.dst,ao,g⟩ v τ)
  {fr : Fr} {G : Gh} {w : World} {a : Act} (hw : Own fr G w σ) (hr : ∀ t ∈ o.looksAt ops,bL w G.F G.ρ (get σ.env t) (a.tmps.getD t undef)) {K : Act → World → Prop} {Q : Exit → Act → World → Prop}
  (hK : ∀ u w' G',iM fr G w G' w' τ → bL w' G'.F G'.ρ v u → K (a.put o.dst u) w') :
  if Region.wanted o (yielded ops a.tmps) = true then o.wp P a w K Q else K (a.put o.dst undef) w:=by
 have hor : aPM σ G w a o.op:=aU0 fun t ht => hr t (aSR ht)
 cases h with
 | op hp hs =>
  rw [if_pos (mW hg hp hr)]
  obtain ⟨c,rfl,hk,h1⟩:=htr.1 σ τ v hs
  obtain ⟨u,w',G',hrun,hn,hrel⟩:=h1 fr o G w σ.H (fun i => σ.n ≤ i) a rfl hw.1 hw.2 hor (fun k t h => h) (fun _ => zaF _)
  have hgo : iM fr G w G' w' (c.st σ):=by
   unfold iM
   rw [c.wU]
   refine ⟨⟨fun i hi => hn.wf.free i ?_,hn.wf.fsz,hn.wf.blk,hn.wf.dis⟩,hn.fr,hn.ext,hn.leF,hn.leR⟩
   rw [c.bC3] at hi
   split at hi
   ·exact ⟨by omega,fun _ => by omega⟩
   ·rename_i hne
    exact ⟨hi,fun h => absurd h hne⟩
  unfold Oper.wp
  rcases hrun with hrun | ⟨hrun,rfl⟩
  ·rw [hrun];exact hK u w' G' hgo hrel
  ·rw [hrun];exact hK undef w' G' hgo hrel
 | call hp hc =>
  rw [if_pos (mW hg hp hr)]
  obtain ⟨c,y,ho,hcal,hor2⟩:=(htr.2 rfl)
  rcases hor2 with ⟨f',args',rfl,hargs,heq | heq⟩ | ⟨x',args',hy,hargs,heq⟩
  ·simp only [AOp.call.injEq] at heq
   obtain ⟨rfl,rfl⟩:=heq
   have h1:=bR.xZ (σ:=σ) (G:=G) (w:=w) (a:=a) hargs fun x x' hx hx' => hor x x' (by rw [ho];simp [Op.operands,Call.operands,hcal];first | exact .inr (by simpa using hx) | exact .inl (by simpa using hx) | simpa using hx) hx'
   obtain ⟨hkn,h2⟩:=hC _ _ _ _ _ hc
   have h3:=h2 fr G w _ hw h1
   unfold Oper.wp
   rw [aDJ ho hcal (cs:=[]) rfl hkn,List.append_nil]
   exact h3.mono fun e w' ⟨u,G',he,hgo,hrel⟩ => by subst he;exact hK u w' G' hgo hrel
  ·cases heq
  ·cases heq
 | mD hp hx hc _ =>
  rw [if_pos (mW hg hp hr)]
  obtain ⟨c,y,ho,hcal,hor2⟩:=(htr.2 rfl)
  rcases hor2 with ⟨f',args',rfl,hargs,heq | heq⟩ | ⟨x',args',hy,hargs,heq⟩
  ·cases heq
  ·cases heq
  ·simp only [AOp.mD.injEq] at heq
   obtain ⟨rfl,rfl⟩:=heq
   have h1:=bR.xZ (σ:=σ) (G:=G) (w:=w) (a:=a) hargs fun x x' hx hx' => hor x x' (by rw [ho];simp [Op.operands,Call.operands,hcal];first | exact .inr (by simpa using hx) | exact .inl (by simpa using hx) | simpa using hx) hx'
   have hyr:=hor y _ (by rw [ho];simp [Op.operands,Call.operands,hcal]) hy
   rw [hx] at hyr
   obtain ⟨cs,hyv,hcs⟩:=hyr.aPL
   obtain ⟨hkn,h2⟩:=hC _ _ _ _ _ hc
   have h3:=h2 fr G w _ hw (h1.append (.aPR hcs))
   unfold Oper.wp
   rw [aDJ ho hcal hyv hkn]
   exact h3.mono fun e w' ⟨u,G',he,hgo,hrel⟩ => by subst he;exact hK u w' G' hgo hrel
 | j6 hp hc =>
  rw [if_pos (mW hg hp hr)]
  obtain ⟨c,y,ho,hcal,hor2⟩:=(htr.2 rfl)
  rcases hor2 with ⟨f',args',rfl,hargs,heq | heq⟩ | ⟨x',args',hy,hargs,heq⟩
  ·cases heq
  ·simp only [AOp.j6.injEq] at heq
   obtain ⟨rfl,rfl⟩:=heq
   have h1:=bR.xZ (σ:=σ) (G:=G) (w:=w) (a:=a) hargs fun x x' hx hx' => hor x x' (by rw [ho];simp [Op.operands,Call.operands,hcal];first | exact .inr (by simpa using hx) | exact .inl (by simpa using hx) | simpa using hx) hx'
   obtain ⟨hkn,h2⟩:=hC _ _ _ _ _ (hc σ)
   have h3:=h2 fr G w _ hw h1
   unfold Oper.wp
   rw [aDJ ho hcal (cs:=[]) rfl hkn,List.append_nil]
   exact h3.mono fun e w' ⟨u,G',he,hgo,hrel⟩ => by subst he;exact hK u w' G' hgo hrel
  ·cases heq
 | skip hp =>
  rw [if_neg (by rw [mW hg hp hr];simp)]
  exact hK undef w G hw.goto (.tup .nil)
end
theorem q0 {C : Orc} {K K' : St → Prop} (hK : ∀ σ,K σ → K' σ) : ∀ (l : List AG) (σ : St),wpOps C l σ K → wpOps C l σ K'
 | [],σ,h => hK σ h
 | ⟨d,o,g⟩ :: r,σ,h => by
  have ih : ∀ σ,wpOps C r σ K → wpOps C r σ K':=q0 hK r
  have run : ∀ o,wpOps C (⟨d,o,none⟩ :: r) σ K → wpOps C (⟨d,o,none⟩ :: r) σ K':=fun o h => by
   unfold wpOps at h ⊢
   simp only at h ⊢
   split at h
   ·obtain ⟨v,τ,h1,h2⟩:=h
    exact ⟨v,τ,h1,ih _ h2⟩
   ·split at h
    ·obtain ⟨v,τ,h1,h3,h2⟩:=h
     exact ⟨v,τ,h1,h3,ih _ h2⟩
    ·cases h
   ·obtain ⟨v,h1,h2⟩:=h
    exact ⟨v,h1,ih _ h2⟩
   ·split at h
    ·exact ih _ h
    ·cases h
  cases g with
  | none => exact run o h
  | some g =>
   obtain ⟨t,b⟩:=g
   rw [mV] at h ⊢
   unfold yD wpG at h ⊢
   split at h
   ·exact ⟨fun hb => run o (h.1 hb),fun hb => ih _ (h.2 hb)⟩
   ·exact ih _ h
   ·cases h
end Go.Ra
namespace Go.Ra
set_option linter.unusedVariables false
set_option linter.unusedSimpArgs false
def AOp.eff (q : Nat → Bool) : AOp → Bool
 | .box _ => true
 | .store .. => true
 | .app .. => true
 | .copy .. => true
 | .mks .. => true
 | .call f _ => !q f
 | _ => false
def AOp.aA6 (q : Nat → Bool) (o : AOp) : Bool :=
 o.eff q || match o with
  | .load .. => true
  | .b2s .. => true
  | .aHZ .. => true
  | .aM6 .. => true
  | .qP .. => true
  | .call .. => true
  | .mD .. => true
  | .j6 .. => true
  | _ => false
def eK (o : Oper) : List Nat:=(o.after.toList.filter (Region.binds .any)).map (·.on)
def aBW (d : Option Nat) (l : List Nat) : Bool :=
 match d with
 | some d => l.contains d
 | none => false
def aIB : AV → Bool
 | .sc _ => true
 | .fro .. => true
 | .clo _ [] => true
 | _ => false
def rdC (q : Nat → Bool) (ops : Array Oper) (x : Oper) (g : AG) : Bool :=
 match g.o with
 | .load _ _ (.t i) => (x.looksAt ops).contains i
 | .call f args => q f && args.all fun y =>
  match y with
  | .t i => (x.looksAt ops).contains i
  | .c v => aIB v
 | .j6 _ _ => true
 | _ => false
def alC (q : Nat → Bool) (g : AG) : Bool :=
 match g.o with
 | .box _ => true
 | .mks .. => true
 | .app _ _ (.c (.fro true _ _)) _ => true
 | .call f _ => q (f + 1000000)
 | _ => false
def uX (q : Nat → Bool) (ops : Array Oper) (x : Oper) (g : AG) (y : Oper) (h : AG) : Bool:=(rdC q ops x g && alC q h) || (alC q g && rdC q ops y h)
def gL (f : Nat → Bool) : Nat → Bool
 | 0 => true
 | n + 1 => f n && gL f n
theorem mJ {f : Nat → Bool} : ∀ {n : Nat},gL f n = true → ∀ k,k < n → f k = true
 | 0,_,k,hk => by omega
 | n + 1,h,k,hk => by
  simp only [gL,zaG] at h
  by_cases hkn : k = n
  ·subst hkn;exact h.1
  ·exact mJ h.2 k (by omega)
def aDK (ops : Array Oper) (x y : Oper) : Bool:=aBW x.dst (y.looksAt ops) || aBW y.dst (x.looksAt ops)
def aDL (q : Nat → Bool) (ops : Array Oper) (x : Oper) (g : AG) (y : Oper) (h : AG) : Bool :=
 ((g.o.eff q && h.o.aA6 q) || (g.o.aA6 q && h.o.eff q)) && !uX q ops x g y h
def ldN (g : AG) : Option Nat :=
 match g.o with
 | .load _ _ (.t i) => some i
 | _ => none
def efN (g : AG) : Option Nat :=
 match g.o with
 | .store _ (.t i) _ => some i
 | .app _ _ (.t i) _ => some i
 | .copy _ (.t i) _ => some i
 | _ => none
def stays (ops : Array Oper) (k t : Nat) : Bool:=gL (fun j => match ops[j]? with | some o => decide (j < k) || !aBW o.dst [t] | none => true) ops.size
def aKU (ops : Array Oper) (k : Nat) (x : Oper) (g : AG) (j : Nat) (y : Oper) (h : AG) : Option (Nat × Nat) :=
 match ldN g,efN h with
 | some i,some a => if (x.looksAt ops).contains i && (y.looksAt ops).contains a && stays ops k i && stays ops j a then some (i,a) else none
 | _,_ => none
def rA (x y : Option Nat) : Bool :=
 match x,y with
 | some a,some b => decide (a ≠ b)
 | _,_ => true
mutual
def AV.flat : AV → Bool
 | .sc _ => true
 | .agg _ ts => AV.aDM ts
 | .arr _ _ ts => AV.aDM ts
 | .fro _ _ [] => true
 | _ => false
def AV.aDM : List AV → Bool
 | [] => true
 | t :: ts => t.flat && AV.aDM ts
end
def aPS (q : Nat → Bool) (ops : Array Oper) (l : List AG) (ms : Array Nat) (k : Nat) : Bool :=
 match ops[k]?,l[k]? with
 | some o,some ⟨_,.box (.c z),none⟩ => z.flat && (eK o).isEmpty && (o.looksAt ops).isEmpty && gL (fun m =>
   match ops[m]? with
   | some x => !(eK x).contains k || gL (fun j =>
    match l[j]? with
    | some g => !g.o.eff q || (ms.getD m 0).testBit j
    | none => true) k
   | none => true) ops.size
 | _,_ => false
def aST (p : Nat → Bool) : Nat → Option Nat
 | 0 => none
 | n + 1 => match aST p n with
  | some k => some k
  | none => if p n then some n else none
theorem aGW {p : Nat → Bool} : ∀ {n k : Nat},aST p n = some k → p k = true
 | 0,k,h => by cases h
 | n + 1,k,h => by
  simp only [aST] at h
  split at h
  ·rename_i k' hk
   simp only [zaA] at h
   subst h
   exact aGW hk
  ·split at h
   ·rename_i hp
    simp only [zaA] at h
    subst h
    exact hp
   ·cases h
def aN0 (q : Nat → Bool) (ops : Array Oper) (l : List AG) (ms : Array Nat) (f0 : Option Nat) (k j : Nat) : Option (List (Nat × Nat)) :=
 match ops[k]?,l[k]?,ops[j]?,l[j]? with
 | some y,some h,some x,some g =>
  if (!(ms.getD k 0).testBit j || (eK y).any fun e => e == j || (decide (j < e) && (ms.getD e 0).testBit j)) && ((ms.getD k 0).testBit j || !aDK ops x y) && rA x.dst y.dst then
   if (ms.getD k 0).testBit j || !aDL q ops x g y h || (f0 == some k && g.o.eff q) then some [] else
   match aKU ops j x g k y h,aKU ops k y h j x g with
   | some p,_ => some [p]
   | _,some p => some [p]
   | none,none => none
  else none
 | _,_,_,_ => none
def aU1 {α : Type} (f : Nat → Option (List α)) : Nat → Option (List α)
 | 0 => some []
 | n + 1 =>
  match f n,aU1 f n with
  | some a,some b => some (a ++ b)
  | _,_ => none
theorem aA7 {α : Type} {f : Nat → Option (List α)} : ∀ {n : Nat} {l : List α},aU1 f n = some l → ∀ k,k < n → ∃ a,f k = some a ∧ ∀ x ∈ a,x ∈ l
 | 0,l,h,k,hk => by omega
 | n + 1,l,h,k,hk => by
  simp only [aU1] at h
  split at h
  ·rename_i a b ha hb
   simp only [zaA] at h
   subst h
   by_cases hkn : k = n
   ·subst hkn;exact ⟨a,ha,fun x hx => List.mem_append_left _ hx⟩
   ·obtain ⟨c,h1,h2⟩:=aA7 hb k (by omega)
    exact ⟨c,h1,fun x hx => List.mem_append_right _ (h2 x hx)⟩
  ·cases h
def okR (q : Nat → Bool) (ops : Array Oper) (l : List AG) : Option (List (Nat × Nat)) :=
 let ms:=Region.before ops
 if gL (fun k => match ops[k]? with | some o => (eK o).all fun e => decide (e < k) | none => false) ops.size then
  aU1 (fun k => aU1 (aN0 q ops l ms (aST (aPS q ops l ms) ops.size) k) k) ops.size
 else none
def Env (G : Gh) (w : World) (σ : St) (a : Act) : Prop:=∀ t,bL w G.F G.ρ (get σ.env t) (a.tmps.getD t undef)
def Sim (fr : Fr) (G0 : Gh) (w0 : World) (nt : Nat) (σ : St) (a : Act) (w : World) : Prop :=
 ∃ G,iM fr G0 w0 G w σ ∧ Env G w σ a ∧ a.defers = [] ∧ a.tmps.size = nt
theorem iM.trans {fr : Fr} {G0 G G' : Gh} {w0 w w' : World} {σ τ : St} (h : iM fr G0 w0 G w σ) (k : iM fr G w G' w' τ) : iM fr G0 w0 G' w' τ :=
 ⟨k.wf,k.fr,h.ext.trans k.ext h.leF,fun b hb => k.leF b (h.leF b hb),fun i l hi => k.leR i l (h.leR i l hi)⟩
theorem iM.same {fr : Fr} {G0 G : Gh} {w0 w : World} {σ τ : St} (h : iM fr G0 w0 G w σ) (h1 : τ.hl = σ.hl) (h2 : τ.hb = σ.hb) (h3 : τ.n = σ.n) : iM fr G0 w0 G w τ:=by
 have e : τ.H = σ.H:=by unfold St.H;rw [h1,h2]
 unfold iM at *
 rw [e,h3];exact h
theorem iM.drew {fr : Fr} {G0 G : Gh} {w0 w : World} {σ : St} (h : iM fr G0 w0 G w σ) {w' : World} (hs : hJ w w') : iM fr G0 w0 G w' σ :=
 h.trans (Nxt.same h.wf h.fr hs)
theorem uY {a : Act} {nt d t : Nat} {u : Value} (hs : a.tmps.size = nt) (hd : d < nt) : (a.put (some d) u).tmps.getD t undef = if t = d then u else a.tmps.getD t undef:=by
 simp only [Act.put,Array.getD_eq_getD_getElem?,Array.getElem?_setIfInBounds]
 by_cases h : d = t
 ·subst h;simp [hs,hd]
 ·rw [if_neg h,if_neg (fun e => h e.symm)]
theorem put_defers {a : Act} {d : Option Nat} {u : Value} : (a.put d u).defers = a.defers:=by cases d <;> rfl
theorem aDN {a : Act} {d : Option Nat} {u : Value} : (a.put d u).tmps.size = a.tmps.size:=by cases d <;> simp [Act.put]
theorem aIC {σ : St} {d : Option Nat} {v : AV} {t : Nat} : get (σ.put d v).env t = if d = some t then v else get σ.env t:=by
 cases d with
 | none => simp [St.put]
 | some d =>
  simp only [St.put,get,zaA]
  by_cases h : d = t
  ·subst h;simp
  ·rw [if_neg h,if_neg (fun e => h e.symm)]
theorem wV {σ : St} {d : Option Nat} {v : AV} : (σ.put d v).hl = σ.hl:=by cases d <;> rfl
theorem wW {σ : St} {d : Option Nat} {v : AV} : (σ.put d v).hb = σ.hb:=by cases d <;> rfl
theorem aDO {σ : St} {d : Option Nat} {v : AV} : (σ.put d v).n = σ.n:=by cases d <;> rfl
theorem aZT {G G' : Gh} {fr : Fr} {w w' : World} {σ τ : St} {a : Act} {nt : Nat} {d : Option Nat} {v : AV} {u : Value} (he : Env G w σ a) (hs : a.tmps.size = nt) (hd : ∀ t,d = some t → t < nt) (hgo : iM fr G w G' w' τ) (henv : τ.env = σ.env) (hr : bL w' G'.F G'.ρ v u) :
  Env G' w' (τ.put d v) (a.put d u):=by
 intro t
 rw [aIC]
 cases d with
 | none =>
  rw [if_neg (by simp),henv]
  exact hgo.mono (he t)
 | some d =>
  rw [uY hs (hd d rfl)]
  by_cases h : d = t
  ·subst h;simpa using hr
  ·rw [if_neg (by simpa using h),if_neg (fun e => h e.symm),henv]
   exact hgo.mono (he t)
theorem pS {α β : Type} {f : α → Option β} {x : α} {xs : List α} {r : List β} (h : (x :: xs).mapM f = some r) : ∃ y ys,f x = some y ∧ xs.mapM f = some ys ∧ r = y :: ys:=by
 rw [List.mapM_cons] at h
 cases hx : f x with
 | none => rw [hx] at h;cases h
 | some y =>
  rw [hx] at h
  cases hxs : xs.mapM f with
  | none => rw [hxs] at h;cases h
  | some ys =>
   rw [hxs] at h
   exact ⟨y,ys,rfl,rfl,by simpa using h.symm⟩
theorem aDP {α β : Type} {f : α → Option β} : ∀ {l : List α} {r : List β},l.mapM f = some r → ∀ (k : Nat) (x : α),l[k]? = some x → ∃ y,r[k]? = some y ∧ f x = some y
 | [],r,h,k,x,hk => by simp at hk
 | a :: l,r,h,k,x,hk => by
  obtain ⟨y,ys,h1,h2,rfl⟩:=pS h
  cases k with
  | zero =>
   simp only [List.getElem?_cons_zero,zaA] at hk
   subst hk
   exact ⟨y,rfl,h1⟩
  | succ k => exact aDP h2 k x (by simpa using hk)
theorem sS {α β : Type} {f : α → Option β} : ∀ {l : List α} {r : List β},l.mapM f = some r → r.length = l.length
 | [],r,h => by simp at h;subst h;rfl
 | a :: l,r,h => by
  obtain ⟨y,ys,h1,h2,rfl⟩:=pS h
  simp [sS h2]
section
variable {P : Program} {z : ZM}
theorem fG {nt : Nat} {ops : Array Oper} {o : Oper} {g : AG} (h : gZ z P nt ops o = some g) : TrO P o.op g.o ∧ trG ops o.guard = some g.g ∧ g.d = o.dst ∧ ∀ t,o.dst = some t → t < nt:=by
 unfold gZ at h
 split at h
 ·rename_i ao g' h1 h2
  cases hd : o.dst with
  | none =>
   rw [hd] at h
   simp only [if_true,zaA] at h
   subst h
   exact ⟨aUK h1 z,h2,rfl,fun t ht => by cases ht⟩
  | some d =>
   rw [hd] at h
   simp only [zaK] at h
   split at h
   ·rename_i h3
    simp only [zaA] at h
    subst h
    refine ⟨aUK h1 z,h2,rfl,fun t ht => ?_⟩
    simp only [zaA] at ht
    subst ht
    exact h3
   ·cases h
 ·cases h
theorem Stp.env {C : Orc} {σ τ : St} {o : Op} {g : AG} {v : AV} (htr : TrO P o g.o) (h : Stp C σ g v τ) : τ.env = σ.env:=by
 cases h with
 | op hp hs =>
  obtain ⟨c,rfl,_⟩:=htr.1 σ τ v hs
  exact c.a5M σ
 | call hp hc => rfl
 | mD hp hx hc _ => rfl
 | j6 hp hc => rfl
 | skip hp => rfl
theorem aID {P : Program} {z : ZM} {C : Orc} (hC : oC P C) {nt : Nat} {ops : Array Oper} {o : Oper} {g : AG} (htr : gZ z P nt ops o = some g) {σ τ : St} {v : AV} (h : Stp C σ g v τ)
  {fr : Fr} {G : Gh} {w : World} {a : Act} (hw : Own fr G w σ) (hr : ∀ t ∈ o.looksAt ops,bL w G.F G.ρ (get σ.env t) (a.tmps.getD t undef)) {K : Act → World → Prop} {Q : Exit → Act → World → Prop}
  (hK : ∀ u w' G',iM fr G w G' w' τ → bL w' G'.F G'.ρ v u → K (a.put o.dst u) w') :
  if Region.wanted o (yielded ops a.tmps) = true then o.wp P a w K Q else K (a.put o.dst undef) w:=by
 obtain ⟨h1,h2,h3,h4⟩:=fG htr
 obtain ⟨d,ao,g'⟩:=g
 simp only at h1 h2 h3
 subst h3
 exact aSS hC h1 h2 h hw hr hK
theorem aGX {C : Orc} (hC : oC P C) {nt : Nat} {ops : Array Oper} {fr : Fr} {G0 : Gh} {w0 : World} {KA : St → Prop} {Q : Exit → Act → World → Prop} (hQ : ∀ σ a w,Sim fr G0 w0 nt σ a w → KA σ → Q .normal a w) :
  ∀ (l : List Oper) (r : List AG),l.mapM (gZ z P nt ops) = some r → ∀ (σ : St) (a : Act) (w : World),Sim fr G0 w0 nt σ a w → wpOps C r σ KA → wpList P ops Q l a w
 | [],r,hr,σ,a,w,hs,h => by
  simp at hr
  subst hr
  exact hQ σ a w hs h
 | o :: l,r,hr,σ,a,w,hs,h => by
  obtain ⟨g,gs,h1,h2,rfl⟩:=pS hr
  obtain ⟨v,τ,h3,h4⟩:=aDI h
  obtain ⟨t1,t2,t3,t4⟩:=fG h1
  obtain ⟨G,s1,s2,s3,s4⟩:=hs
  have:=aID hC h1 h3 (a:=a) s1.own (fun t _ => s2 t) (K:=wpList P ops Q l) (Q:=Q) (fun u w' G' hgo hrel => by
   refine aGX hC hQ l gs h2 (τ.put g.d v) _ w' ⟨G', ?_, ?_, ?_, ?_⟩ h4
   ·exact (s1.trans hgo).same wV wW aDO
   ·rw [t3]
    exact aZT s2 s4 t4 hgo (h3.env t1) hrel
   ·rw [put_defers];exact s3
   ·rw [aDN];exact s4)
  unfold wpList
  split
  ·rename_i hw
   rw [if_pos hw] at this
   exact .inl this
  ·rename_i hw
   rw [if_neg hw] at this
   exact this
end
theorem aN1 {q : Nat → Bool} {o : AOp} {σ τ : St} {v : AV} (he : o.eff q = false) (h : aN o σ = some (v,τ)) : τ = σ:=by
 cases o <;> simp only [AOp.eff] at he <;> first | (cases he;done) | skip
 all_goals
  simp only [aN] at h
  repeat' split at h
  all_goals first
   |(cases h;done)
   |(simp only [zaA,zaJ] at h;exact h.2.symm)
theorem aU2 {σ : St} {hl : List (Nat × Option AV)} {hb : Nat → Option AV} {n : Nat} : St.ev ⟨σ.env,hl,hb,n⟩ = σ.ev:=by
 funext x;cases x <;> rfl
theorem aN2 {q : Nat → Bool} {o : AOp} {σ τ : St} {v : AV} (he : o.aA6 q = false) (h : aN o σ = some (v,τ)) (hl : List (Nat × Option AV)) (hb : Nat → Option AV) (n : Nat) : aN o ⟨σ.env,hl,hb,n⟩ = some (v,⟨σ.env,hl,hb,n⟩):=by
 cases o <;> simp only [AOp.aA6,AOp.eff,Bool.or_false,Bool.or_true,Bool.true_or,Bool.or_eq_false_iff] at he <;> first | (cases he;done) | (cases he.2;done) | skip
 all_goals
  simp only [aN,aU2] at h ⊢
  repeat' split at h
  all_goals first
   |(cases h;done)
   |(simp only [zaA,zaJ] at h;obtain ⟨rfl,rfl⟩:=h;simp_all)
end Go.Ra
