/- From the loaded program's code to abstract code: all by computation. -/
import Derived.Test.YtfobbfdbojednaaRaA
import GoSem.Core.Layout
namespace Go.Ra
set_option linter.unusedVariables false

def eqPlain : Value → Value → Bool
  | .bool a, .bool b => a == b
  | .int k a, .int l b => decide (k = l) && decide (a = b)
  | .string a, .string b => a.data.toList == b.data.toList
  | .pointer none, .pointer none => true
  | _, _ => false

mutual
/-- Takes the cells of a zero value off a list. -/
def matchZ : AV → List Value → Option (List Value)
  | .sc v, u :: r => if eqPlain v u then some r else none
  | .fro _ _ [], .slice none 0 0 :: r => some r
  | .agg n ts, cs =>
    match matchZs ts cs with
    | some r => if cs.length = n + r.length then some r else none
    | none => none
  | .arr n es ts, cs => if ts.length = n then matchZe es ts cs else none
  | _, _ => none
def matchZs : List AV → List Value → Option (List Value)
  | [], cs => some cs
  | t :: ts, cs =>
    match matchZ t cs with
    | some r => matchZs ts r
    | none => none
def matchZe (es : Nat) : List AV → List Value → Option (List Value)
  | [], cs => some cs
  | t :: ts, cs =>
    match matchZ t cs with
    | some r => if t.size = es then matchZe es ts r else none
    | none => none
end

/-- The zero value of a type, as far as its shape goes. -/
def zeroS (P : Program) : Nat → TypeId → Option AV
  | 0, _ => none
  | d + 1, t =>
    match P.underlying t, P.info? t with
    | some (.int k), _ => some (.sc (.int k 0))
    | some .bool, _ => some (.sc (.bool false))
    | some .string, _ => some (.sc (.string ByteArray.empty))
    | some (.slice _), _ => some (.fro true 0 [])
    | some (.pointer _), _ => some (.sc (.pointer none))
    | some (.array n e), _ =>
      match zeroS P d e, P.info? e with
      | some z, some i => some (.arr n i.size (List.replicate n z))
      | _, _ => none
    | some (.struct fs), some i =>
      match fs.toList.mapM fun f => zeroS P d f.type with
      | some ts => some (.agg i.size ts)
      | none => none
    | _, _ => none

def aggV : Value → Bool
  | .agg _ => true
  | _ => false

/-- The zero value, held against the program's own. -/
def zeroT (P : Program) (t : TypeId) : Option AV :=
  match zeroS P 20 t, P.info? t with
  | some z, some i =>
    match i.zero with
    | some v =>
      match matchZ z v.cells.toList with
      | some [] => if z.isAgg == aggV v && z.idfree then some z else none
      | _ => none
    | none => none
  | _, _ => none

/-- Do a struct's fields lie one behind the other, each of the size of its zero value? -/
def fieldsOk (P : Program) : Nat → List Field → List AV → Bool
  | _, [], [] => true
  | o, f :: fs, z :: zs => decide (f.offset = o) && (match P.info? f.type with | some i => decide (i.size = z.size) | none => false) && fieldsOk P (o + z.size) fs zs
  | _, _, _ => false

def isAggT (P : Program) (t : TypeId) : Option Bool :=
  match P.underlying t with
  | some (.struct _) => some true
  | some (.array _ _) => some true
  | some _ => some false
  | none => none

def szT (P : Program) (t : TypeId) : Option Nat := (P.info? t).map (·.size)

def trV (v : Value) : Option AV :=
  match v with
  | .int k n => some (.sc (.int k n))
  | .bool b => some (.sc (.bool b))
  | .string s => some (.sc (.string s))
  | .slice none 0 0 => some (.fro true 0 [])
  | .pointer none => some (.sc (.pointer none))
  | _ => none

def trX (x : Operand) : Option AX :=
  match x with
  | .tmp i => some (.t i)
  | .const v =>
    match trV v with
    | some a => some (.c a)
    | none => none
  | .func f => some (.c (.clo f []))
  | .global _ => none

def trXs : List Operand → Option (List AX)
  | [] => some []
  | x :: xs =>
    match trX x, trXs xs with
    | some a, some b => some (a :: b)
    | _, _ => none

def trParts : List (Nat × Operand) → Option (List (Nat × AX))
  | [] => some []
  | p :: ps =>
    match trX p.2, trParts ps with
    | some a, some b => some ((p.1, a) :: b)
    | _, _ => none

def trXo (x : Option Operand) : Option (Option AX) :=
  match x with
  | none => some none
  | some x => (trX x).map some

def inOrder : Nat → List (Nat × Operand) → Bool
  | _, [] => true
  | k, p :: r => p.1 == k && inOrder (k + 1) r

def plainT (P : Program) (t : TypeId) : Bool :=
  match P.underlying t with
  | some (.int _) => true
  | some .string => true
  | _ => false

mutual
/-- The shape of a type whose values can be compared. -/
def shapeT (P : Program) : Nat → TypeId → Option TS
  | 0, _ => none
  | d + 1, t =>
    match P.underlying t with
    | some (.int _) => some .int
    | some .bool => some .bool
    | some (.struct fs) =>
      if P.stoodInHeld t then none else
      match shapeFs P d 0 fs.toList with
      | some l => some (.agg l)
      | none => none
    | some (.array n e) =>
      match shapeT P d e, szT P e with
      | some s, some es => some (.arr n es s)
      | _, _ => none
    | _ => none
def shapeFs (P : Program) : Nat → Nat → List Field → Option (List (Nat × TS))
  | _, _, [] => some []
  | 0, _, _ :: _ => none
  | d + 1, o, f :: fs =>
    if f.name = "_" ∨ f.offset ≠ o then none else
    match shapeT P d f.type, szT P f.type with
    | some s, some n =>
      match shapeFs P d (o + n) fs with
      | some l => some ((n, s) :: l)
      | none => none
    | _, _ => none
end

def isNilX : AX → Bool
  | .c (.fro true 0 []) => true
  | _ => false

def trEq (P : Program) (op : BinOp) (t : TypeId) (x y : AX) : Option AOp :=
  let neg := match op with | .eql => some false | .neq => some true | _ => none
  match neg with
  | none => none
  | some neg =>
    match P.underlying t with
    | some (.slice _) => if isNilX y then some (.eqn neg x) else none
    | _ =>
      if P.eqGuardType P.depth t then none else
      match shapeT P 60 t with
      | some s => some (.eqs neg s x y)
      | none => none

def sameLen : Operand → Operand → Bool
  | .tmp a, .tmp b => decide (a = b)
  | .const (.int j a), .const (.int k b) => decide (a = b) && decide (j = .i64) && decide (k = .i64)
  | _, _ => false

/-- The element type's size, bytes and zero value, of a slice type. -/
def elemT (P : Program) (t : TypeId) : Option (TypeId × TypeInfo) :=
  match P.underlying t with
  | some (.slice e) => (P.info? e).map fun i => (e, i)
  | _ => none

def arrT (P : Program) (t : TypeId) : Option (Nat × TypeInfo) :=
  match P.underlying t with
  | some (.array n e) => (P.info? e).map fun i => (n, i)
  | _ => none

def trApp (P : Program) (t : TypeId) (s x : AX) : Option AOp :=
  match elemT P t with
  | some (_, i) =>
    match i.zero with
    | some z => if z.cells.size = i.size then some (.app i.size i.bytes s x) else none
    | none => none
  | none => none

def trOp (P : Program) (o : Op) : Option AOp :=
  match o with
  | .move x => (trX x).map .mv
  | .assign x => (trX x).map .mv
  | .pick c a b =>
    match trX c, trX a, trX b with
    | some c, some a, some b => some (.pick c a b)
    | _, _, _ => none
  | .alloc t => (zeroT P t).map fun z => .box (.c z)
  | .box _ x => (trX x).map .box
  | .build t parts =>
    match P.underlying t, zeroT P t with
    | some (.struct fs), some (.agg n zs) =>
      match trParts parts.toList with
      | some ps => if fieldsOk P 0 fs.toList zs then some (.build n zs ps) else none
      | none => none
    | some (.array _ el), some (.arr n es zs) =>
      match trXs (parts.toList.map (·.2)), P.info? el with
      | some xs, some i => if inOrder 0 parts.toList ∧ parts.size = n ∧ i.size = es ∧ zs.length = n then some (.barr n es xs) else none
      | _, _ => none
    | _, _ => none
  | .buildSlice t len parts =>
    match elemT P t with
    | some (e, i) =>
      match trXs (parts.toList.map (·.2)), i.zero with
      | some xs, some _ => if inOrder 0 parts.toList ∧ parts.size = len ∧ len * i.size ≤ 16777216 then some (.bsl i.size xs) else none
      | _, _ => none
    | none => none
  | .load t x =>
    match isAggT P t, szT P t, trX x with
    | some a, some n, some x => some (.load a n x)
    | _, _, _ => none
  | .store t a x =>
    match szT P t, trX a, trX x with
    | some n, some a, some x => if n = 0 then none else some (.store n a x)
    | _, _, _ => none
  | .nilCheck x => (trX x).map .nilck
  | .binOp op t x y _ =>
    match trX x, trX y with
    | some x, some y =>
      if plainT P t then some (.bin op x y) else trEq P op t x y
    | _, _ => none
  | .unOp op _ x => (trX x).map fun x => .un op x
  | .convert src dst x =>
    match P.underlying src, P.underlying dst, trX x with
    | some (.int _), some (.int k), some x => some (.conv k x)
    | some (.slice e), some .string, some x =>
      match P.underlying e with
      | some (.int .u8) => some (.b2s x)
      | _ => none
    | _, _, _ => none
  | .slice t x lo hi none =>
    match elemT P t, arrT P t, trX x, trXo lo, trXo hi with
    | some (_, i), _, some x, some lo, some hi => some (.slice i.size x lo hi)
    | _, some (n, i), some x, some lo, some hi => some (.aslice n i.size x lo hi)
    | _, _, _, _, _ => none
  | .fieldAddr s x i =>
    match P.underlying s, trX x with
    | some (.struct fs), some x =>
      match fs[i]? with
      | some f =>
        match szT P f.type with
        | some n => if n = 0 then none else some (.fadr i f.offset n x)
        | none => none
      | none => none
    | _, _ => none
  | .indexAddr t x i =>
    match elemT P t, arrT P t, trX x, trX i with
    | some (_, e), _, some x, some i => some (.iadr none e.size x i)
    | _, some (n, e), some x, some i => some (.iadr (some n) e.size x i)
    | _, _, _, _ => none
  | .extract x i => (trX x).map fun x => .ext x i
  | .makeFunc (.func f) first caps =>
    match trXs caps.toList with
    | some cs => if first.isEmpty then some (.mkf f cs) else none
    | none => none
  | .makeSlice t l c =>
    match elemT P t, trX l with
    | some (e, i), some l' =>
      match zeroT P e with
      | some z => if sameLen l c ∧ z.size = i.size then some (.mks i.size i.bytes z l') else none
      | none => none
    | _, _ => none
  | .call c =>
    match c.callee, trXs c.args.toList with
    | .value (.func f), some xs => some (.call f xs)
    | .value x, some xs => (trX x).map fun x => .callv x xs
    | .builtin .append, some [s, x] =>
      match c.argTypes.toList with
      | [t, u] => if t = u then trApp P t s x else none
      | _ => none
    | .builtin .len, some [x] =>
      match c.argTypes.toList with
      | [t] =>
        match P.underlying t with
        | some (.slice _) => some (.len none x)
        | some .string => some (.lens x)
        | some (.array n _) => some (.len (some n) x)
        | some (.pointer a) =>
          match P.underlying a with
          | some (.array n _) => some (.len (some n) x)
          | _ => none
        | _ => none
      | _ => none
    | .builtin .copy, some [x, y] =>
      match c.argTypes.toList with
      | [t, u] =>
        match elemT P t, elemT P u with
        | some (_, i), some (_, i') => if i'.size = i.size then some (.copy i.size x y) else none
        | _, _ => none
      | _ => none
    | .builtin .min, some xs => some (.min xs)
    | .builtin .max, some xs => some (.max xs)
    | _, _ => none
  | _ => none

def trG (ops : Array Oper) (g : Option (Nat × Bool)) : Option (Option (Nat × Bool)) :=
  match g with
  | none => some none
  | some (j, b) =>
    match (ops[j]?).bind (·.dst) with
    | some t => some (some (t, b))
    | none => none

/-- An append onto nil whose result is only read. -/
def softO : AOp → AOp
  | .app es b (.c (.fro true 0 [])) x => .appf es b x
  | .mks es b z l => .mksf es b z l
  | o => o

def trOper (z : Bool) (P : Program) (nt : Nat) (ops : Array Oper) (o : Oper) : Option AG :=
  match trOp P o.op, trG ops o.guard with
  | some ao, some g => if (match o.dst with | some d => decide (d < nt) | none => true) then some ⟨o.dst, if z then softO ao else ao, g⟩ else none
  | _, _ => none

/-- Which operations read memory that may be written (1), write such memory (2), or neither (0). -/
def clsOf (quiet : Nat → Bool) : AOp → Nat
  | .load .. => 1
  | .b2s .. => 1
  | .store .. => 2
  | .app .. => 2
  | .copy .. => 2
  | .mks .. => 0
  | .call f _ => if quiet f then 1 else 2
  | .callv .. => 1
  | _ => 0

/-- Code that nothing is known of. -/
def badC : AC := .ops [⟨none, .nilck (.c .unk), none⟩]

def trC (P : Program) (nt : Nat) (ok : Array Oper → List AG → Bool) (z0 : Bool) : Code → Option AC
  | .skip => some .skip
  | .region _ ops draw =>
    match ops.toList.mapM (trOper z0 P nt ops) with
    | some l =>
      if draw && !ok ops l then
        match ops.toList.mapM (trOper true P nt ops) with
        | some l => if ok ops l then some (.ops l) else none
        | none => none
      else some (.ops l)
    | none => some badC
  | .seq a b =>
    match trC P nt ok z0 a, trC P nt ok z0 b with
    | some x, some y => some (.seq x y)
    | _, _ => none
  | .cond c a b =>
    match trX c, trC P nt ok z0 a, trC P nt ok z0 b with
    | some c, some x, some y => some (.cond c x y)
    | _, _, _ => none
  | .block id c => (trC P nt ok z0 c).map (.block id)
  | .loop c => (trC P nt ok z0 c).map .loop
  | .exit id => some (.exit id)
  | .ret => some .ret
  | _ => none
end Go.Ra
