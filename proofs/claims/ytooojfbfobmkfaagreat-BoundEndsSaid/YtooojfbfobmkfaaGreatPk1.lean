/- Texts put together. -/
import GoSem.Dispatch
import GoSem.Core.Region
import GoSem.Core.Layout
import Derived.Laws.AppendOwn
import Derived.Laws.IdiomCopy
import Derived.Laws.Rows
import Derived.Still
import Derived.Below
import Derived.WalkKit
import Derived.Laws.Bits
import Derived.Laws.MakeOwn
import Derived.IntWalk
import Derived.Tactics
import Derived.Orders
namespace Go
theorem zaA:type_of% @Option.some.injEq := @Option.some.injEq
theorem zaB:type_of% @cond_true := @cond_true
theorem zaC:type_of% @decide_true := @decide_true
theorem zaD:type_of% @cond_false := @cond_false
theorem zaE:type_of% @decide_false := @decide_false
theorem zaF:type_of% @Nat.le_refl := @Nat.le_refl
theorem zaG:type_of% @Bool.and_eq_true := @Bool.and_eq_true
theorem zaH:type_of% @Bool.not_false := @Bool.not_false
theorem zaI:type_of% @Bool.not_true := @Bool.not_true
theorem zaJ:type_of% @Prod.mk.injEq := @Prod.mk.injEq
theorem zaK:type_of% @decide_eq_true_eq := @decide_eq_true_eq
theorem zaL:type_of% @Nat.eq_of_beq_eq_true := @Nat.eq_of_beq_eq_true
theorem zaM:type_of% @not_false_eq_true := @not_false_eq_true
theorem zaN:type_of% @not_true_eq_false := @not_true_eq_false
theorem zaO:type_of% @Int.toNat_natCast := @Int.toNat_natCast
theorem zaP:type_of% @decide_eq_false_iff_not := @decide_eq_false_iff_not
theorem zaQ:type_of% @Nat.beq_refl := @Nat.beq_refl
theorem zaR:type_of% @Bool.true_and := @Bool.true_and
theorem zaS:type_of% @Bool.and_self := @Bool.and_self
theorem zaT:type_of% @Bool.and_true := @Bool.and_true
theorem zaU:type_of% @Bool.false_eq_true := @Bool.false_eq_true
theorem zaV:type_of% @Bool.or_eq_true := @Bool.or_eq_true
theorem zaW:type_of% @Bool.and_eq_false_iff := @Bool.and_eq_false_iff
end Go
namespace Go.Ra
set_option linter.unusedVariables false
inductive AV where
 |sc (v:Value)
 |agg (n:Nat) (ts:List AV)
 |arr (n es:Nat) (ts:List AV)
 |fro (x:Bool) (es:Nat) (ts:List AV)
 |cH (t:AV)
 |sl (id:Nat) (path:List Nat) (off k len es:Nat)
 |ptr (id:Nat) (path:List Nat) (off:Nat)
 |clo (f:Nat) (caps:List AV)
 |tup (vs:List AV)
 |eQ
 |unk
 deriving Inhabited
def AV.size:AV->Nat
 |.agg n _=>n
 |.arr n es _=>n*es
 |_=>1
def AV.isAgg:AV->Bool
 |.agg _ _=>true
 |.arr _ _ _=>true
 |_=>false
def I (n:Int):AV:=.sc (.int .i64 n)
def B (b:Bool):AV:=.sc (.bool b)
inductive AX where
 |t (i:Nat)
 |c (v:AV)
 deriving Inhabited
inductive TS where
 |int
 |bool
 |agg (l:List (Nat×TS))
 |arr (n es:Nat) (e:TS)
 deriving Inhabited
inductive AOp where
 |mv (x:AX)
 |pick (c a b:AX)
 |box (x:AX)
 |build (n:Nat) (zero:List AV) (parts:List (Nat×AX))
 |bsl (es:Nat) (xs:List AX)
 |aU9 (n es:Nat) (xs:List AX)
 |load (ag:Bool) (n:Nat) (x:AX)
 |store (n:Nat) (x v:AX)
 |aFT (x:AX)
 |bin (op:BinOp) (x y:AX)
 |eqs (neg:Bool) (ts:TS) (x y:AX)
 |eqn (neg:Bool) (x:AX)
 |un (op:UnOp) (x:AX)
 |conv (k:IntKind) (x:AX)
 |b2s (x:AX)
 |slice (es:Nat) (x:AX) (lo hi:Option AX)
 |aAE (n es:Nat) (x:AX) (lo hi:Option AX)
 |aVA (i off n:Nat) (x:AX)
 |aM6 (arr:Option Nat) (es:Nat) (x i:AX)
 |ext (x:AX) (i:Nat)
 |mkf (f:Nat) (caps:List AX)
 |mks (es bytes:Nat) (zero:AV) (len:AX)
 |app (es bytes:Nat) (s x:AX)
 |aQA (es bytes:Nat) (x:AX)
 |aQB (es bytes:Nat) (zero:AV) (len:AX)
 |len (arr:Option Nat) (x:AX)
 |lens (x:AX)
 |copy (es:Nat) (x y:AX)
 |min (xs:List AX)
 |max (xs:List AX)
 |call (f:Nat) (args:List AX)
 |n7 (f:AX) (args:List AX)
 |lO (f:Nat) (args:List AX)
 deriving Inhabited
structure AG where
 d:Option Nat
 o:AOp
 g:Option (Nat×Bool):=none
 deriving Inhabited
inductive AC where
 |skip
 |ops (l:List AG)
 |aIJ (l:List AG) (ps:List (Nat×Nat))
 |seq (a b:AC)
 |cond (c:AX) (x y:AC)
 |block (id:Nat) (c:AC)
 |loop (c:AC)
 |exit (id:Nat)
 |ret
 |frz
 deriving Inhabited
structure St where
 env:List (Nat×AV)
 hl:List (Nat×Option AV)
 hb:Nat->Option AV
 n:Nat
def get:List (Nat×AV)->Nat->AV
 |[],_=>.unk
 |(k,v)::l,i=>if i=k then v else get l i
def look:List (Nat×Option AV)->(Nat->Option AV)->Nat->Option AV
 |[],h,i=>h i
 |(k,v)::l,h,i=>if i=k then v else look l h i
def aA4:List (Nat×Option AV)->Nat->Option AV->List (Nat×Option AV)
 |[],i,t=>[(i,t)]
 |(k,v)::l,i,t=>if i=k then(k,t)::l else(k,v)::aA4 l i t
def St.ev (σ:St):AX->AV
 |.t i=>get σ.env i
 |.c v=>v
def St.H (σ:St):Nat->Option AV:=look σ.hl σ.hb
def St.put (σ:St) (d:Option Nat) (v:AV):St :=
 match d with
 |some d=>⟨(d,v)::σ.env,σ.hl,σ.hb,σ.n⟩
 |none=>σ
def St.rB (σ:St) (i:Nat) (t:Option AV):St:=⟨σ.env,aA4 σ.hl i t,σ.hb,σ.n⟩
def St.new (σ:St) (t:AV):St:=⟨σ.env,(σ.n,some t)::σ.hl,σ.hb,σ.n+1⟩
def j6:List AV->Nat
 |[]=>0
 |t::ts=>t.size+j6 ts
def AV.at? : AV->List Nat->Option (Nat×AV)
 |t,[]=>some (0,t)
 |.agg _ ts,i::p =>
  match ts[i]? with
  |some t =>
   match AV.at? t p with
   |some (o,u)=>some (j6 (ts.take i)+o,u)
   |none=>none
  |none=>none
 |.arr _ es ts,i::p =>
  match ts[i]? with
  |some t =>
   match AV.at? t p with
   |some (o,u)=>some (i*es+o,u)
   |none=>none
  |none=>none
 |_,_::_=>none
 termination_by t p=>p.length
mutual
def AV.fB:AV->Bool
 |.agg _ ts=>AV.j7 ts
 |.clo _ cs=>AV.j7 cs
 |.sl .. => false
 |.ptr .. => false
 |.tup _=>false
 |_=>true
def AV.j7:List AV->Bool
 |[]=>true
 |t::ts=>t.fB&&AV.j7 ts
end
def AV.set? : AV->List Nat->AV->Option AV
 |_,[],v=>some v
 |.agg n ts,i::p,v =>
  match ts[i]? with
  |some t =>
   match AV.set? t p v with
   |some u=>some (.agg n (ts.set i u))
   |none=>none
  |none=>none
 |.arr n es ts,i::p,v =>
  match ts[i]? with
  |some t =>
   match AV.set? t p v with
   |some u=>if v.fB then some (.arr n es (ts.set i u))else none
   |none=>none
  |none=>none
 |_,_::_,_=>none
 termination_by t p _=>p.length
def AV.storable:AV->Bool
 |.tup _=>false
 |.eQ=>false
 |.unk=>false
 |_=>true
def St.row (σ:St) (es:Nat):AV->Option (List AV)
 |.fro _ es' ts=>if es'=es\/ts=[]then some ts else none
 |.sl id path off k len es2=>if len=0 then some []else
  match σ.H id with
  |some t =>
   match t.at? path with
   |some (o,.arr _ es' ts)=>if es2=es/\es'=es/\off=o+k*es/\k+len<=ts.length then some ((ts.drop k).take len)else none
   |_=>none
  |none=>none
 |_=>none
def St.oQ (σ:St):AV->Option AV
 |.cH t=>some t
 |.ptr id path off =>
  match σ.H id with
  |some t =>
   match t.at? path with
   |some (o,u)=>if o=off then some u else none
   |none=>none
  |none=>none
 |_=>none
def eR (op:BinOp) (k:IntKind) (a b:Int):Int :=
 match op with
 |.and=>k.wrap (BitVec.ofInt k.bits a &&& BitVec.ofInt k.bits b).toNat
 |.or=>k.wrap (BitVec.ofInt k.bits a ||| BitVec.ofInt k.bits b).toNat
 |.xor=>k.wrap (BitVec.ofInt k.bits a ^^^ BitVec.ofInt k.bits b).toNat
 |_=>k.wrap (BitVec.ofInt k.bits a &&& ~~~ BitVec.ofInt k.bits b).toNat
def aKV (op:BinOp) (k:IntKind) (a b:Int):Option Value :=
 match op with
 |.add=>some (.int k (k.wrap (a+b)))
 |.sub=>some (.int k (k.wrap (a-b)))
 |.mul=>some (.int k (k.wrap (a*b)))
 |.quo=>if b=0 then none else some (.int k (k.wrap (a.tdiv b)))
 |.rem=>if b=0 then none else some (.int k (a.tmod b))
 |.and=>some (.int k (eR .and k a b))
 |.or=>some (.int k (eR .or k a b))
 |.xor=>some (.int k (eR .xor k a b))
 |.andNot=>some (.int k (eR .andNot k a b))
 |.eql=>some (.bool (decide (a=b)))
 |.neq=>some (.bool (decide (¬a=b)))
 |.lss=>some (.bool (decide (a<b)))
 |.leq=>some (.bool (decide (a<=b)))
 |.gtr=>some (.bool (decide (a>b)))
 |.geq=>some (.bool (decide (a>=b)))
 |_=>none
def shI (op:BinOp) (k:IntKind) (a b:Int):Option Value :=
 if b<0 then none else
 match op with
 |.shl=>some (.int k (k.wrap (a*2^(Nat.min b.toNat k.bits))))
 |.shr=>some (.int k (a.fdiv (2^(Nat.min b.toNat k.bits))))
 |_=>none
def uA:BinOp->Bool
 |.shl=>true
 |.shr=>true
 |_=>false
def aFU (op:BinOp) (x y:Value):Option Value :=
 match x,y with
 |.int k a,.int k' b=>if uA op then shI op k a b else if k=k' then aKV op k a b else none
 |.string a,.string b =>
  match op with
  |.eql=>some (.bool (decide (a.toList=b.toList)))
  |.neq=>some (.bool (!decide (a.toList=b.toList)))
  |.add=>if a.size+b.size<=140737488351232 then some (.string (a++b))else none
  |_=>none
 |_,_=>none
mutual
def eqT:TS->AV->AV->Option Bool
 |.int,.sc (.int k a),.sc (.int k' b)=>if k=k' then some (decide (a=b))else none
 |.bool,.sc (.bool a),.sc (.bool b)=>some (a == b)
 |.agg l,.agg _ ts,.agg _ us=>aFV l ts us
 |.arr n es e,.arr _ es' ts,.arr _ es'' us=>if es'=es/\es''=es/\ts.length=n/\us.length=n then aM7 e ts us else none
 |_,_,_=>none
def aFV:List (Nat×TS)->List AV->List AV->Option Bool
 |[],[],[]=>some true
 |(n,e)::l,t::ts,u::us =>
  if t.size=n/\u.size=n then
   match eqT e t u,aFV l ts us with
   |some a,some b=>some (a&&b)
   |_,_=>none
  else none
 |_,_,_=>none
def aM7 (e:TS):List AV->List AV->Option Bool
 |[],[]=>some true
 |t::ts,u::us =>
  match eqT e t u,aM7 e ts us with
  |some a,some b=>some (a&&b)
  |_,_=>none
 |_,_=>none
end
def aW0 (neg:Bool):AV->Option AV
 |.fro _ _ ts=>some (if ts.isEmpty then .eQ else B neg)
 |.sl _ _ _ _ len _=>some (if len=0 then .eQ else B neg)
 |_=>none
def a22:AV->Option AV
 |.sc (.bool b)=>some (B (!b))
 |.eQ=>some .eQ
 |_=>none
def bytesOf:List AV->Option (List UInt8)
 |[]=>some []
 |.sc (.int .u8 n)::l =>
  match bytesOf l with
  |some r=>some (UInt8.ofNat n.toNat::r)
  |none=>none
 |_::_=>none
def asI:AV->Option Int
 |.sc (.int _ n)=>some n
 |_=>none
def lW (len:Nat) (lo hi:Option AV):Option (Nat×Nat) :=
 match (match lo with|some v=>asI v|none=>some 0),(match hi with|some v=>asI v|none=>some (len:Int))with
 |some l,some h=>if 0<=l/\l<=h/\h<=len then some (l.toNat,h.toNat)else none
 |_,_=>none
def wD (zero:List AV):List (Nat×AV)->Option (List AV)
 |[]=>some zero
 |(i,v)::r =>
  match zero[i]? with
  |some z=>if v.size=z.size/\v.storable=true/\v.isAgg=z.isAgg then wD (zero.set i v) r else none
  |none=>none
def aEA (es:Nat):List AV->Bool
 |[]=>true
 |v::r=>v.size == es&&v.storable&&v.fB&&aEA es r
def aAF:List AV->Bool
 |[]=>true
 |v::r=>v.storable && !v.isAgg&&aAF r
def aVB (σ:St) (es bytes:Nat) (s:AV) (xs:List AV):Option (AV×St) :=
 match s with
 |.fro true es' ts=>if(es'=es\/ts=[])/\(ts=[]\/xs≠[])/\0<bytes/\(ts.length+xs.length)*bytes<=140737488355328 then
   some (.sl σ.n [] 0 0 (ts.length+xs.length) es,σ.new (.arr (ts.length+xs.length) es (ts++xs)))else none
 |.sl id [] off k len es' =>
  match σ.H id with
  |some (.arr _ es'' ts)=>if es''=es/\es'=es/\off=k*es/\k+len<=ts.length/\0<bytes/\(len+xs.length)*bytes<=140737488355328 then
    some (.sl σ.n [] 0 0 (len+xs.length) es,(σ.rB id none).new (.arr (len+xs.length) es ((ts.drop k).take len++xs)))else none
  |_=>none
 |_=>none
def aEB (f:Int->Int->Int) (k:IntKind) (a:Int):List AV->Option AV
 |[]=>some (.sc (.int k a))
 |.sc (.int k' b)::l=>if k=k' then aEB f k (f a b) l else none
 |_=>none
def foldI (f:Int->Int->Int):List AV->Option AV
 |.sc (.int k a)::l=>aEB f k a l
 |_=>none
def aX (o:AOp) (σ:St):Option (AV×St) :=
 match o with
 |.mv x=>some (σ.ev x,σ)
 |.pick c a b =>
  match σ.ev c with
  |.sc (.bool b')=>some (if b' then σ.ev a else σ.ev b,σ)
  |_=>none
 |.box x=>if(σ.ev x).storable then some (.ptr σ.n [] 0,σ.new (σ.ev x))else none
 |.build n zero parts =>
  match wD zero (parts.map fun p=>(p.1,σ.ev p.2))with
  |some ts=>some (.agg n ts,σ)
  |none=>none
 |.aU9 n es xs=>if aEA es (xs.map σ.ev)/\xs.length=n then some (.arr n es (xs.map σ.ev),σ)else none
 |.bsl es xs=>if aEA es (xs.map σ.ev)then some (.fro true es (xs.map σ.ev),σ)else none
 |.load ag n x =>
  match σ.oQ (σ.ev x)with
  |some u=>if u.isAgg=ag/\u.size=n then some (u,σ)else none
  |none=>none
 |.store n x v =>
  match σ.ev x with
  |.ptr id path off =>
   match σ.H id with
   |some t =>
    match t.at? path,t.set? path (σ.ev v)with
    |some (o,u),some t'=>if o=off/\u.size=n/\(σ.ev v).size=n/\(σ.ev v).storable=true then some (.tup [],σ.rB id (some t'))else none
    |_,_=>none
   |none=>none
  |_=>none
 |.aFT x =>
  match σ.ev x with
  |.ptr id p o=>some (.ptr id p o,σ)
  |.cH t=>some (.cH t,σ)
  |.clo f c=>some (.clo f c,σ)
  |_=>none
 |.bin op x y =>
  match σ.ev x,σ.ev y with
  |.sc a,.sc b =>
   match aFU op a b with
   |some v=>some (.sc v,σ)
   |none=>none
  |_,_=>none
 |.eqs neg ts x y =>
  match eqT ts (σ.ev x) (σ.ev y)with
  |some b=>some (B (if neg then !b else b),σ)
  |none=>none
 |.eqn neg x =>
  match aW0 neg (σ.ev x)with
  |some v=>some (v,σ)
  |none=>none
 |.un op x =>
  match op,σ.ev x with
  |.not,v =>
   match a22 v with
   |some v=>some (v,σ)
   |none=>none
  |.neg,.sc (.int k a)=>some (.sc (.int k (k.wrap (0-a))),σ)
  |.xor,.sc (.int k a)=>some (.sc (.int k (eR .xor k (if k.signed then -1 else k.max) a)),σ)
  |_,_=>none
 |.conv k x =>
  match σ.ev x with
  |.sc (.int _ a)=>some (.sc (.int k (k.wrap a)),σ)
  |_=>none
 |.b2s x =>
  match σ.row 1 (σ.ev x)with
  |some ts =>
   match bytesOf ts with
   |some l=>some (.sc (.string ⟨l.toArray⟩),σ)
   |none=>none
  |none=>none
 |.slice es x lo hi =>
  match σ.ev x with
  |.fro _ es' ts =>
   match lW ts.length (lo.map σ.ev) (hi.map σ.ev)with
   |some (l,h)=>if es'=es then some (.fro false es ((ts.take h).drop l),σ)else none
   |none=>none
  |.sl id path off k len es' =>
   match lW len (lo.map σ.ev) (hi.map σ.ev)with
   |some (l,h)=>if es'=es then some (.sl id path (off+l*es) (k+l) (h-l) es,σ)else none
   |none=>none
  |_=>none
 |.aAE n es x lo hi =>
  match σ.ev x with
  |.ptr id path off =>
   match lW n (lo.map σ.ev) (hi.map σ.ev),σ.H id with
   |some (l,h),some t =>
    match t.at? path with
    |some (o,.arr n' es' _)=>if o=off/\n'=n/\es'=es/\0<es then some (.sl id path (off+l*es) l (h-l) es,σ)else none
    |_=>none
   |_,_=>none
  |.cH (.arr n' es' ts) =>
   match lW n (lo.map σ.ev) (hi.map σ.ev)with
   |some (l,h)=>if es'=es/\n'=n then some (.fro false es ((ts.take h).drop l),σ)else none
   |none=>none
  |_=>none
 |.aVA i off n x =>
  match σ.ev x with
  |.ptr id path o=>some (.ptr id (path++[i]) (o+off),σ)
  |.cH (.agg _ ts) =>
   match ts[i]? with
   |some u=>if j6 (ts.take i)=off then some (.cH u,σ)else none
   |none=>none
  |_=>none
 |.aM6 a es x i =>
  match a,σ.ev x,asI (σ.ev i)with
  |none,.fro _ es' ts,some j=>if 0<=j/\es'=es then
    match ts[j.toNat]? with
    |some t=>some (.cH t,σ)
    |none=>none
   else none
  |none,.sl id path off k len es',some j=>if 0<=j/\j<len/\es'=es then some (.ptr id (path++[k+j.toNat]) (off+j.toNat*es),σ)else none
  |some n,.ptr id path off,some j=>if 0<=j/\j<n then some (.ptr id (path++[j.toNat]) (off+j.toNat*es),σ)else none
  |some n,.cH (.arr n' es' ts),some j=>if 0<=j/\es'=es/\n'=n then
    match ts[j.toNat]? with
    |some t=>some (.cH t,σ)
    |none=>none
   else none
  |_,_,_=>none
 |.ext x i =>
  match σ.ev x with
  |.tup vs =>
   match vs[i]? with
   |some v=>some (v,σ)
   |none=>none
  |_=>none
 |.mkf f caps=>if aAF (caps.map σ.ev)then some (.clo f (caps.map σ.ev),σ)else none
 |.mks es bytes zero len =>
  match asI (σ.ev len)with
  |some n=>if 0<=n/\0<bytes/\n.toNat*bytes<=140737488355328 then
    some (.sl σ.n [] 0 0 n.toNat es,σ.new (.arr n.toNat es (List.replicate n.toNat zero)))else none
  |none=>none
 |.app es bytes s x =>
  match σ.row es (σ.ev x)with
  |some xs=>aVB σ es bytes (σ.ev s) xs
  |none=>none
 |.aQB es bytes zero len =>
  match asI (σ.ev len)with
  |some n=>if 0<=n/\0<bytes/\n.toNat*bytes<=140737488355328 then some (.fro false es (List.replicate n.toNat zero),σ)else none
  |none=>none
 |.aQA es bytes x =>
  match σ.row es (σ.ev x)with
  |some xs=>if 0<bytes/\xs.length*bytes<=140737488355328 then some (.fro false es xs,σ)else none
  |none=>none
 |.len a x =>
  match a,σ.ev x with
  |some n,_=>some (I n,σ)
  |none,.fro _ _ ts=>some (I ts.length,σ)
  |none,.sl _ _ _ _ len _=>some (I len,σ)
  |_,_=>none
 |.lens x =>
  match σ.ev x with
  |.sc (.string s)=>some (I s.size,σ)
  |_=>none
 |.copy es x y =>
  match σ.ev x,σ.row es (σ.ev y)with
  |.sl id [] off k len es',some xs =>
   match σ.H id with
   |some (.arr n es'' ts)=>if es'=es/\es''=es/\off=0/\k=0/\len=ts.length then
     some (I (Nat.min xs.length len),σ.rB id (some (.arr n es (xs.take len++ts.drop xs.length))))else none
   |_=>none
  |_,_=>none
 |.min xs =>
  match foldI (fun a b=>if b<a then b else a) (xs.map σ.ev)with
  |some v=>some (v,σ)
  |none=>none
 |.max xs =>
  match foldI (fun a b=>if b>a then b else a) (xs.map σ.ev)with
  |some v=>some (v,σ)
  |none=>none
 |.call .. => none
 |.n7 .. => none
 |.lO .. => none
abbrev Orc:=Nat->List AV->St->AV->St->Prop
def St.back (σ τ:St):St:=⟨σ.env,τ.hl,τ.hb,τ.n⟩
def wpOps (C:Orc):List AG->St->(St->Prop)->Prop
 |[],σ,K=>K σ
 |⟨d,o,g⟩::r,σ,K =>
  let run:=match o with
   |.call f args=>∃ v τ,C f (args.map σ.ev) σ v τ/\wpOps C r ((σ.back τ).put d v) K
   |.n7 x args =>
    match σ.ev x with
    |.clo f caps=>∃ v τ,C f (args.map σ.ev++caps) σ v τ/\(τ.hl=σ.hl/\τ.hb=σ.hb/\τ.n=σ.n)/\wpOps C r ((σ.back τ).put d v) K
    |_=>False
   |.lO f args=>∃ v,(∀ σ',C f (args.map σ.ev) σ' v σ')/\wpOps C r (σ.put d v) K
   |o =>
    match aX o σ with
    |some (v,σ')=>wpOps C r (σ'.put d v) K
    |none=>False
  match g with
  |none=>run
  |some (t,b) =>
   match get σ.env t with
   |.sc (.bool b')=>(b'=b->run)/\(b'≠b->wpOps C r (σ.put d (.tup [])) K)
   |.tup []=>wpOps C r (σ.put d (.tup [])) K
   |_=>False
def rC:AV->Option Nat
 |.ptr id _ _=>some id
 |.sl id _ _ _ _ _=>some id
 |_=>none
def a23 (a b:AV):Prop:=∀ i,rC a=some i->rC b≠some i
def uB (σ:St):List (Nat×Nat)->Prop
 |[]=>True
 |(t,u)::r=>a23 (get σ.env t) (get σ.env u)/\uB σ r
inductive AE where
 |normal
 |exit (id:Nat)
 |ret
def AE.then (next:St->Prop) (Φ:AE->St->Prop):AE->St->Prop
 |.normal,σ=>next σ
 |e,σ=>Φ e σ
def AE.inBlock (id:Nat) (Φ:AE->St->Prop):AE->St->Prop
 |.exit i,σ=>if i=id then Φ .normal σ else Φ (.exit i) σ
 |e,σ=>Φ e σ
def leA (a b:AV):Prop:=b=.unk\/b=a\/∃ x es es' ts,a=.fro x es ts/\b=.fro false es' ts/\(es'=es\/ts=[])
def pE (σ τ:St):Prop := (∀ i,leA (get σ.env i) (get τ.env i))/\(∀ i,τ.H i=none\/τ.H i=σ.H i)/\σ.n<=τ.n
mutual
inductive leF (L:List Nat) (σ:St):AV->AV->Prop
 |same {a:AV}:leF L σ a a
 |fz {id off k len es:Nat} {path:List Nat} {ts:List AV}:id∈L->σ.row es (.sl id path off k len es)=some ts->leF L σ (.sl id path off k len es) (.fro false es ts)
 |agg {n:Nat} {ts us:List AV}:aKW L σ ts us->leF L σ (.agg n ts) (.agg n us)
inductive aKW (L:List Nat) (σ:St):List AV->List AV->Prop
 |nil:aKW L σ [] []
 |cons {a b:AV} {l r:List AV}:leF L σ a b->aKW L σ l r->aKW L σ (a::l) (b::r)
end
def aVC (σ τ:St):Prop:=∃ L:List Nat,τ.n=σ.n/\(∀ t,leF L σ (get σ.env t) (get τ.env t))/\∀ j,τ.H j=none\/(j∉L/\∃ t t',σ.H j=some t/\τ.H j=some t'/\leF L σ t t')
mutual
def AV.sN (n:Nat):AV->Bool
 |.agg _ ts=>AV.vJ n ts
 |.clo _ cs=>AV.vJ n cs
 |.tup ts=>AV.vJ n ts
 |.sl id _ _ _ _ _=>Nat.blt id n
 |.ptr id _ _=>Nat.blt id n
 |_=>true
def AV.vJ (n:Nat):List AV->Bool
 |[]=>true
 |t::ts=>t.sN n&&AV.vJ n ts
end
def bDF (m:Nat) (σ τ:St):Prop:=σ.n<=τ.n\/(m<=τ.n/\(∀ i,(get τ.env i).sN τ.n=true)/\(∀ i,τ.n<=i->τ.H i=none)/\∀ i t,τ.H i=some t->t.sN τ.n=true)
def aJB (m:Nat) (σ τ:St):Prop:=(∀ i,leA (get σ.env i) (get τ.env i))/\(∀ i,τ.H i=none\/τ.H i=σ.H i)/\bDF m σ τ
mutual
inductive leK (κ:Nat->Option Nat):AV->AV->Prop
 |same {a:AV}:a.sN 0=true->leK κ a a
 |sl {i j off k len es:Nat} {path:List Nat}:κ j=some i->leK κ (.sl i path off k len es) (.sl j path off k len es)
 |ptr {i j off:Nat} {path path':List Nat}:κ j=some i->leK κ (.ptr i path off) (.ptr j path' off)
 |agg {n:Nat} {ts us:List AV}:aDC κ ts us->leK κ (.agg n ts) (.agg n us)
 |split {n es:Nat} {pre post:List AV} {t u:AV}:n=pre.length+(1+post.length)->leK κ t u->leK κ (.arr n es (pre++t::post)) (.agg (n*es) [.arr pre.length es pre,u,.arr post.length es post])
 |join {m a b es:Nat} {pre post:List AV} {t u:AV}:u.fB=true->u.size=es->leK κ t u->leK κ (.agg m [.arr a es pre,t,.arr b es post]) (.arr (a+(1+b)) es (pre++u::post))
 |clo {f:Nat} {ts us:List AV}:aDC κ ts us->leK κ (.clo f ts) (.clo f us)
 |fro {x:Bool} {es es':Nat} {ts:List AV}:(es'=es\/ts=[])->leK κ (.fro x es ts) (.fro false es' ts)
 |nil {es es' j off k:Nat} {path:List Nat}:leK κ (.fro true es []) (.sl j path off k 0 es')
inductive aDC (κ:Nat->Option Nat):List AV->List AV->Prop
 |nil:aDC κ [] []
 |cons {a b:AV} {l r:List AV}:leK κ a b->aDC κ l r->aDC κ (a::l) (b::r)
end
def a7B (m:Nat) (σ τ:St):Prop:=∃ κ:Nat->Option Nat,(∀ j,j<m->κ j=some j)/\(∀ j,τ.n<=j->τ.H j=none/\κ j=none)/\m<=τ.n/\(∀ i j j',τ.H j≠none->τ.H j'≠none->κ j=some i->κ j'=some i->j=j') /\
 (∀ t,get τ.env t=.unk\/leK κ (get σ.env t) (get τ.env t))/\∀ j t',τ.H j=some t'->(∃ i t,κ j=some i/\σ.H i=some t/\leK κ t t')\/(κ j=none/\∃ es,t'=.arr 0 es [])
end Go.Ra
namespace Go.Ra
set_option linter.unusedVariables false
def aFJ:Value->Value->Bool
 |.bool a,.bool b=>a == b
 |.int k a,.int l b=>decide (k=l)&&decide (a=b)
 |.string a,.string b=>a.data.toList == b.data.toList
 |.pointer none,.pointer none=>true
 |_,_=>false
mutual
def jH:AV->List Value->Option (List Value)
 |.sc v,u::r=>if aFJ v u then some r else none
 |.fro _ _ [],.slice none 0 0::r=>some r
 |.agg n ts,cs =>
  match aA5 ts cs with
  |some r=>if cs.length=n+r.length then some r else none
  |none=>none
 |.arr n es ts,cs=>if ts.length=n then aA6 es ts cs else none
 |_,_=>none
def aA5:List AV->List Value->Option (List Value)
 |[],cs=>some cs
 |t::ts,cs =>
  match jH t cs with
  |some r=>aA5 ts r
  |none=>none
def aA6 (es:Nat):List AV->List Value->Option (List Value)
 |[],cs=>some cs
 |t::ts,cs =>
  match jH t cs with
  |some r=>if t.size=es then aA6 es ts r else none
  |none=>none
end
def aW1 (P:Program):Nat->TypeId->Option AV
 |0,_=>none
 |d+1,t =>
  match P.underlying t,P.info? t with
  |some (.int k),_=>some (.sc (.int k 0))
  |some .bool,_=>some (.sc (.bool false))
  |some .string,_=>some (.sc (.string ByteArray.empty))
  |some (.slice _),_=>some (.fro true 0 [])
  |some (.pointer _),_=>some (.sc (.pointer none))
  |some (.array n e),_ =>
   match aW1 P d e,P.info? e with
   |some z,some i=>some (.arr n i.size (List.replicate n z))
   |_,_=>none
  |some (.struct fs),some i =>
   match fs.toList.mapM fun f=>aW1 P d f.type with
   |some ts=>some (.agg i.size ts)
   |none=>none
  |_,_=>none
def a80:Value->Bool
 |.agg _=>true
 |_=>false
def zI (P:Program) (t:TypeId):Option AV :=
 match aW1 P 20 t,P.info? t with
 |some z,some i =>
  match i.zero with
  |some v =>
   match jH z v.cells.toList with
   |some []=>if z.isAgg == a80 v&&z.fB then some z else none
   |_=>none
  |none=>none
 |_,_=>none
def p9 (P:Program):Nat->List Field->List AV->Bool
 |_,[],[]=>true
 |o,f::fs,z::zs=>decide (f.offset=o)&&(match P.info? f.type with|some i=>decide (i.size=z.size)|none=>false)&&p9 P (o+z.size) fs zs
 |_,_,_=>false
def uC (P:Program) (t:TypeId):Option Bool :=
 match P.underlying t with
 |some (.struct _)=>some true
 |some (.array _ _)=>some true
 |some _=>some false
 |none=>none
def szT (P:Program) (t:TypeId):Option Nat:=(P.info? t).map (·.size)
def trV (v:Value):Option AV :=
 match v with
 |.int k n=>some (.sc (.int k n))
 |.bool b=>some (.sc (.bool b))
 |.string s=>some (.sc (.string s))
 |.slice none 0 0=>some (.fro true 0 [])
 |.pointer none=>some (.sc (.pointer none))
 |_=>none
def trX (x:Operand):Option AX :=
 match x with
 |.tmp i=>some (.t i)
 |.const v =>
  match trV v with
  |some a=>some (.c a)
  |none=>none
 |.func f=>some (.c (.clo f []))
 |.global _=>none
def pZ:List Operand->Option (List AX)
 |[]=>some []
 |x::xs =>
  match trX x,pZ xs with
  |some a,some b=>some (a::b)
  |_,_=>none
def yC:List (Nat×Operand)->Option (List (Nat×AX))
 |[]=>some []
 |p::ps =>
  match trX p.2,yC ps with
  |some a,some b=>some ((p.1,a)::b)
  |_,_=>none
def aM8 (x:Option Operand):Option (Option AX) :=
 match x with
 |none=>some none
 |some x=>(trX x).map some
def uD:Nat->List (Nat×Operand)->Bool
 |_,[]=>true
 |k,p::r=>p.1 == k&&uD (k+1) r
def aAG (P:Program) (t:TypeId):Bool :=
 match P.underlying t with
 |some (.int _)=>true
 |some .string=>true
 |_=>false
mutual
def mR (P:Program):Nat->TypeId->Option TS
 |0,_=>none
 |d+1,t =>
  match P.underlying t with
  |some (.int _)=>some .int
  |some .bool=>some .bool
  |some (.struct fs) =>
   if P.stoodInHeld t then none else
   match uE P d 0 fs.toList with
   |some l=>some (.agg l)
   |none=>none
  |some (.array n e) =>
   match mR P d e,szT P e with
   |some s,some es=>some (.arr n es s)
   |_,_=>none
  |_=>none
def uE (P:Program):Nat->Nat->List Field->Option (List (Nat×TS))
 |_,_,[]=>some []
 |0,_,_::_=>none
 |d+1,o,f::fs =>
  if f.name = "_" ∨ f.offset ≠ o then none else
  match mR P d f.type,szT P f.type with
  |some s,some n =>
   match uE P d (o+n) fs with
   |some l=>some ((n,s)::l)
   |none=>none
  |_,_=>none
end
def aDD:AX->Bool
 |.c (.fro true 0 [])=>true
 |_=>false
def aKX (P:Program) (op:BinOp) (t:TypeId) (x y:AX):Option AOp :=
 let neg:=match op with|.eql=>some false|.neq=>some true|_=>none
 match neg with
 |none=>none
 |some neg =>
  match P.underlying t with
  |some (.slice _)=>if aDD y then some (.eqn neg x)else none
  |_ =>
   if P.eqGuardType P.depth t then none else
   match mR P 60 t with
   |some s=>some (.eqs neg s x y)
   |none=>none
def aA7:Operand->Operand->Bool
 |.tmp a,.tmp b=>decide (a=b)
 |.const (.int j a),.const (.int k b)=>decide (a=b)&&decide (j=.i64)&&decide (k=.i64)
 |_,_=>false
def mS (P:Program) (t:TypeId):Option (TypeId×TypeInfo) :=
 match P.underlying t with
 |some (.slice e)=>(P.info? e).map fun i=>(e,i)
 |_=>none
def aVD (P:Program) (t:TypeId):Option (Nat×TypeInfo) :=
 match P.underlying t with
 |some (.array n e)=>(P.info? e).map fun i=>(n,i)
 |_=>none
def aFW (P:Program) (t:TypeId) (s x:AX):Option AOp :=
 match mS P t with
 |some (_,i) =>
  match i.zero with
  |some z=>if z.cells.size=i.size then some (.app i.size i.bytes s x)else none
  |none=>none
 |none=>none
def lP (P:Program) (o:Op):Option AOp :=
 match o with
 |.move x=>(trX x).map .mv
 |.assign x=>(trX x).map .mv
 |.pick c a b =>
  match trX c,trX a,trX b with
  |some c,some a,some b=>some (.pick c a b)
  |_,_,_=>none
 |.alloc t=>(zI P t).map fun z=>.box (.c z)
 |.box _ x=>(trX x).map .box
 |.build t parts =>
  match P.underlying t,zI P t with
  |some (.struct fs),some (.agg n zs) =>
   match yC parts.toList with
   |some ps=>if p9 P 0 fs.toList zs then some (.build n zs ps)else none
   |none=>none
  |some (.array _ el),some (.arr n es zs) =>
   match pZ (parts.toList.map (·.2)),P.info? el with
   |some xs,some i=>if uD 0 parts.toList/\parts.size=n/\i.size=es/\zs.length=n then some (.aU9 n es xs)else none
   |_,_=>none
  |_,_=>none
 |.buildSlice t len parts =>
  match mS P t with
  |some (e,i) =>
   match pZ (parts.toList.map (·.2)),i.zero with
   |some xs,some _=>if uD 0 parts.toList/\parts.size=len/\len*i.size<=16777216 then some (.bsl i.size xs)else none
   |_,_=>none
  |none=>none
 |.load t x =>
  match uC P t,szT P t,trX x with
  |some a,some n,some x=>some (.load a n x)
  |_,_,_=>none
 |.store t a x =>
  match szT P t,trX a,trX x with
  |some n,some a,some x=>if n=0 then none else some (.store n a x)
  |_,_,_=>none
 |.nilCheck x=>(trX x).map .aFT
 |.binOp op t x y _ =>
  match trX x,trX y with
  |some x,some y => if aAG P t then some (.bin op x y)else aKX P op t x y
  |_,_=>none
 |.unOp op _ x=>(trX x).map fun x=>.un op x
 |.convert src dst x =>
  match P.underlying src,P.underlying dst,trX x with
  |some (.int _),some (.int k),some x=>some (.conv k x)
  |some (.slice e),some .string,some x =>
   match P.underlying e with
   |some (.int .u8)=>some (.b2s x)
   |_=>none
  |_,_,_=>none
 |.slice t x lo hi none =>
  match mS P t,aVD P t,trX x,aM8 lo,aM8 hi with
  |some (_,i),_,some x,some lo,some hi=>some (.slice i.size x lo hi)
  |_,some (n,i),some x,some lo,some hi=>some (.aAE n i.size x lo hi)
  |_,_,_,_,_=>none
 |.fieldAddr s x i =>
  match P.underlying s,trX x with
  |some (.struct fs),some x =>
   match fs[i]? with
   |some f =>
    match szT P f.type with
    |some n=>if n=0 then none else some (.aVA i f.offset n x)
    |none=>none
   |none=>none
  |_,_=>none
 |.indexAddr t x i =>
  match mS P t,aVD P t,trX x,trX i with
  |some (_,e),_,some x,some i=>some (.aM6 none e.size x i)
  |_,some (n,e),some x,some i=>some (.aM6 (some n) e.size x i)
  |_,_,_,_=>none
 |.extract x i=>(trX x).map fun x=>.ext x i
 |.makeFunc (.func f) first caps =>
  match pZ caps.toList with
  |some cs=>if first.isEmpty then some (.mkf f cs)else none
  |none=>none
 |.makeSlice t l c =>
  match mS P t,trX l with
  |some (e,i),some l' =>
   match zI P e with
   |some z=>if aA7 l c/\z.size=i.size then some (.mks i.size i.bytes z l')else none
   |none=>none
  |_,_=>none
 |.call c =>
  match c.callee,pZ c.args.toList with
  |.value (.func f),some xs=>some (.call f xs)
  |.value x,some xs=>(trX x).map fun x=>.n7 x xs
  |.builtin .append,some [s,x] =>
   match c.argTypes.toList with
   |[t,u]=>if t=u then aFW P t s x else none
   |_=>none
  |.builtin .len,some [x] =>
   match c.argTypes.toList with
   |[t] =>
    match P.underlying t with
    |some (.slice _)=>some (.len none x)
    |some .string=>some (.lens x)
    |some (.array n _)=>some (.len (some n) x)
    |some (.pointer a) =>
     match P.underlying a with
     |some (.array n _)=>some (.len (some n) x)
     |_=>none
    |_=>none
   |_=>none
  |.builtin .copy,some [x,y] =>
   match c.argTypes.toList with
   |[t,u] =>
    match mS P t,mS P u with
    |some (_,i),some (_,i')=>if i'.size=i.size then some (.copy i.size x y)else none
    |_,_=>none
   |_=>none
  |.builtin .min,some xs=>some (.min xs)
  |.builtin .max,some xs=>some (.max xs)
  |_,_=>none
 |_=>none
def trG (ops:Array Oper) (g:Option (Nat×Bool)):Option (Option (Nat×Bool)) :=
 match g with
 |none=>some none
 |some (j,b) =>
  match (ops[j]?).bind (·.dst)with
  |some t=>some (some (t,b))
  |none=>none
def aSB:AOp->AOp
 |.app es b (.c (.fro true 0 [])) x=>.aQA es b x
 |.mks es b z l=>.aQB es b z l
 |o=>o
structure ZM where
 soft:Bool
 dl:Nat->Bool
def a7C (dl:Nat->Bool):AOp->AOp
 |.call f args=>if dl f then .lO f args else .call f args
 |o=>o
def zmO (z:ZM) (o:AOp):AOp:=a7C z.dl (if z.soft then aSB o else o)
def iX (z:ZM) (P:Program) (nt:Nat) (ops:Array Oper) (o:Oper):Option AG :=
 match lP P o.op,trG ops o.guard with
 |some ao,some g=>if(match o.dst with|some d=>decide (d<nt)|none=>true)then some ⟨o.dst,zmO z ao,g⟩else none
 |_,_=>none
def bDG:AC:=.ops [⟨none,.aFT (.c .unk),none⟩]
def a81 (P:Program) (nt:Nat) (ok:Array Oper->List AG->Option (List (Nat×Nat))) (z0:ZM) (ops:Array Oper) (draw:Bool):Option AC :=
 match ops.toList.mapM (iX z0 P nt ops)with
 |some l =>
  if draw then
   match ok ops l with
   |some []=>some (.ops l)
   |o =>
    match ops.toList.mapM (iX ⟨true,z0.dl⟩ P nt ops)with
    |some l2 =>
     match ok ops l2 with
     |some []=>some (.ops l2)
     |o2 =>
      match o,o2 with
      |some ps,_=>some (.aIJ l ps)
      |none,some ps=>some (.aIJ l2 ps)
      |none,none=>none
    |none=>none
  else some (.ops l)
 |none=>some bDG
def trC (P:Program) (nt:Nat) (ok:Array Oper->List AG->Option (List (Nat×Nat))) (fz:Nat->Bool) (z0:ZM):Code->Option AC
 |.skip=>some .skip
 |.region id ops draw =>
  match a81 P nt ok z0 ops draw with
  |some ac=>some (if fz id then .seq .frz ac else ac)
  |none=>none
 |.seq a b =>
  match trC P nt ok fz z0 a,trC P nt ok fz z0 b with
  |some x,some y=>some (.seq x y)
  |_,_=>none
 |.cond c a b =>
  match trX c,trC P nt ok fz z0 a,trC P nt ok fz z0 b with
  |some c,some x,some y=>some (.cond c x y)
  |_,_,_=>none
 |.block id c=>(trC P nt ok fz z0 c).map (.block id)
 |.loop c=>(trC P nt ok fz z0 c).map .loop
 |.exit id=>some (.exit id)
 |.ret=>some .ret
 |_=>none
end Go.Ra
namespace Go.Ra
set_option linter.unusedVariables false
def Reads (w:World) (b o:Nat) (cs:List Value):Prop:=∀ j v,cs[j]? = some v->w.cell? ⟨b,o+j,none⟩=some v
def qA:Value->Bool
 |.bool _=>true
 |.int _ _=>true
 |.string _=>true
 |.pointer none=>true
 |.nilFunc=>true
 |_=>false
abbrev Loc:=Nat×Nat
def gF:Nat->Option Loc:=fun _=>none
mutual
inductive bR (w:World) (F:Nat->Prop):(Nat->Option Loc)->AV->List Value->Prop
 |sc {ρ:Nat->Option Loc} {v:Value}:qA v=true->bR w F ρ (.sc v) [v]
 |agg {ρ:Nat->Option Loc} {n:Nat} {ts:List AV} {cs:List Value}:dU w F ρ ts cs->cs.length=n->bR w F ρ (.agg n ts) cs
 |arr {ρ:Nat->Option Loc} {n es:Nat} {ts:List AV} {cs:List Value}:eH w F es ts cs->ts.length=n->bR w F ρ (.arr n es ts) cs
 |iV {ρ:Nat->Option Loc} {x:Bool} {es:Nat} {a:Option Addr} {cap:Nat}:(x=true->cap=0)->bR w F ρ (.fro x es []) [.slice a 0 cap]
 |fro {ρ:Nat->Option Loc} {x:Bool} {es:Nat} {ts:List AV} {cs:List Value} {b o cap:Nat}:eH w F es ts cs->Reads w b o cs->F b ->
   (x=true->cap=ts.length)->ts.length<=cap->bR w F ρ (.fro x es ts) [.slice (some ⟨b,o,none⟩) ts.length cap]
 |cH {ρ:Nat->Option Loc} {t:AV} {cs:List Value} {b o:Nat}:bR w F gF t cs->Reads w b o cs->F b->bR w F ρ (.cH t) [.pointer (some ⟨b,o,none⟩)]
 |sl0 {ρ:Nat->Option Loc} {id off k es:Nat} {path:List Nat} {a:Option Addr}:bR w F ρ (.sl id path off k 0 es) [.slice a 0 0]
 |sl {ρ:Nat->Option Loc} {id off k len es b o cap:Nat} {path:List Nat} {cur:Array Value} {e:TypeId}:ρ id=some (b,o)->len<=cap ->
   w.heap[b]? = some (.cells cur e (0,0))->o+off+cap*es<=cur.size->bR w F ρ (.sl id path off k len es) [.slice (some ⟨b,o+off,none⟩) len cap]
 |ptr {ρ:Nat->Option Loc} {id off b o:Nat} {path:List Nat}:ρ id=some (b,o)->bR w F ρ (.ptr id path off) [.pointer (some ⟨b,o+off,none⟩)]
 |clo {ρ:Nat->Option Loc} {f:Nat} {caps:List AV} {cs:List Value}:kU w F ρ caps cs->bR w F ρ (.clo f caps) [.func (.func f) #[] cs.toArray]
inductive dU (w:World) (F:Nat->Prop):(Nat->Option Loc)->List AV->List Value->Prop
 |nil {ρ:Nat->Option Loc}:dU w F ρ [] []
 |cons {ρ:Nat->Option Loc} {t:AV} {ts:List AV} {c cs:List Value}:bR w F ρ t c->dU w F ρ ts cs->dU w F ρ (t::ts) (c++cs)
inductive eH (w:World) (F:Nat->Prop):Nat->List AV->List Value->Prop
 |nil {es:Nat}:eH w F es [] []
 |cons {es:Nat} {t:AV} {ts:List AV} {c cs:List Value}:bR w F gF t c->c.length=es->eH w F es ts cs->eH w F es (t::ts) (c++cs)
inductive kU (w:World) (F:Nat->Prop):(Nat->Option Loc)->List AV->List Value->Prop
 |nil {ρ:Nat->Option Loc}:kU w F ρ [] []
 |cons {ρ:Nat->Option Loc} {t:AV} {ts:List AV} {v:Value} {cs:List Value}:bR w F ρ t [v]->t.isAgg=false->kU w F ρ ts cs->kU w F ρ (t::ts) (v::cs)
end
mutual
inductive bS (w:World) (F:Nat->Prop) (ρ:Nat->Option Loc):AV->Value->Prop
 |one {t:AV} {v:Value}:bR w F ρ t [v]->t.isAgg=false->bS w F ρ t v
 |agg {t:AV} {cs:List Value}:bR w F ρ t cs->t.isAgg=true->bS w F ρ t (.agg cs.toArray)
 |tup {ts:List AV} {vs:List Value}:bW w F ρ ts vs->bS w F ρ (.tup ts) (.tuple vs.toArray)
 |eQ {b:Bool}:bS w F ρ .eQ (.bool b)
 |unk {v:Value}:bS w F ρ .unk v
inductive bW (w:World) (F:Nat->Prop) (ρ:Nat->Option Loc):List AV->List Value->Prop
 |nil:bW w F ρ [] []
 |cons {t:AV} {ts:List AV} {v:Value} {vs:List Value}:bS w F ρ t v->bW w F ρ ts vs->bW w F ρ (t::ts) (v::vs)
end
structure Ext (F:Nat->Prop) (w w':World):Prop where
 same:∀ b,F b->w'.heap[b]? = w.heap[b]?
 rows:∀(b:Nat) (cur:Array Value) (e:TypeId),w.heap[b]? = some (Obj.cells cur e (0,0))->∃ cur':Array Value,w'.heap[b]? = some (Obj.cells cur' e (0,0))/\cur'.size=cur.size
theorem Reads.ext {F:Nat->Prop} {w w':World} {b o:Nat} {cs:List Value} (h:Reads w b o cs) (hx:Ext F w w') (hb:F b):Reads w' b o cs:=by intro j v hj;rw[World.cell?_of_block (a:=⟨b,o+j,none⟩) (hx.same b hb)];exact h j v hj
section mono
variable {w w':World} {F F':Nat->Prop}
mutual
theorem bR.mono (hx:Ext F w w') (hF:∀ b,F b->F' b):∀ {ρ ρ':Nat->Option Loc} {t:AV} {cs:List Value},(∀ i l,ρ i=some l->ρ' i=some l)->bR w F ρ t cs->bR w' F' ρ' t cs
 |_,_,_,_,_,.sc h=>.sc h
 |_,_,_,_,hr,.agg h hn=>.agg (dU.mono hx hF hr h) hn
 |_,_,_,_,_,.arr h hn=>.arr (eH.mono hx hF h) hn
 |_,_,_,_,_,.iV h=>.iV h
 |_,_,_,_,_,.fro h hrd hb hc hl=>.fro (eH.mono hx hF h) (hrd.ext hx hb) (hF _ hb) hc hl
 |_,_,_,_,_,.cH h hrd hb=>.cH (bR.mono hx hF (fun _ _ h=>h) h) (hrd.ext hx hb) (hF _ hb)
 |_,_,_,_,_,.sl0=>.sl0
 |_,_,_,_,hr,.sl h1 h2 h3 h4=>by obtain⟨cur',h5,h6⟩:=hx.rows _ _ _ h3;exact .sl (hr _ _ h1) h2 h5 (by rw[h6];exact h4)
 |_,_,_,_,hr,.ptr h=>.ptr (hr _ _ h)
 |_,_,_,_,hr,.clo h=>.clo (kU.mono hx hF hr h)
theorem dU.mono (hx:Ext F w w') (hF:∀ b,F b->F' b):∀ {ρ ρ':Nat->Option Loc} {ts:List AV} {cs:List Value},(∀ i l,ρ i=some l->ρ' i=some l)->dU w F ρ ts cs->dU w' F' ρ' ts cs
 |_,_,_,_,_,.nil=>.nil
 |_,_,_,_,hr,.cons h1 h2=>.cons (bR.mono hx hF hr h1) (dU.mono hx hF hr h2)
theorem eH.mono (hx:Ext F w w') (hF:∀ b,F b->F' b):∀ {es:Nat} {ts:List AV} {cs:List Value},eH w F es ts cs->eH w' F' es ts cs
 |_,_,_,.nil=>.nil
 |_,_,_,.cons h1 h2 h3=>.cons (bR.mono hx hF (fun _ _ h=>h) h1) h2 (eH.mono hx hF h3)
theorem kU.mono (hx:Ext F w w') (hF:∀ b,F b->F' b):∀ {ρ ρ':Nat->Option Loc} {ts:List AV} {cs:List Value},(∀ i l,ρ i=some l->ρ' i=some l)->kU w F ρ ts cs->kU w' F' ρ' ts cs
 |_,_,_,_,_,.nil=>.nil
 |_,_,_,_,hr,.cons h1 h2 h3=>.cons (bR.mono hx hF hr h1) h2 (kU.mono hx hF hr h3)
end
mutual
theorem bS.mono (hx:Ext F w w') (hF:∀ b,F b->F' b) {ρ ρ':Nat->Option Loc} (hr:∀ i l,ρ i=some l->ρ' i=some l):∀ {t:AV} {v:Value},bS w F ρ t v->bS w' F' ρ' t v
 |_,_,.one h ha=>.one (h.mono hx hF hr) ha
 |_,_,.agg h ha=>.agg (h.mono hx hF hr) ha
 |_,_,.tup h=>.tup (bW.mono hx hF hr h)
 |_,_,.eQ=>.eQ
 |_,_,.unk=>.unk
theorem bW.mono (hx:Ext F w w') (hF:∀ b,F b->F' b) {ρ ρ':Nat->Option Loc} (hr:∀ i l,ρ i=some l->ρ' i=some l):∀ {ts:List AV} {vs:List Value},bW w F ρ ts vs->bW w' F' ρ' ts vs
 |_,_,.nil=>.nil
 |_,_,.cons h1 h2=>.cons (bS.mono hx hF hr h1) (bW.mono hx hF hr h2)
end
end mono
section shape
variable {w:World} {F:Nat->Prop}
mutual
theorem bR.size:∀ {ρ:Nat->Option Loc} {t:AV} {cs:List Value},bR w F ρ t cs->cs.length=t.size
 |_,_,_,.sc h=>rfl
 |_,_,_,.agg h hn=>hn
 |_,_,_,.arr h hn=>by rw[eH.size h,hn];rfl
 |_,_,_,.iV h=>rfl
 |_,_,_,.fro h hrd hb hc hl=>rfl
 |_,_,_,.cH h hrd hb=>rfl
 |_,_,_,.sl0=>rfl
 |_,_,_,.sl h1 h2 h3 h4=>rfl
 |_,_,_,.ptr h=>rfl
 |_,_,_,.clo h=>rfl
theorem eH.size:∀ {es:Nat} {ts:List AV} {cs:List Value},eH w F es ts cs->cs.length=ts.length*es
 |_,_,_,.nil=>by simp
 |es,_,_,.cons h1 h2 h3=>by have:=eH.size h3;simp only[List.length_append,List.length_cons,h2,this,Nat.add_mul,Nat.one_mul];omega
end
theorem dU.size:∀ {ρ:Nat->Option Loc} {ts:List AV} {cs:List Value},dU w F ρ ts cs->cs.length=j6 ts
 |_,_,_,.nil=>rfl
 |_,_,_,.cons h1 h2=>by simp only[List.length_append,j6,h1.size,dU.size h2]
theorem aIK {v:Value} (h:qA v=true):v.oneCell'=true:=by cases v<;>first|rfl|simp[qA]at h
mutual
theorem bR.zB:∀ {ρ:Nat->Option Loc} {t:AV} {cs:List Value},bR w F ρ t cs->∀ v∈cs,v.oneCell'=true
 |_,_,_,.sc h=>fun v hv=>by simp only[List.mem_singleton]at hv;subst hv;exact aIK h
 |_,_,_,.agg h hn=>dU.zB h
 |_,_,_,.arr h hn=>eH.zB h
 |_,_,_,.iV h=>fun v hv=>by simp only[List.mem_singleton]at hv;subst hv;rfl
 |_,_,_,.fro h hrd hb hc hl=>fun v hv=>by simp only[List.mem_singleton]at hv;subst hv;rfl
 |_,_,_,.cH h hrd hb=>fun v hv=>by simp only[List.mem_singleton]at hv;subst hv;rfl
 |_,_,_,.sl0=>fun v hv=>by simp only[List.mem_singleton]at hv;subst hv;rfl
 |_,_,_,.sl h1 h2 h3 h4=>fun v hv=>by simp only[List.mem_singleton]at hv;subst hv;rfl
 |_,_,_,.ptr h=>fun v hv=>by simp only[List.mem_singleton]at hv;subst hv;rfl
 |_,_,_,.clo h=>fun v hv=>by simp only[List.mem_singleton]at hv;subst hv;rfl
theorem dU.zB:∀ {ρ:Nat->Option Loc} {ts:List AV} {cs:List Value},dU w F ρ ts cs->∀ v∈cs,v.oneCell'=true
 |_,_,_,.nil=>fun v hv=>by cases hv
 |_,_,_,.cons h1 h2=>fun v hv=>by
  rcases List.mem_append.1 hv with h|h
  ·exact bR.zB h1 v h
  ·exact dU.zB h2 v h
theorem eH.zB:∀ {es:Nat} {ts:List AV} {cs:List Value},eH w F es ts cs->∀ v∈cs,v.oneCell'=true
 |_,_,_,.nil=>fun v hv=>by cases hv
 |_,_,_,.cons h1 h2 h3=>fun v hv=>by
  rcases List.mem_append.1 hv with h|h
  ·exact bR.zB h1 v h
  ·exact eH.zB h3 v h
end
theorem bR.single {ρ:Nat->Option Loc} {t:AV} {cs:List Value} (h:bR w F ρ t cs) (ha:t.isAgg=false):∃ v,cs=[v]:=by cases h<;>first|exact⟨_,rfl⟩|simp[AV.isAgg]at ha
theorem bR.storable {ρ:Nat->Option Loc} {t:AV} {cs:List Value} (h:bR w F ρ t cs):t.storable=true:=by cases h<;>rfl
mutual
theorem bR.free:∀ {ρ ρ':Nat->Option Loc} {t:AV} {cs:List Value},t.fB=true->bR w F ρ t cs->bR w F ρ' t cs
 |_,_,_,_,_,.sc h=>.sc h
 |_,_,_,_,hi,.agg h hn=>.agg (dU.free (by simpa [AV.fB]using hi) h) hn
 |_,_,_,_,_,.arr h hn=>.arr h hn
 |_,_,_,_,_,.iV h=>.iV h
 |_,_,_,_,_,.fro h hrd hb hc hl=>.fro h hrd hb hc hl
 |_,_,_,_,_,.cH h hrd hb=>.cH h hrd hb
 |_,_,_,_,hi,.sl0=>.sl0
 |_,_,_,_,hi,.sl h1 h2 h3 h4=>by simp[AV.fB]at hi
 |_,_,_,_,hi,.ptr h=>by simp[AV.fB]at hi
 |_,_,_,_,hi,.clo h=>.clo (kU.free (by simpa [AV.fB]using hi) h)
theorem dU.free:∀ {ρ ρ':Nat->Option Loc} {ts:List AV} {cs:List Value},AV.j7 ts=true->dU w F ρ ts cs->dU w F ρ' ts cs
 |_,_,_,_,_,.nil=>.nil
 |_,_,_,_,hi,.cons h1 h2=>by simp only[AV.j7,zaG]at hi;exact .cons (bR.free hi.1 h1) (dU.free hi.2 h2)
theorem kU.free:∀ {ρ ρ':Nat->Option Loc} {ts:List AV} {cs:List Value},AV.j7 ts=true->kU w F ρ ts cs->kU w F ρ' ts cs
 |_,_,_,_,_,.nil=>.nil
 |_,_,_,_,hi,.cons h1 h2 h3=>by simp only[AV.j7,zaG]at hi;exact .cons (bR.free hi.1 h1) h2 (kU.free hi.2 h3)
end
def aDE (n:Nat) (ρ:Nat->Option Loc):Nat->Option Loc:=fun i=>if i<n then ρ i else none
theorem aSC {n i:Nat} {ρ:Nat->Option Loc} (h:Nat.blt i n=true):aDE n ρ i=ρ i:=by have:i<n:=Nat.le_of_ble_eq_true h;simp[aDE,this]
mutual
theorem bR.cut {n:Nat}:∀ {ρ:Nat->Option Loc} {t:AV} {cs:List Value},t.sN n=true->bR w F ρ t cs->bR w F (aDE n ρ) t cs
 |_,_,_,_,.sc h=>.sc h
 |_,_,_,hi,.agg h hn=>.agg (dU.cut (by simpa [AV.sN]using hi) h) hn
 |_,_,_,_,.arr h hn=>.arr h hn
 |_,_,_,_,.iV h=>.iV h
 |_,_,_,_,.fro h hrd hb hc hl=>.fro h hrd hb hc hl
 |_,_,_,_,.cH h hrd hb=>.cH h hrd hb
 |_,_,_,_,.sl0=>.sl0
 |_,_,_,hi,.sl h1 h2 h3 h4=>.sl (by rw[aSC (by simpa [AV.sN]using hi)];exact h1) h2 h3 h4
 |_,_,_,hi,.ptr h=>.ptr (by rw[aSC (by simpa [AV.sN]using hi)];exact h)
 |_,_,_,hi,.clo h=>.clo (kU.cut (by simpa [AV.sN]using hi) h)
theorem dU.cut {n:Nat}:∀ {ρ:Nat->Option Loc} {ts:List AV} {cs:List Value},AV.vJ n ts=true->dU w F ρ ts cs->dU w F (aDE n ρ) ts cs
 |_,_,_,_,.nil=>.nil
 |_,_,_,hi,.cons h1 h2=>by simp only[AV.vJ,zaG]at hi;exact .cons (bR.cut hi.1 h1) (dU.cut hi.2 h2)
theorem kU.cut {n:Nat}:∀ {ρ:Nat->Option Loc} {ts:List AV} {cs:List Value},AV.vJ n ts=true->kU w F ρ ts cs->kU w F (aDE n ρ) ts cs
 |_,_,_,_,.nil=>.nil
 |_,_,_,hi,.cons h1 h2 h3=>by simp only[AV.vJ,zaG]at hi;exact .cons (bR.cut hi.1 h1) h2 (kU.cut hi.2 h3)
end
mutual
theorem bS.cut {n:Nat}:∀ {ρ:Nat->Option Loc} {t:AV} {v:Value},t.sN n=true->bS w F ρ t v->bS w F (aDE n ρ) t v
 |_,_,_,hi,.one h ha=>.one (h.cut hi) ha
 |_,_,_,hi,.agg h ha=>.agg (h.cut hi) ha
 |_,_,_,hi,.tup h=>.tup (bW.cut (by simpa [AV.sN]using hi) h)
 |_,_,_,_,.eQ=>.eQ
 |_,_,_,_,.unk=>.unk
theorem bW.cut {n:Nat}:∀ {ρ:Nat->Option Loc} {ts:List AV} {vs:List Value},AV.vJ n ts=true->bW w F ρ ts vs->bW w F (aDE n ρ) ts vs
 |_,_,_,_,.nil=>.nil
 |_,_,_,hi,.cons h1 h2=>by simp only[AV.vJ,zaG]at hi;exact .cons (bS.cut hi.1 h1) (bW.cut hi.2 h2)
end
theorem Ext.refl (F:Nat->Prop) (w:World):Ext F w w:=⟨fun _ _=>rfl,fun b cur e h=>⟨cur,h,rfl⟩⟩
theorem bR.up {ρ:Nat->Option Loc} {t:AV} {cs:List Value} (h:bR w F gF t cs):bR w F ρ t cs := h.mono (Ext.refl F w) (fun _ h=>h) (fun i l hi=>by simp[gF]at hi)
theorem dU.nth:∀ {ρ:Nat->Option Loc} {ts:List AV} {cs:List Value} {i:Nat} {t:AV},dU w F ρ ts cs->ts[i]? = some t ->
  ∃ pre mid post,cs=pre++(mid++post)/\pre.length=j6 (ts.take i)/\bR w F ρ t mid/\dU w F ρ (ts.take i) pre/\dU w F ρ (ts.drop (i+1)) post
 |_,_,_,i,_,.nil,ht=>by simp at ht
 |_,_,_,0,_,.cons h1 h2,ht=>by simp only[List.getElem?_cons_zero,zaA]at ht;subst ht;exact⟨[],_,_,rfl,rfl,h1,.nil,by simpa using h2⟩
 |_,_,_,i+1,_,.cons h1 h2,ht=>by simp only[List.getElem?_cons_succ]at ht;obtain⟨pre,mid,post,rfl,hp,hm,hl,hr⟩:=dU.nth h2 ht;exact⟨_++pre,mid,post,by simp,by simp[j6,h1.size,hp],hm,.cons h1 hl,by simpa using hr⟩
theorem eH.nth:∀ {es:Nat} {ts:List AV} {cs:List Value} {i:Nat} {t:AV},eH w F es ts cs->ts[i]? = some t ->
  ∃ pre mid post,cs=pre++(mid++post)/\pre.length=i*es/\bR w F gF t mid/\mid.length=es/\eH w F es (ts.take i) pre/\eH w F es (ts.drop (i+1)) post
 |_,_,_,i,_,.nil,ht=>by simp at ht
 |_,_,_,0,_,.cons h1 h0 h2,ht=>by simp only[List.getElem?_cons_zero,zaA]at ht;subst ht;exact⟨[],_,_,rfl,by simp,h1,h0,.nil,by simpa using h2⟩
 |es,_,_,i+1,_,.cons h1 h0 h2,ht=>by simp only[List.getElem?_cons_succ]at ht;obtain⟨pre,mid,post,rfl,hp,hm,hs,hl,hr⟩:=eH.nth h2 ht;exact⟨_++pre,mid,post,by simp,by simp[h0,hp,Nat.add_mul];omega,hm,hs,.cons h1 h0 hl,by simpa using hr⟩
theorem dU.append:∀ {ρ:Nat->Option Loc} {ts us:List AV} {cs ds:List Value},dU w F ρ ts cs->dU w F ρ us ds->dU w F ρ (ts++us) (cs++ds)
 |_,_,_,_,_,.nil,h=>h
 |_,_,_,_,_,.cons h1 h2,h=>by simp only[List.cons_append,List.append_assoc];exact .cons h1 (dU.append h2 h)
theorem eH.append:∀ {es:Nat} {ts us:List AV} {cs ds:List Value},eH w F es ts cs->eH w F es us ds->eH w F es (ts++us) (cs++ds)
 |_,_,_,_,_,.nil,h=>h
 |_,_,_,_,_,.cons h1 h0 h2,h=>by simp only[List.cons_append,List.append_assoc];exact .cons h1 h0 (eH.append h2 h)
theorem eH.take:∀ {es:Nat} {ts:List AV} {cs:List Value} (n:Nat),eH w F es ts cs->eH w F es (ts.take n) (cs.take (n*es))
 |_,_,_,0,_=>by simp;exact .nil
 |_,_,_,n+1,.nil=>by simp;exact .nil
 |es,_,_,n+1,.cons (c:=c) h1 h0 h2=>by have:=eH.take n h2;have e:c.take ((n+1)*es)=c:=List.take_of_length_le (by rw[h0,Nat.add_mul];omega);rw[List.take_succ_cons,List.take_append,h0,show(n+1)*es-es=n*es by rw[Nat.add_mul];omega,e];exact .cons h1 h0 this
theorem eH.drop:∀ {es:Nat} {ts:List AV} {cs:List Value} (n:Nat),eH w F es ts cs->eH w F es (ts.drop n) (cs.drop (n*es))
 |_,_,_,0,h=>by simpa using h
 |_,_,_,n+1,.nil=>by simp;exact .nil
 |es,_,_,n+1,.cons (c:=c) h1 h0 h2=>by have:=eH.drop n h2;have e:c.drop ((n+1)*es)=[]:=List.drop_of_length_le (by rw[h0,Nat.add_mul];omega);rw[List.drop_succ_cons,List.drop_append,h0,show(n+1)*es-es=n*es by rw[Nat.add_mul];omega,e];simpa using this
theorem yD {α:Type} {ts:List α} {i:Nat} {t u:α} (h:ts[i]? = some t):ts.set i u=ts.take i++(u::ts.drop (i+1)):=by have hi:i<ts.length:=(List.getElem?_eq_some_iff.1 h).1;rw[List.set_eq_take_append_cons_drop];simp[hi]
theorem bR.at:∀(p:List Nat) {ρ:Nat->Option Loc} {t u:AV} {cs:List Value} {o:Nat},bR w F ρ t cs->t.at? p=some (o,u) ->
  ∃ pre mid post,cs=pre++(mid++post)/\pre.length=o/\bR w F ρ u mid /\
   ∀ v t' mid',t.set? p v=some t'->bR w F ρ v mid'->mid'.length=mid.length->bR w F ρ t' (pre++(mid'++post))
 |[],ρ,t,u,cs,o,h,hat=>by simp only[AV.at?,zaA,zaJ]at hat;obtain⟨rfl,rfl⟩:=hat;refine⟨[],cs,[],by simp,rfl,h,fun v t' mid' hs hv _ => ?_⟩;simp only[AV.set?,zaA]at hs;subst hs;simpa using hv
 |i::p,ρ,t,u,cs,o,h,hat=>by
  cases h with
  |agg hl hn =>
   simp only[AV.at?]at hat;split at hat
   ·rename_i t1 ht1;split at hat
    ·rename_i o1 u1 hat1;simp only[zaA,zaJ]at hat;obtain⟨rfl,rfl⟩:=hat;obtain⟨pre,mid,post,rfl,hp,hm,hl1,hl2⟩:=hl.nth ht1;obtain⟨pre2,mid2,post2,rfl,hp2,hm2,aA4⟩:=bR.at p hm hat1;refine⟨pre++pre2,mid2,post2++post,by simp,by simp[hp,hp2],hm2,fun v t' mid' hs hv hlen => ?_⟩;simp only[AV.set?,ht1]at hs;split at hs
     ·rename_i u2 hu2;simp only[zaA]at hs;subst hs;have:=aA4 v u2 mid' hu2 hv hlen;have e:pre++pre2++(mid'++(post2++post))=pre++((pre2++(mid'++post2))++post):=by simp
      rw[e];refine .agg ?_ (by simp at hn ⊢;omega);rw[yD ht1];exact hl1.append (.cons this hl2)
     ·cases hs
    ·cases hat
   ·cases hat
  |arr hl hn =>
   simp only[AV.at?]at hat;split at hat
   ·rename_i t1 ht1;split at hat
    ·rename_i o1 u1 hat1;simp only[zaA,zaJ]at hat;obtain⟨rfl,rfl⟩:=hat;obtain⟨pre,mid,post,rfl,hp,hm,hms,hl1,hl2⟩:=hl.nth ht1;obtain⟨pre2,mid2,post2,rfl,hp2,hm2,aA4⟩:=bR.at p hm hat1;refine⟨pre++pre2,mid2,post2++post,by simp,by simp[hp,hp2],hm2.up,fun v t' mid' hs hv hlen => ?_⟩;simp only[AV.set?,ht1]at hs;split at hs
     ·rename_i u2 hu2;split at hs
      ·rename_i hfree;simp only[zaA]at hs;subst hs;have:=aA4 v u2 mid' hu2 (hv.free hfree) hlen;have e:pre++pre2++(mid'++(post2++post))=pre++((pre2++(mid'++post2))++post):=by simp
       rw[e];refine .arr ?_ (by simp[hn]);rw[yD ht1];exact hl1.append (.cons this (by simp at hms ⊢;omega) hl2)
      ·cases hs
     ·cases hs
    ·cases hat
   ·cases hat
  |_=>simp[AV.at?]at hat
end shape
end Go.Ra
namespace Go.Ra
set_option linter.unusedVariables false
structure Gh where
 ρ:Nat->Option Loc
 F:Nat->Prop
def upd {α:Type} (f:Nat->α) (i:Nat) (x:α):Nat->α:=fun j=>if j=i then x else f j
theorem bU {α:Type} (f:Nat->α) (i:Nat) (x:α):upd f i x i=x:=by simp[upd]
theorem bZ {α:Type} (f:Nat->α) {i j:Nat} (x:α) (h:j≠i):upd f i x j=f j:=by simp[upd,h]
structure Wf (G:Gh) (w:World) (H:Nat->Option AV) (U:Nat->Prop):Prop where
 free:∀ i,U i->H i=none/\G.ρ i=none
 fsz:∀ b,G.F b->b<w.heap.size
 blk:∀ i t,H i=some t ->
  (∃(b o:Nat) (cs:List Value) (cur:Array Value) (e:TypeId),G.ρ i=some (b,o)/\bR w G.F G.ρ t cs/\w.heap[b]? = some (Obj.cells cur e (0,0))/\Reads w b o cs/\¬G.F b) \/
  (G.ρ i=none/\∃ es,t=.arr 0 es [])
 dis:∀(i j b o o':Nat),H i≠none->H j≠none->G.ρ i=some (b,o)->G.ρ j=some (b,o')->i=j
structure Fr where
 w0:World
 S:Nat->Prop
 F0:Nat->Prop
 nt:Nat
structure wE (fr:Fr) (G:Gh) (w:World) (H:Nat->Option AV):Prop where
 os:w.os=fr.w0.os
 tape:w.tape=fr.w0.tape
 output:w.output=fr.w0.output
 size:fr.w0.heap.size<=w.heap.size
 same:∀ b,b<fr.w0.heap.size->¬fr.S b->w.heap[b]? = fr.w0.heap[b]?
 ext:Ext fr.F0 fr.w0 w
 f0:∀ b,fr.F0 b->G.F b
 v9:∀ b,G.F b->fr.F0 b\/fr.S b\/fr.w0.heap.size<=b
 loc:∀(i b o:Nat),H i≠none->G.ρ i=some (b,o)->fr.S b\/fr.w0.heap.size<=b
structure Nxt (fr:Fr) (G:Gh) (w:World) (G':Gh) (w':World) (H':Nat->Option AV) (U':Nat->Prop):Prop where
 wf:Wf G' w' H' U'
 fr:wE fr G' w' H'
 ext:Ext G.F w w'
 leF:∀ b,G.F b->G'.F b
 leR:∀ i l,G.ρ i=some l->G'.ρ i=some l
theorem Ext.trans {F F':Nat->Prop} {a b c:World} (h:Ext F a b) (k:Ext F' b c) (hF:∀ x,F x->F' x):Ext F a c :=
 ⟨fun x hx=>(k.same x (hF x hx)).trans (h.same x hx),fun x cur e hx=>by obtain⟨c1,h1,h2⟩:=h.rows x cur e hx;obtain⟨c2,h3,h4⟩:=k.rows x c1 e h1;exact⟨c2,h3,h4.trans h2⟩⟩
theorem Reads.sO {w w':World} {b o:Nat} {cs:List Value} (h:Reads w b o cs) (hb:w'.heap[b]? = w.heap[b]?):Reads w' b o cs:=by intro j v hj;rw[World.cell?_of_block (a:=⟨b,o+j,none⟩) hb];exact h j v hj
structure iY (w w':World):Prop where
 heap:w'.heap=w.heap
 os:w'.os=w.os
 tape:w'.tape=w.tape
 output:w'.output=w.output
theorem iY.refl (w:World):iY w w:=⟨rfl,rfl,rfl,rfl⟩
structure pF (w w':World) (o:Obj):Prop where
 heap:w'.heap=w.heap.push o
 os:w'.os=w.os
 tape:w'.tape=w.tape
 output:w'.output=w.output
structure aM9 (w w':World) (b:Nat) (cur cur':Array Value) (e:TypeId):Prop where
 old:w.heap[b]? = some (Obj.cells cur e (0,0))
 new:w'.heap[b]? = some (Obj.cells cur' e (0,0))
 other:∀ k,k≠b->w'.heap[k]? = w.heap[k]?
 size:cur'.size=cur.size
 hsz:w'.heap.size=w.heap.size
 os:w'.os=w.os
 tape:w'.tape=w.tape
 output:w'.output=w.output
section
variable {fr:Fr} {G:Gh} {w w':World} {H:Nat->Option AV} {U:Nat->Prop}
theorem lt_of_block {w:World} {b:Nat} {o:Obj} (h:w.heap[b]? = some o):b<w.heap.size:=(Array.getElem?_eq_some_iff.1 h).1
theorem iY.ext (h:iY w w') (F:Nat->Prop):Ext F w w':=⟨fun b _=>by rw[h.heap],fun b cur e hb=>⟨cur,by rw[h.heap];exact hb,rfl⟩⟩
theorem pF.old {o:Obj} (h:pF w w' o) {b:Nat} (hb:b<w.heap.size):w'.heap[b]? = w.heap[b]?:=by rw[h.heap,Array.getElem?_push,if_neg (by omega)]
theorem pF.new {o:Obj} (h:pF w w' o):w'.heap[w.heap.size]? = some o:=by rw[h.heap];simp
theorem pF.size {o:Obj} (h:pF w w' o):w'.heap.size=w.heap.size+1:=by rw[h.heap];simp
theorem pF.ext {o:Obj} (h:pF w w' o) (F:Nat->Prop) (hF:∀ b,F b->b<w.heap.size):Ext F w w' := ⟨fun b hb=>h.old (hF b hb),fun b cur e hb=>⟨cur,by rw[h.old (lt_of_block hb)];exact hb,rfl⟩⟩
theorem aM9.ext {b:Nat} {cur cur':Array Value} {e:TypeId} (h:aM9 w w' b cur cur' e) (F:Nat->Prop) (hF:¬F b):Ext F w w' :=
 ⟨fun k hk=>h.other k (fun hkb=>hF (hkb ▸ hk)),fun k c1 e1 hk=>by
  by_cases hkb:k=b
  ·subst hkb;rw[h.old]at hk;simp only[zaA,Obj.cells.injEq]at hk;obtain⟨rfl,rfl,_⟩:=hk;exact⟨cur',h.new,h.size⟩
  ·exact⟨c1,by rw[h.other k hkb];exact hk,rfl⟩⟩
theorem Nxt.same (hw:Wf G w H U) (hf:wE fr G w H) (h:iY w w'):Nxt fr G w G w' H U:=by
 have hx:=h.ext G.F;refine⟨⟨hw.free,fun b hb=>by rw[h.heap];exact hw.fsz b hb,fun i t hi => ?_,hw.dis⟩,⟨h.os.trans hf.os,h.tape.trans hf.tape,h.output.trans hf.output,by rw[h.heap];exact hf.size,fun b hb hs=>by rw[h.heap];exact hf.same b hb hs,hf.ext.trans (h.ext G.F) hf.f0,hf.f0,hf.v9,hf.loc⟩,hx,fun _ h=>h,fun _ _ h=>h⟩;rcases hw.blk i t hi with⟨b,o,cs,cur,e,h1,h2,h3,h4,h5⟩|h1
 ·exact .inl ⟨b,o,cs,cur,e,h1,h2.mono hx (fun _ h=>h) (fun _ _ h=>h),by rw[h.heap];exact h3,h4.sO (by rw[h.heap]),h5⟩
 ·exact .inr h1
theorem Nxt.frozen (hw:Wf G w H U) (hf:wE fr G w H) {cur:Array Value} {e:TypeId} (h:pF w w' (Obj.cells cur e (0,0))) :
  Nxt fr G w ⟨G.ρ,fun b=>G.F b\/b=w.heap.size⟩ w' H U:=by
 have hx:=h.ext G.F hw.fsz;refine⟨⟨hw.free,fun b hb => ?_,fun i t hi => ?_,hw.dis⟩,⟨h.os.trans hf.os,h.tape.trans hf.tape,h.output.trans hf.output,by rw[h.size];have:=hf.size;omega,fun b hb hs => ?_,hf.ext.trans hx hf.f0,fun b hb=>.inl (hf.f0 b hb),fun b hb => ?_,hf.loc⟩,hx,fun _ h=>.inl h,fun _ _ h=>h⟩
 ·rw[h.size];rcases hb with hb|rfl
  ·have:=hw.fsz b hb;omega
  ·omega
 ·rcases hw.blk i t hi with⟨b,o,cs,cur,e,h1,h2,h3,h4,h5⟩|h1
  ·have hlt:=lt_of_block h3;refine .inl ⟨b,o,cs,cur,e,h1,h2.mono hx (fun _ h=>.inl h) (fun _ _ h=>h),by rw[h.old hlt];exact h3,h4.sO (h.old hlt), ?_⟩;rintro (hb|rfl)
   ·exact h5 hb
   ·omega
  ·exact .inr h1
 ·rw[h.old (by have:=hf.size;omega)];exact hf.same b hb hs
 ·rcases hb with hb|rfl
  ·exact hf.v9 b hb
  ·exact .inr (.inr hf.size)
theorem Nxt.own (hw:Wf G w H U) (hf:wE fr G w H) {cur:Array Value} {e:TypeId} (h:pF w w' (Obj.cells cur e (0,0)))
  {i:Nat} (hU:U i) {t:AV} {cs:List Value} (ht:bR w G.F G.ρ t cs) (hc:∀(j:Nat) (v:Value),cs[j]? = some v->cur[j]? = some v) {U':Nat->Prop} (hU':∀ j,U' j->U j/\j≠i) :
  Nxt fr G w ⟨upd G.ρ i (some (w.heap.size,0)),G.F⟩ w' (upd H i (some t)) U':=by
 have hx:=h.ext G.F hw.fsz;have hfree:=hw.free i hU;have hle:∀ j l,G.ρ j=some l->upd G.ρ i (some (w.heap.size,0)) j=some l:=fun j l hj=>by
  rw[bZ]
  ·exact hj
  ·rintro rfl;rw[hfree.2]at hj;cases hj
 have hlt:∀ j b o,H j≠none->G.ρ j=some (b,o)->b<w.heap.size:=fun j b o hj hr=>by
  cases hj':H j with
  |none=>exact absurd hj' hj
  |some t =>
   rcases hw.blk j t hj' with⟨b',o',cs,cur,e,h1,h2,h3,h4,h5⟩|h1
   ·rw[hr]at h1;simp only[zaA,zaJ]at h1;rw[h1.1];exact lt_of_block h3
   ·rw[hr]at h1;cases h1.1
 refine⟨⟨fun j hj => ?_,fun b hb=>by rw[h.size];have:=hw.fsz b hb;omega,fun j u hj => ?_,fun j k b o o' hj hk hrj hrk => ?_⟩,
  ⟨h.os.trans hf.os,h.tape.trans hf.tape,h.output.trans hf.output,by rw[h.size];have:=hf.size;omega,fun b hb hs=>by rw[h.old (by have:=hf.size;omega)];exact hf.same b hb hs,hf.ext.trans hx hf.f0,hf.f0,hf.v9,fun j b o hj hr => ?_⟩,hx,fun _ h=>h,hle⟩
 ·obtain⟨hj1,hj2⟩:=hU' j hj;rw[bZ _ _ hj2];exact⟨(hw.free j hj1).1,by show upd G.ρ i _ j=none;rw[bZ _ _ hj2];exact(hw.free j hj1).2⟩
 ·by_cases hji:j=i
  ·subst hji;rw[bU]at hj;simp only[zaA]at hj;subst hj;refine .inl ⟨w.heap.size,0,cs,cur,e,bU _ _ _,ht.mono hx (fun _ h=>h) hle,h.new,fun k v hk => ?_,fun hb=>by have:=hw.fsz _ hb;omega⟩;rw[World.cell?,h.new];simpa using hc k v hk
  ·rw[bZ _ _ hji]at hj;rcases hw.blk j u hj with⟨b,o,cs,cur,e,h1,h2,h3,h4,h5⟩|h1
   ·have hb:=lt_of_block h3;exact .inl ⟨b,o,cs,cur,e,by show upd G.ρ i _ j=_;rw[bZ _ _ hji];exact h1,h2.mono hx (fun _ h=>h) hle,by rw[h.old hb];exact h3,h4.sO (h.old hb),h5⟩
   ·exact .inr ⟨by show upd G.ρ i _ j=_;rw[bZ _ _ hji];exact h1.1,h1.2⟩
 ·change upd G.ρ i _ j=_ at hrj;change upd G.ρ i _ k=_ at hrk;by_cases hji:j=i
  ·by_cases hki:k=i
   ·rw[hji,hki]
   ·rw[hji,bU]at hrj;rw[bZ _ _ hki]at hrk hk;simp only[zaA,zaJ]at hrj;have:=hlt k b o' hk hrk;omega
  ·rw[bZ _ _ hji]at hrj hj;by_cases hki:k=i
   ·rw[hki,bU]at hrk;simp only[zaA,zaJ]at hrk;have:=hlt j b o hj hrj;omega
   ·rw[bZ _ _ hki]at hrk hk;exact hw.dis j k b o o' hj hk hrj hrk
 ·change upd G.ρ i _ j=_ at hr;by_cases hji:j=i
  ·rw[hji,bU]at hr;simp only[zaA,zaJ]at hr;exact .inr (by rw[<-hr.1];exact hf.size)
  ·rw[bZ _ _ hji]at hr hj;exact hf.loc j b o hj hr
theorem Nxt.none (hw:Wf G w H U) (hf:wE fr G w H) (h:iY w w') {i:Nat} (hU:U i) (es:Nat) {U':Nat->Prop} (hU':∀ j,U' j->U j/\j≠i) :
  Nxt fr G w G w' (upd H i (some (.arr 0 es []))) U':=by
 have h0:=Nxt.same hw hf h;have hfree:=hw.free i hU;refine⟨⟨fun j hj => ?_,h0.wf.fsz,fun j t hj => ?_,fun j k b o o' hj hk hrj hrk => ?_⟩,⟨h0.fr.os,h0.fr.tape,h0.fr.output,h0.fr.size,h0.fr.same,h0.fr.ext,h0.fr.f0,h0.fr.v9,fun j b o hj hr => ?_⟩,h0.ext,h0.leF,h0.leR⟩
 ·obtain⟨hj1,hj2⟩:=hU' j hj;rw[bZ _ _ hj2];exact hw.free j hj1
 ·by_cases hji:j=i
  ·subst hji;rw[bU]at hj;simp only[zaA]at hj;exact .inr ⟨hfree.2,es,hj.symm⟩
  ·rw[bZ _ _ hji]at hj;exact h0.wf.blk j t hj
 ·have hji:j≠i:=by rintro rfl;rw[hfree.2]at hrj;cases hrj
  have hki:k≠i:=by rintro rfl;rw[hfree.2]at hrk;cases hrk
  rw[bZ _ _ hji]at hj;rw[bZ _ _ hki]at hk;exact hw.dis j k b o o' hj hk hrj hrk
 ·have hji:j≠i:=by rintro rfl;rw[hfree.2]at hr;cases hr
  rw[bZ _ _ hji]at hj;exact h0.fr.loc j b o hj hr
theorem Wf.kill (hw:Wf G w H U) (k:Nat):Wf G w (upd H k Option.none) U:=by
 have hne:∀ j,upd H k Option.none j≠Option.none->H j≠Option.none:=fun j hj=>by
  by_cases hjk:j=k
  ·rw[hjk,bU]at hj;exact absurd rfl hj
  ·rwa [bZ _ _ hjk]at hj
 refine⟨fun i hi=>⟨?_,(hw.free i hi).2⟩,hw.fsz,fun i t hi => ?_,fun i j b o o' hi hj=>hw.dis i j b o o' (hne i hi) (hne j hj)⟩
 ·by_cases hik:i=k
  ·rw[hik,bU]
  ·rw[bZ _ _ hik];exact(hw.free i hi).1
 ·by_cases hik:i=k
  ·rw[hik,bU]at hi;cases hi
  ·rw[bZ _ _ hik]at hi;exact hw.blk i t hi
theorem wE.kill (hf:wE fr G w H) (k:Nat):wE fr G w (upd H k Option.none) :=
 ⟨hf.os,hf.tape,hf.output,hf.size,hf.same,hf.ext,hf.f0,hf.v9,fun j b o hj hr=>by
  by_cases hjk:j=k
  ·rw[hjk,bU]at hj;exact absurd rfl hj
  ·rw[bZ _ _ hjk]at hj;exact hf.loc j b o hj hr⟩
theorem Nxt.rewrite (hw:Wf G w H U) (hf:wE fr G w H) {k i b o o':Nat} {t t':AV} {cs':List Value} {cur cur':Array Value} {e:TypeId}
  (hk:H k=some t) (hr:G.ρ k=some (b,o)) (h:aM9 w w' b cur cur' e) (hi:(i=k/\o'=o)\/U i)
  (ht:bR w G.F G.ρ t' cs') (hc:∀(j:Nat) (v:Value),cs'[j]? = some v->cur'[o'+j]? = some v) {U':Nat->Prop} (hU':∀ j,U' j->U j/\j≠i) :
  Nxt fr G w ⟨upd G.ρ i (some (b,o')),G.F⟩ w' (upd (upd H k Option.none) i (some t')) U':=by
 have hnF:¬G.F b:=by
  rcases hw.blk k t hk with⟨b',o1,cs,c1,e1,h1,h2,h3,h4,h5⟩|h1
  ·rw[hr]at h1;simp only[zaA,zaJ]at h1;rw[h1.1];exact h5
  ·rw[hr]at h1;cases h1.1
 have hx:=h.ext G.F hnF;have hle:∀ j l,G.ρ j=some l->upd G.ρ i (some (b,o')) j=some l:=fun j l hj=>by
  by_cases hji:j=i
  ·subst hji;rcases hi with⟨rfl,rfl⟩|hi
   ·rw[bU,<-hr,hj]
   ·rw[(hw.free j hi).2]at hj;cases hj
  ·rw[bZ _ _ hji];exact hj
 have live:∀ j,j≠i->upd (upd H k Option.none) i (some t') j≠Option.none->H j≠Option.none/\j≠k:=fun j hji hj=>by
  rw[bZ _ _ hji]at hj;by_cases hjk:j=k
  ·rw[hjk,bU]at hj;exact absurd rfl hj
  ·rw[bZ _ _ hjk]at hj;exact⟨hj,hjk⟩
 have apart:∀ j b1 o1,H j≠Option.none->j≠k->G.ρ j=some (b1,o1)->b1≠b:=fun j b1 o1 hj hjk hrj hbb=>by subst hbb;exact hjk (hw.dis j k b1 o1 o hj (by rw[hk];simp) hrj hr)
 have hS:=hf.loc k b o (by rw[hk];simp) hr;refine⟨⟨fun j hj => ?_,fun b1 hb=>by rw[h.hsz];exact hw.fsz b1 hb,fun j u hj => ?_,fun j l b1 o1 o2 hj hl hrj hrl => ?_⟩,
  ⟨h.os.trans hf.os,h.tape.trans hf.tape,h.output.trans hf.output,by rw[h.hsz];exact hf.size,fun b1 hb hs => ?_,hf.ext.trans hx hf.f0,hf.f0,hf.v9,fun j b1 o1 hj hrj => ?_⟩,hx,fun _ h=>h,hle⟩
 ·obtain⟨hj1,hj2⟩:=hU' j hj;have hfj:=hw.free j hj1;refine⟨?_,by show upd G.ρ i _ j=_;rw[bZ _ _ hj2];exact hfj.2⟩;rw[bZ _ _ hj2];by_cases hjk:j=k
  ·rw[hjk,bU]
  ·rw[bZ _ _ hjk];exact hfj.1
 ·by_cases hji:j=i
  ·subst hji;rw[bU]at hj;simp only[zaA]at hj;subst hj;refine .inl ⟨b,o',cs',cur',e,bU _ _ _,ht.mono hx (fun _ h=>h) hle,h.new,fun n v hn => ?_,hnF⟩;rw[World.cell?,h.new];simpa using hc n v hn
  ·have hl:=live j hji (by rw[hj];simp);rw[bZ _ _ hji,bZ _ _ hl.2]at hj;rcases hw.blk j u hj with⟨b1,o1,cs,c1,e1,h1,h2,h3,h4,h5⟩|h1
   ·have hne:=apart j b1 o1 hl.1 hl.2 h1;exact .inl ⟨b1,o1,cs,c1,e1,by show upd G.ρ i _ j=_;rw[bZ _ _ hji];exact h1,h2.mono hx (fun _ h=>h) hle,by rw[h.other b1 hne];exact h3,h4.sO (h.other b1 hne),h5⟩
   ·exact .inr ⟨by show upd G.ρ i _ j=_;rw[bZ _ _ hji];exact h1.1,h1.2⟩
 ·change upd G.ρ i _ j=_ at hrj;change upd G.ρ i _ l=_ at hrl;by_cases hji:j=i
  ·by_cases hli:l=i
   ·rw[hji,hli]
   ·rw[hji,bU]at hrj;rw[bZ _ _ hli]at hrl;have hll:=live l hli hl;simp only[zaA,zaJ]at hrj;exact absurd hrj.1.symm (apart l b1 o2 hll.1 hll.2 hrl)
  ·rw[bZ _ _ hji]at hrj;have hlj:=live j hji hj;by_cases hli:l=i
   ·rw[hli,bU]at hrl;simp only[zaA,zaJ]at hrl;exact absurd hrl.1.symm (apart j b1 o1 hlj.1 hlj.2 hrj)
   ·rw[bZ _ _ hli]at hrl;exact hw.dis j l b1 o1 o2 hlj.1 (live l hli hl).1 hrj hrl
 ·by_cases hbb:b1=b
  ·subst hbb;rcases hS with h1|h1
   ·exact absurd h1 hs
   ·omega
  ·rw[h.other b1 hbb];exact hf.same b1 hb hs
 ·change upd G.ρ i _ j=_ at hrj;by_cases hji:j=i
  ·rw[hji,bU]at hrj;simp only[zaA,zaJ]at hrj;rw[<-hrj.1];exact hS
  ·rw[bZ _ _ hji]at hrj;exact hf.loc j b1 o1 (live j hji hj).1 hrj
end
end Go.Ra
namespace Go.Ra
set_option linter.unusedVariables false
set_option linter.unusedSimpArgs false
theorem aQC:∀ {v u:Value},aFJ v u=true->v=u/\qA v=true:=by
 intro v u h;cases v<;>cases u<;>simp[aFJ]at h
 case bool.bool=>exact⟨by rw[h],rfl⟩
 case int.int=>exact⟨by rw[h.1,h.2],rfl⟩
 case string.string a b => refine⟨?_,rfl⟩;congr 1;exact ByteArray.ext h
 case pointer.pointer a b => cases a<;>cases b<;>simp[aFJ]at h;exact⟨rfl,rfl⟩
theorem aQD {x:Bool} {es:Nat} {ts:List AV} {cs r:List Value} (h:jH (.fro x es ts) cs=some r):∃ c,cs=c++r/\∀ w F ρ,bR w F ρ (.fro x es ts) c:=by
 cases ts with
 |cons _ _=>cases cs<;>simp[jH]at h
 |nil =>
  cases cs with
  |nil=>simp[jH]at h
  |cons u l =>
   unfold jH at h;split at h
   all_goals first
    |(rename_i heq1 heq2
      simp only[List.cons.injEq]at heq2;obtain⟨rfl,rfl⟩:=heq2;simp only[zaA]at h;subst h;exact⟨[_],rfl,fun w F ρ=>.iV (fun _=>rfl)⟩)
    |(simp_all;done)
mutual
theorem aAH:∀ {t:AV} {cs r:List Value},jH t cs=some r->∃ c,cs=c++r/\∀ w F ρ,bR w F ρ t c
 |.sc v,cs,r,h=>by
  cases cs with
  |nil=>simp[jH]at h
  |cons u l =>
   simp only[jH]at h;split at h
   ·rename_i he;obtain⟨rfl,hp⟩:=aQC he;simp only[zaA]at h;subst h;exact⟨[v],rfl,fun w F ρ=>.sc hp⟩
   ·cases h
 |.fro x es ts,cs,r,h=>aQD h
 |.agg n ts,cs,r,h=>by
  simp only[jH]at h;split at h
  ·rename_i r' hr;split at h
   ·rename_i hl;simp only[zaA]at h;subst h;obtain⟨c,rfl,hc⟩:=aEC hr;exact⟨c,rfl,fun w F ρ=>.agg (hc w F ρ) (by simp at hl;omega)⟩
   ·cases h
  ·cases h
 |.arr n es ts,cs,r,h=>by
  simp only[jH]at h;split at h
  ·rename_i hl;obtain⟨c,rfl,hc⟩:=aED h;exact⟨c,rfl,fun w F ρ=>.arr (hc w F) hl⟩
  ·cases h
 |.cH _,_,_,h=>by simp[jH]at h
 |.sl ..,_,_,h=>by simp[jH]at h
 |.ptr ..,_,_,h=>by simp[jH]at h
 |.clo ..,_,_,h=>by simp[jH]at h
 |.tup _,_,_,h=>by simp[jH]at h
 |.eQ,_,_,h=>by simp[jH]at h
 |.unk,_,_,h=>by simp[jH]at h
theorem aEC:∀ {ts:List AV} {cs r:List Value},aA5 ts cs=some r->∃ c,cs=c++r/\∀ w F ρ,dU w F ρ ts c
 |[],cs,r,h=>by simp only[aA5,zaA]at h;subst h;exact⟨[],rfl,fun _ _ _=>.nil⟩
 |t::ts,cs,r,h=>by
  simp only[aA5]at h;split at h
  ·rename_i r' hr;obtain⟨c,rfl,hc⟩:=aAH hr;obtain⟨c',rfl,hc'⟩:=aEC h;exact⟨c++c',by simp,fun w F ρ=>.cons (hc w F ρ) (hc' w F ρ)⟩
  ·cases h
theorem aED:∀ {ts:List AV} {es:Nat} {cs r:List Value},aA6 es ts cs=some r->∃ c,cs=c++r/\∀ w F,eH w F es ts c
 |[],es,cs,r,h=>by simp only[aA6,zaA]at h;subst h;exact⟨[],rfl,fun _ _=>.nil⟩
 |t::ts,es,cs,r,h=>by
  simp only[aA6]at h;split at h
  ·rename_i r' hr;split at h
   ·rename_i hsz;obtain⟨c,rfl,hc⟩:=aAH hr;obtain⟨c',rfl,hc'⟩:=aED h;exact⟨c++c',by simp,fun w F=>.cons (hc w F gF) (by rw[(hc w F gF).size,hsz]) (hc' w F)⟩
   ·cases h
  ·cases h
end
theorem sR {P:Program} {t:TypeId} {z:AV} (h:zI P t=some z):∃ i v,P.info? t=some i/\i.zero=some v/\z.fB=true/\∀ w F ρ,bR w F ρ z v.cells.toList/\bS w F ρ z v:=by
 unfold zI at h;split at h
 ·rename_i z' i hz hi;split at h
  ·rename_i v hv;split at h
   ·rename_i hm;split at h
    ·rename_i hc;simp only[zaA]at h;subst h;simp only[zaG,beq_iff_eq]at hc;obtain⟨c,hcs,hrel⟩:=aAH hm;simp only[List.append_nil]at hcs;refine⟨i,v,hi,hv,hc.2,fun w F ρ => ?_⟩;have h1:bR w F ρ z' v.cells.toList:=by rw[hcs];exact hrel w F ρ
     refine⟨h1, ?_⟩;cases v with
     |agg cs => have:=bS.agg (cs:=cs.toList) (by simpa [Value.cells]using h1) (by simpa [a80]using hc.1);simpa using this
     |_=>exact .one (by simpa [Value.cells]using h1) (by simpa [a80]using hc.1)
    ·cases h
   ·cases h
  ·cases h
 ·cases h
section inv
variable {w:World} {F:Nat->Prop} {ρ:Nat->Option Loc}
theorem bS.mT {v u:Value} (h:bS w F ρ (.sc v) u):u=v/\qA v=true:=by
 cases h with
 |one h _=>cases h with|sc h=>exact⟨rfl,h⟩
 |agg h ha=>simp[AV.isAgg]at ha
theorem bS.oL {id off:Nat} {path:List Nat} {u:Value} (h:bS w F ρ (.ptr id path off) u):∃ b o,ρ id=some (b,o)/\u=.pointer (some ⟨b,o+off,none⟩):=by
 cases h with
 |one h _=>cases h with|ptr h=>exact⟨_,_,h,rfl⟩
 |agg h ha=>simp[AV.isAgg]at ha
theorem bS.wG {t:AV} {u:Value} (h:bS w F ρ (.cH t) u):∃ b o cs,u=.pointer (some ⟨b,o,none⟩)/\bR w F gF t cs/\Reads w b o cs/\F b:=by
 cases h with
 |one h _=>cases h with|cH h1 h2 h3=>exact⟨_,_,_,rfl,h1,h2,h3⟩
 |agg h ha=>simp[AV.isAgg]at ha
theorem bS.rH {x:Bool} {es:Nat} {ts:List AV} {u:Value} (h:bS w F ρ (.fro x es ts) u) :
  ∃ a cap,u=.slice a ts.length cap/\ts.length<=cap/\(x=true->cap=ts.length)/\((ts=[])\/∃ b o cs,a=some ⟨b,o,none⟩/\eH w F es ts cs/\Reads w b o cs/\F b):=by
 cases h with
 |one h _ =>
  cases h with
  |iV h=>exact⟨_,_,rfl,Nat.zero_le _,fun hx=>h hx,.inl rfl⟩
  |fro h1 h2 h3 h4 h5=>exact⟨_,_,rfl,h5,h4,.inr ⟨_,_,_,rfl,h1,h2,h3⟩⟩
 |agg h ha=>simp[AV.isAgg]at ha
theorem bS.qB {id off k len es:Nat} {path:List Nat} {u:Value} (h:bS w F ρ (.sl id path off k len es) u) :
  ∃ a cap,u=.slice a len cap/\len<=cap/\((len=0/\cap=0)\/∃ b o cur e,a=some ⟨b,o+off,none⟩/\ρ id=some (b,o)/\w.heap[b]? = some (Obj.cells cur e (0,0))/\o+off+cap*es<=cur.size):=by
 cases h with
 |one h _ =>
  cases h with
  |sl0=>exact⟨_,_,rfl,zaF _,.inl ⟨rfl,rfl⟩⟩
  |sl h1 h2 h3 h4=>exact⟨_,_,rfl,h2,.inr ⟨_,_,_,_,rfl,h1,h3,h4⟩⟩
 |agg h ha=>simp[AV.isAgg]at ha
theorem bS.aSD {f:Nat} {caps:List AV} {u:Value} (h:bS w F ρ (.clo f caps) u):∃ cs,u=.func (.func f) #[] cs.toArray/\kU w F ρ caps cs:=by
 cases h with
 |one h _=>cases h with|clo h=>exact⟨_,rfl,h⟩
 |agg h ha=>simp[AV.isAgg]at ha
theorem bS.aFK {ts:List AV} {u:Value} (h:bS w F ρ (.tup ts) u):∃ vs,u=.tuple vs.toArray/\bW w F ρ ts vs:=by
 cases h with
 |one h _=>cases h
 |agg h ha=>simp[AV.isAgg]at ha
 |tup h=>exact⟨_,rfl,h⟩
theorem bS.aNA {u:Value} (h:bS w F ρ .eQ u):∃ b,u=.bool b:=by
 cases h with
 |one h _=>cases h
 |agg h ha=>simp[AV.isAgg]at ha
 |eQ=>exact⟨_,rfl⟩
theorem aVE {v:Value} (h:v.oneCell'=true):v.cells = #[v]:=by cases v<;>first|rfl|simp[Value.oneCell']at h
theorem bS.cells {t:AV} {u:Value} (h:bS w F ρ t u) (hs:t.storable=true):bR w F ρ t u.cells.toList:=by
 cases h with
 |one h h0=>rw[aVE (h.zB u (by simp))];simpa using h
 |agg h _=>simpa [Value.cells]using h
 |tup _=>simp[AV.storable]at hs
 |eQ=>simp[AV.storable]at hs
 |unk=>simp[AV.storable]at hs
theorem bW.nth:∀ {ts:List AV} {vs:List Value} {i:Nat} {t:AV},bW w F ρ ts vs->ts[i]? = some t->∃ v,vs[i]? = some v/\bS w F ρ t v
 |_,_,i,_,.nil,h=>by simp at h
 |_,_,0,_,.cons h1 h2,h=>by simp only[List.getElem?_cons_zero,zaA]at h;subst h;exact⟨_,rfl,h1⟩
 |_,_,i+1,_,.cons h1 h2,h=>by simp only[List.getElem?_cons_succ]at h;obtain⟨v,hv,hr⟩:=bW.nth h2 h;exact⟨v,by simpa using hv,hr⟩
end inv
inductive Chg where
 |same
 |new (t:AV)
 |put (k:Nat) (t:AV)
 |move (k:Nat) (t:AV)
def Chg.st:Chg->St->St
 |.same,σ=>σ
 |.new t,σ=>σ.new t
 |.put k t,σ=>σ.rB k (some t)
 |.move k t,σ=>(σ.rB k none).new t
def Chg.H:Chg->Nat->(Nat->Option AV)->Nat->Option AV
 |.same,_,H=>H
 |.new t,n,H=>upd H n (some t)
 |.put k t,_,H=>upd (upd H k none) k (some t)
 |.move k t,n,H=>upd (upd H k none) n (some t)
def Chg.mU:Chg->Bool
 |.new _=>true
 |.move _ _=>true
 |_=>false
def Chg.key:Chg->Option Nat
 |.put k _=>some k
 |.move k _=>some k
 |_=>none
def a82 (fr:Fr) (G:Gh) (w:World) (r:Result Next) (v:AV) (H':Nat->Option AV) (U':Nat->Prop):Prop := ∃ u w' G',(r=.ok (.value u) w'\/(r=.ok .skip w'/\u=undef))/\Nxt fr G w G' w' H' U'/\bS w' G'.F G'.ρ v u
def aSE (σ:St) (G:Gh) (w:World) (a:Act) (o:Op):Prop := ∀ x x',x∈o.operands->trX x=some x'->bS w G.F G.ρ (σ.ev x') (a.eval x)
def Sound (P:Program) (o:Op) (ao:AOp):Prop :=
 ∀(σ σ':St) (v:AV),aX ao σ=some (v,σ')->∃ c:Chg,σ'=c.st σ/\(∀ k,c.key=some k->σ.H k≠none) /\
  ∀(fr:Fr) (oper:Oper) (G:Gh) (w:World) (H:Nat->Option AV) (U:Nat->Prop) (a:Act),oper.op=o->Wf G w H U->wE fr G w H->aSE σ G w a o ->
   (∀ k t,σ.H k=some t->H k=some t)->(c.mU=true->U σ.n) ->
   a82 fr G w ((execOp a.eval oper).run P w) v (c.H σ.n H) (fun j=>U j/\(c.mU=true->j≠σ.n))
def fR (P:Program) (o:Op) (ao:AOp):Prop :=
 ∀(σ σ':St) (v:AV),aX ao σ=some (v,σ')->σ'=σ /\
  ∀(oper:Oper) (G:Gh) (w:World) (H:Nat->Option AV) (U:Nat->Prop) (a:Act),oper.op=o->Wf G w H U->aSE σ G w a o->(∀ k t,σ.H k=some t->H k=some t) ->
   ∃ u,(execOp a.eval oper).run P w=.ok (.value u) w/\bS w G.F G.ρ v u
theorem fR.sound {P:Program} {o:Op} {ao:AOp} (h:fR P o ao):Sound P o ao:=by intro σ σ' v hs;obtain⟨h1,h2⟩:=h σ σ' v hs;refine⟨.same,h1,fun k hk=>by simp[Chg.key]at hk,fun fr oper G w H U a ho hw hf hx hH _ => ?_⟩;obtain⟨u,hr,hv⟩:=h2 oper G w H U a ho hw hx hH;have h0:=Nxt.same hw hf (iY.refl w);refine⟨u,w,G,.inl hr, ?_,hv⟩;simpa [Chg.H,Chg.mU]using h0
end Go.Ra
namespace Go.Ra
set_option linter.unusedVariables false
set_option linter.unusedSimpArgs false
section
variable {P:Program}
theorem iC {s:Sem Value} {u:Value} {w w':World} (h:s.run P w=.ok u w'):(do pure (Next.value (<-s)):Sem Next).run P w=.ok (.value u) w':=by simp[h]
theorem a24 {x:Operand} {x':AX} (hx:trX x=some x'):fR P (.move x) (.mv x'):=by intro σ σ' v hs;simp only[aX,zaA,zaJ]at hs;obtain⟨rfl,rfl⟩:=hs;refine⟨rfl,fun oper G w H U a ho hw hr hH=>⟨_, ?_,hr x x' (by simp[Op.operands]) hx⟩⟩;simp[execOp,ho]
theorem aVF {x:Operand} {x':AX} (hx:trX x=some x'):fR P (.assign x) (.mv x'):=by intro σ σ' v hs;simp only[aX,zaA,zaJ]at hs;obtain⟨rfl,rfl⟩:=hs;refine⟨rfl,fun oper G w H U a ho hw hr hH=>⟨_, ?_,hr x x' (by simp[Op.operands]) hx⟩⟩;simp[execOp,ho]
theorem a25 {c x y:Operand} {c' x' y':AX} (hc:trX c=some c') (hx:trX x=some x') (hy:trX y=some y'):fR P (.pick c x y) (.pick c' x' y'):=by
 intro σ σ' v hs;simp only[aX]at hs;split at hs
 ·rename_i b hb;simp only[zaA,zaJ]at hs;obtain⟨rfl,rfl⟩:=hs;refine⟨rfl,fun oper G w H U a ho hw hr hH => ?_⟩;have h1:=hr c c' (by simp[Op.operands]) hc;rw[hb]at h1;obtain⟨h1,_⟩:=h1.mT;refine⟨if b then a.eval x else a.eval y,by simp[execOp,ho,h1,asBool], ?_⟩;cases b
  ·exact hr y y' (by simp[Op.operands]) hy
  ·exact hr x x' (by simp[Op.operands]) hx
 ·cases hs
theorem aW2 {x:Operand} {x':AX} (hx:trX x=some x'):fR P (.nilCheck x) (.aFT x'):=by
 intro σ σ' v hs;simp only[aX]at hs;split at hs
 all_goals first
  |cases hs;done
  |(rename_i hv
    simp only[zaA,zaJ]at hs;obtain⟨rfl,rfl⟩:=hs;refine⟨rfl,fun oper G w H U a ho hw hr hH => ?_⟩;have h1:=hr x x' (by simp[Op.operands]) hx;rw[hv]at h1;refine⟨a.eval x, ?_,h1⟩
    first
     |(obtain⟨b,o,_,h2⟩:=h1.oL;simp[execOp,ho,h2])
     |(obtain⟨b,o,cs,h2,_⟩:=h1.wG;simp[execOp,ho,h2])
     |(obtain⟨cs,h2,_⟩:=h1.aSD;simp[execOp,ho,h2]))
theorem aQE {x:Operand} {x':AX} {i:Nat} (hx:trX x=some x'):fR P (.extract x i) (.ext x' i):=by
 intro σ σ' v hs;simp only[aX]at hs;split at hs
 ·rename_i vs hv;split at hs
  ·rename_i u hu;simp only[zaA,zaJ]at hs;obtain⟨rfl,rfl⟩:=hs;refine⟨rfl,fun oper G w H U a ho hw hr hH => ?_⟩;have h1:=hr x x' (by simp[Op.operands]) hx;rw[hv]at h1;obtain⟨us,h2,h3⟩:=h1.aFK;obtain⟨z,hz,hrel⟩:=h3.nth hu;exact⟨z,by simp[execOp,ho,h2,Instr.extract,hz],hrel⟩
  ·cases hs
 ·cases hs
theorem a26 {x:Operand} {x':AX} {src dst:TypeId} {j k:IntKind} (h1:P.underlying src=some (.int j)) (h2:P.underlying dst=some (.int k)) (hx:trX x=some x'):fR P (.convert src dst x) (.conv k x'):=by
 intro σ σ' v hs;simp only[aX]at hs;split at hs
 ·rename_i k' n hv;simp only[zaA,zaJ]at hs;obtain⟨rfl,rfl⟩:=hs;refine⟨rfl,fun oper G w H U a ho hw hr hH => ?_⟩;have h3:=hr x x' (by simp[Op.operands]) hx;rw[hv]at h3;obtain⟨h3,_⟩:=h3.mT;refine⟨.int k (k.wrap n), ?_,.one (.sc rfl) rfl⟩;simp[execOp,ho,h3,convert,run_underlying h1,run_underlying h2,Conv.intToInt]
 ·cases hs
theorem bW.aA8 {σ:St} {G:Gh} {w:World} {a:Act}:∀ {xs:List Operand} {xs':List AX},pZ xs=some xs'->(∀ x x',x∈xs->trX x=some x'->bS w G.F G.ρ (σ.ev x') (a.eval x)) ->
  bW w G.F G.ρ (xs'.map σ.ev) (xs.map a.eval)
 |[],xs',h,_=>by simp only[pZ,zaA]at h;subst h;exact .nil
 |x::xs,xs',h,hr=>by
  simp only[pZ]at h;split at h
  ·rename_i b c hb hc;simp only[zaA]at h;subst h;exact .cons (hr x b (by simp) hb) (bW.aA8 hc fun y y' hy=>hr y y' (by simp[hy]))
  ·cases h
theorem bW.zB {G:Gh} {w:World}:∀ {ts:List AV} {vs:List Value},bW w G.F G.ρ ts vs->aAF ts=true->kU w G.F G.ρ ts vs
 |_,_,.nil,_=>.nil
 |_,_,.cons (v:=v) h1 h2,h=>by
  simp only[aAF,zaG,Bool.not_eq_true']at h;have h3:=h1.cells h.1.1;obtain⟨u,hu⟩:=h3.single h.1.2;have h4:v=u:=by
   cases v<;>simp_all [Value.cells]
   case agg cs =>
    cases h1 with
    |one h5 _=>have:=h5.zB _ (List.mem_singleton.2 rfl);simp[Value.oneCell']at this
    |agg h5 h6=>rw[h.1.2]at h6;cases h6
    |unk=>simp[AV.storable]at h
  rw[hu]at h3;rw[h4];exact .cons h3 h.1.2 (bW.zB h2 h.2)
theorem a83 {f:Nat} {caps:Array Operand} {caps':List AX} {first:Array Operand} (hf:first.isEmpty=true) (hc:pZ caps.toList=some caps'):fR P (.makeFunc (.func f) first caps) (.mkf f caps'):=by
 intro σ σ' v hs;simp only[aX]at hs;split at hs
 ·rename_i hok;simp only[zaA,zaJ]at hs;obtain⟨rfl,rfl⟩:=hs;refine⟨rfl,fun oper G w H U a ho hw hr hH => ?_⟩;have h1:=bW.aA8 (σ:=σ) (G:=G) (w:=w) (a:=a) hc fun x x' hx hx'=>hr x x' (by simp[Op.operands];exact .inr (by simpa using hx)) hx'
  have h2:=h1.zB hok;have hfe:first = #[]:=by simpa using hf
  subst hfe;refine⟨.func (.func f) #[] (caps.map a.eval),by simp[execOp,ho,Instr.makeFunc],.one ?_ rfl⟩;have:=bR.clo (f:=f) h2;have e:(List.map a.eval caps.toList).toArray=Array.map a.eval caps:=by rw[<-Array.toList_map,Array.toArray_toList]
  rwa [e]at this
 ·cases hs
theorem aW3 {op:BinOp} {x y u:Value} {t:TypeId} (h:aFU op x y=some u) (w:World) (ht:aAG P t=true) (hx:qA x=true) (hy:qA y=true) :
  (binOp op t x y).run P w=.ok u w/\qA u=true:=by
 unfold aFU at h;split at h
 ·rename_i k a k' b;split at h
  ·rename_i hsh;unfold shI at h;split at h
   ·cases h
   ·rename_i hneg;cases op<;>simp[uA]at hsh
    all_goals
     simp only[zaA]at h;subst h;refine⟨?_,rfl⟩;simp[binOp,Op.shift,hneg,Nat.min_def]
  ·rename_i hsh;split at h
   ·rename_i hkk;subst hkk;cases op<;>simp[uA]at hsh<;>simp only[aKV]at h
    case quo =>
     split at h
     ·cases h
     ·rename_i hb;simp only[zaA]at h;subst h;exact⟨by simp[binOp,Op.intDiv,hb],rfl⟩
    case rem =>
     split at h
     ·cases h
     ·rename_i hb;simp only[zaA]at h;subst h;exact⟨by simp[binOp,Op.intDiv,hb],rfl⟩
    case eql =>
     simp only[zaA]at h;subst h;refine⟨?_,rfl⟩;have e:(a == b)=decide (a=b):=by by_cases hab:a=b<;>simp[hab]
     simp[binOp,Op.intCmp,e]
    case neq =>
     simp only[zaA]at h;subst h;refine⟨?_,rfl⟩;have e:(a != b)=decide (¬a=b):=by by_cases hab:a=b<;>simp[hab]
     simp only[binOp,ne_eq,zaN,if_false,Op.intCmp,e];rfl
    all_goals
     simp only[zaA]at h;subst h;refine⟨?_,rfl⟩;simp[binOp,Op.intArith,Op.intBits,Op.intCmp,eR]
   ·cases h
 ·rename_i a b;have e:(a.toList == b.toList)=decide (a.toList=b.toList):=by by_cases hab:a.toList=b.toList<;>simp[hab]
  split at h
  ·simp only[zaA]at h;subst h;exact⟨by simp only[binOp,Op.stringOp,e];rfl,rfl⟩
  ·simp only[zaA]at h;subst h;exact⟨by simp only[binOp,Op.stringOp,e];rfl,rfl⟩
  ·split at h
   ·rename_i hsz;simp only[zaA]at h;subst h;refine⟨?_,rfl⟩;have h2:¬((a.size+b.size:Nat):Int)>IntKind.i64.max:=by
     have:IntKind.i64.max=9223372036854775807:=by decide
     rw[this];omega
    have h3:Op.stringOp .add a b=pure (.string (a++b)):=by unfold Op.stringOp;exact if_neg h2
    show(Op.stringOp .add a b).run P w=_;rw[h3];rfl
   ·cases h
  ·cases h
 ·cases h
theorem aKY {op:BinOp} {x y:Operand} {t:TypeId} {u v:Value} (w:World) (hu:qA u=true) (hv:qA v=true):(eqGuard op t x y u v).run P w=.ok () w:=by unfold eqGuard;cases op<;>simp<;>(cases u<;>cases v<;>first|rfl|simp[qA]at hu hv)
theorem a84 {op:BinOp} {t yt:TypeId} {x y:Operand} {x' y':AX} (ht:aAG P t=true) (hx:trX x=some x') (hy:trX y=some y'):fR P (.binOp op t x y yt) (.bin op x' y'):=by
 intro σ σ' v hs;simp only[aX]at hs;split at hs
 ·rename_i b c hb hc;split at hs
  ·rename_i u hu;simp only[zaA,zaJ]at hs;obtain⟨rfl,rfl⟩:=hs;refine⟨rfl,fun oper G w H U a ho hw hr hH => ?_⟩;have h1:=hr x x' (by simp[Op.operands]) hx;have h2:=hr y y' (by simp[Op.operands]) hy;rw[hb]at h1;rw[hc]at h2;obtain⟨h1,p1⟩:=h1.mT;obtain⟨h2,p2⟩:=h2.mT;obtain⟨h3,h4⟩:=aW3 hu w ht p1 p2;refine⟨u, ?_,.one (.sc h4) rfl⟩;have h5:=aKY (P:=P) (op:=op) (x:=x) (y:=y) (t:=t) w p1 p2;simp[execOp,ho,h1,h2,h5,h3]
  ·cases hs
 ·cases hs
theorem bDH {op:UnOp} {t:TypeId} {x:Operand} {x':AX} (hx:trX x=some x'):fR P (.unOp op t x) (.un op x'):=by
 intro σ σ' v hs;simp only[aX]at hs;split at hs
 ·rename_i u;split at hs
  ·rename_i u2 hu;simp only[zaA,zaJ]at hs;obtain⟨rfl,rfl⟩:=hs;refine⟨rfl,fun oper G w H U a ho hw hr hH => ?_⟩;have h1:=hr x x' (by simp[Op.operands]) hx;unfold a22 at hu;split at hu
   ·rename_i b hb;simp only[zaA]at hu;subst hu;rw[hb]at h1;obtain⟨h1,_⟩:=h1.mT;exact⟨.bool (!b),by simp[execOp,ho,h1,Op.unary],.one (.sc rfl) rfl⟩
   ·rename_i hb;simp only[zaA]at hu;subst hu;rw[hb]at h1;obtain⟨b,h1⟩:=h1.aNA;exact⟨.bool (!b),by simp[execOp,ho,h1,Op.unary],.eQ⟩
   ·cases hu
  ·cases hs
 ·rename_i k n hv;simp only[zaA,zaJ]at hs;obtain⟨rfl,rfl⟩:=hs;refine⟨rfl,fun oper G w H U a ho hw hr hH => ?_⟩;have h1:=hr x x' (by simp[Op.operands]) hx;rw[hv]at h1;obtain⟨h1,_⟩:=h1.mT;exact⟨.int k (k.wrap (0-n)),by simp[execOp,ho,h1,Op.unary,Op.intArith],.one (.sc rfl) rfl⟩
 ·rename_i k n hv;simp only[zaA,zaJ]at hs;obtain⟨rfl,rfl⟩:=hs;refine⟨rfl,fun oper G w H U a ho hw hr hH => ?_⟩;have h1:=hr x x' (by simp[Op.operands]) hx;rw[hv]at h1;obtain⟨h1,_⟩:=h1.mT;exact⟨_,by simp[execOp,ho,h1,Op.unary,Op.intBits];rfl,.one (.sc rfl) rfl⟩
 ·cases hs
theorem a27 {t e:TypeId} {u:Value} (w:World) (ht:P.underlying t=some (.slice e)) {a:Option Addr} {n c:Nat} (hu:u=.slice a n c) :
  (Op.equal t u (.slice none 0 0)).run P w=.ok a.isNone w:=by
 subst hu;unfold Op.equal;obtain⟨d,hd⟩:∃ d,Op.maxDepth=d+1:=⟨9999,rfl⟩;rw[hd];cases a<;>simp[Op.equalIn,run_underlying ht]
theorem aW4 {op:BinOp} {neg:Bool} {t e yt:TypeId} {x y:Operand} {x' y':AX} (hop:op=if neg then .neq else .eql) (ht:P.underlying t=some (.slice e)) (hx:trX x=some x') (hy:trX y=some y') (hn:aDD y'=true) :
  fR P (.binOp op t x y yt) (.eqn neg x'):=by
 intro σ σ' v hs;simp only[aX]at hs;split at hs
 ·rename_i u hu;simp only[zaA,zaJ]at hs;obtain⟨rfl,rfl⟩:=hs;refine⟨rfl,fun oper G w H U a ho hw hr hH => ?_⟩;have h1:=hr x x' (by simp[Op.operands]) hx;have hyv:a.eval y=.slice none 0 0:=by
   cases y with
   |const v =>
    simp only[trX]at hy;cases v with
    |slice ad n c =>
     cases ad with
     |none => cases n<;>cases c<;>simp[trV]at hy;rfl
     |some ad=>simp[trV]at hy
    |pointer ad=>cases ad<;>simp[trV]at hy;subst hy;simp[aDD]at hn
    |_=>simp[trV]at hy<;>(try (subst hy;simp[aDD]at hn))
   |tmp i=>simp only[trX,zaA]at hy;subst hy;simp[aDD]at hn
   |func f=>simp only[trX,zaA]at hy;subst hy;simp[aDD]at hn
   |global g=>simp[trX]at hy
  have key:∀ ad n c,a.eval x=.slice ad n c->(execOp a.eval oper).run P w=.ok (.value (.bool (if neg then !ad.isNone else ad.isNone))) w:=fun ad n c hv=>by
   have h2:=a27 (P:=P) w ht (rfl:(Value.slice ad n c)=_);have h3:(eqGuard op t x y (.slice ad n c) (.slice none 0 0)).run P w=.ok () w:=by unfold eqGuard;subst hop;cases neg<;>rfl
   subst hop;cases neg<;>simp only[if_true,if_false,zaU]at h3 ho<;>simp[execOp,ho,hv,hyv,h3,binOp,h2]
  unfold aW0 at hu;split at hu
  ·rename_i ts hb;rw[hb]at h1;obtain⟨ad,cap,h2,h3,h4,h5⟩:=h1.rH;refine⟨_,key ad _ cap h2, ?_⟩;simp only[zaA]at hu;subst hu;cases ts with
   |nil=>exact .eQ
   |cons t0 tl =>
    rcases h5 with h5|⟨b,o,cs,rfl,_⟩
    ·cases h5
    ·simp only[List.isEmpty_cons,zaU,if_false,Option.isNone_some,zaH];cases neg<;>exact .one (.sc rfl) rfl
  ·rename_i len es hb;rw[hb]at h1;obtain⟨ad,cap,h2,h3,h5⟩:=h1.qB;refine⟨_,key ad _ cap h2, ?_⟩;simp only[zaA]at hu;subst hu;rcases h5 with⟨h5,_⟩|⟨b,o,cur,e,rfl,_⟩
   ·rw[if_pos h5];exact .eQ
   ·split
    ·exact .eQ
    ·simp only[Option.isNone_some,zaH];cases neg<;>exact .one (.sc rfl) rfl
  ·cases hu
 ·cases hs
theorem aA9 {t:TypeId} {a:Bool} {n:Nat} (ha:uC P t=some a) (hn:szT P t=some n) {pre mid post:List Value} (hm:mid.length=n) (h1:a=false->∃ v,mid=[v]) (w:World) :
  (part t (pre++(mid++post)).toArray pre.length).run P w=.ok (if a then .agg mid.toArray else mid.headD undef) w:=by
 unfold uC at ha;unfold szT at hn;cases hi:P.info? t with
 |none=>rw[hi]at hn;simp at hn
 |some i =>
  rw[hi]at hn;simp only[Option.map_some,zaA]at hn;split at ha
  ·rename_i fs hu;simp only[zaA]at ha;subst ha;simp[part,isAgg,run_underlying hu,sizeOf,typeInfo,hi];rw[hn,<-hm];simp
  ·rename_i m e hu;simp only[zaA]at ha;subst ha;simp[part,isAgg,run_underlying hu,sizeOf,typeInfo,hi];rw[hn,<-hm];simp
  ·rename_i dd hs1 hs2 hu;simp only[zaA]at ha;subst ha;obtain⟨v,rfl⟩:=h1 rfl;cases dd<;>simp[part,isAgg,run_underlying hu]at hs1 hs2 ⊢
  ·cases ha
def TS.isAgg:TS->Bool
 |.agg _=>true
 |.arr .. => true
 |_=>false
theorem uF {k:Nat} {t:TypeId} {ts:TS} (h:mR P k t=some ts):uC P t=some ts.isAgg:=by
 cases k with
 |zero=>simp[mR]at h
 |succ k =>
  unfold mR at h;unfold uC;cases hu:P.underlying t with
  |none=>rw[hu]at h;cases h
  |some dd =>
   rw[hu]at h;cases dd<;>simp only[zaA]at h ⊢ <;> first
    |(subst h;rfl)
    |(split at h
      ·cases h
      ·split at h
       ·simp only[zaA]at h;subst h;rfl
       ·cases h)
    |(split at h
      ·simp only[zaA]at h;subst h;rfl
      ·cases h)
    |cases h
def qC (ts:TS) (cs:List Value):Value :=
 match ts with
 |.agg _=>.agg cs.toArray
 |.arr .. => .agg cs.toArray
 |_=>cs.headD undef
section eq
variable {w:World} {F:Nat->Prop}
theorem yE {ts:TS} {x y:AV} {b:Bool} (h:eqT ts x y=some b):x.isAgg=ts.isAgg/\y.isAgg=x.isAgg:=by unfold eqT at h;split at h<;>first|exact⟨rfl,rfl⟩|cases h
theorem aJC {ts:TS} {x y:AV} {b:Bool} {cs:List Value} {ρ:Nat->Option Loc} (h:eqT ts x y=some b) (hx:bR w F ρ x cs) :
  ts.isAgg=false->∃ v,cs=[v]:=fun h0=>hx.single ((yE h).1.trans h0)
theorem aSF (ts:TS) (cs:List Value):(if ts.isAgg=true then Value.agg cs.toArray else cs.headD undef)=qC ts cs:=by cases ts<;>rfl
theorem aSG {ts:TS} {x y:AV} {b:Bool} {cs:List Value} {ρ:Nat->Option Loc} (h:eqT ts x y=some b) (hy:bR w F ρ y cs) :
  ts.isAgg=false->∃ v,cs=[v]:=fun h0=>hy.single ((yE h).2.trans ((yE h).1.trans h0))
def aW5 (P:Program) (w:World) (F:Nat->Prop) (k d:Nat):Prop :=
 ∀(t:TypeId) (ts:TS),mR P k t=some ts->∀(ρ ρ':Nat->Option Loc) (x y:AV) (b:Bool) (cs ds:List Value),eqT ts x y=some b->bR w F ρ x cs->bR w F ρ' y ds ->
  (Op.equalIn d t (qC ts cs) (qC ts ds)).run P w=.ok b w
theorem aVG {d:Nat}:∀(k:Nat) (o:Nat) (fs:List Field) (l:List (Nat×TS)) (pre pre':List Value) (ts us:List AV) (b:Bool) (cs ds:List Value) (ρ ρ':Nat->Option Loc),(∀ j,j<k->aW5 P w F j d) ->
  uE P k o fs=some l->aFV l ts us=some b->dU w F ρ ts cs->dU w F ρ' us ds->pre.length=o->pre'.length=o ->
  (forIn fs ((none,()):Option Bool×Unit) fun(f:Field) _ =>
   if f.name = "_" then pure (ForInStep.yield ((none, ()) : Option Bool × Unit))
   else do
    let a <-part f.type (pre++cs).toArray f.offset
    let c <-part f.type (pre'++ds).toArray f.offset
    let r <-Op.equalIn d f.type a c
    if r=false then pure (ForInStep.done ((some false,()):Option Bool×Unit))else pure (ForInStep.yield ((none,()):Option Bool×Unit))).run P w =
   .ok (if b then(none,())else(some false,())) w:=by
 intro k
 induction k with
 |zero =>
  intro o fs l pre pre' ts us b cs ds ρ ρ' hE hs he h1 h2 hp hp';cases fs with
  |nil => simp only[uE,zaA]at hs;subst hs;cases ts<;>cases us<;>simp[aFV]at he;subst he;simp
  |cons f fs=>simp[uE]at hs
 |succ k ih =>
  intro o fs l pre pre' ts us b cs ds ρ ρ' hE hs he h1 h2 hp hp';cases fs with
  |nil => simp only[uE,zaA]at hs;subst hs;cases ts<;>cases us<;>simp[aFV]at he;subst he;simp
  |cons f fs =>
   simp only[uE]at hs;split at hs
   ·cases hs
   ·rename_i hno;split at hs
    ·rename_i s n hsh hsz;split at hs
     ·rename_i l' hl';simp only[zaA]at hs;subst hs;cases ts with
      |nil=>cases us<;>simp[aFV]at he
      |cons t ts =>
       cases us with
       |nil=>simp[aFV]at he
       |cons u us =>
        simp only[aFV]at he;split at he
        ·rename_i hsize;split at he
         ·rename_i b1 b2 hb1 hb2;simp only[zaA]at he;subst he;cases h1 with
          |cons h1a h1b =>
           cases h2 with
           |cons h2a h2b =>
            rename_i c cs' e ds'
            have hname : ¬ f.name = "_" := fun h => hno (.inl h)
            have hoff:f.offset=o:=by
             by_cases h:f.offset=o
             ·exact h
             ·exact absurd (.inr h) hno
            have hc:c.length=n:=by rw[h1a.size];exact hsize.1
            have hd:e.length=n:=by rw[h2a.size];exact hsize.2
            have r1:=aA9 (P:=P) (uF hsh) hsz (pre:=pre) (post:=cs') hc (aJC hb1 h1a) w;have r2:=aA9 (P:=P) (uF hsh) hsz (pre:=pre') (post:=ds') hd (aSG hb1 h2a) w;rw[aSF]at r1 r2;rw[hp,<-hoff]at r1;rw[hp',<-hoff]at r2;have r3:=hE k (by omega) f.type s hsh ρ ρ' t u b1 c e hb1 h1a h2a;have r4:=ih (o+n) fs l' (pre++c) (pre'++e) ts us b2 cs' ds' ρ ρ' (fun j hj=>hE j (by omega)) hl' hb2 h1b h2b (by simp[hp,hc]) (by simp[hp',hd]);simp only[List.append_assoc]at r4;cases b1 with
            |false=>simp[hname,r1,r2,r3]
            |true=>simp[hname,r1,r2,r3];simpa using r4
         ·cases he
        ·cases he
     ·cases hs
    ·cases hs
theorem aW6 {d n es:Nat} {e:TypeId} {s:TS} {k:Nat} (hE:aW5 P w F k d) (hsh:mR P k e=some s) (hsz:szT P e=some es) :
  ∀(m i:Nat) (pre pre':List Value) (ts us:List AV) (b:Bool) (cs ds:List Value),aM7 s ts us=some b->ts.length=m->eH w F es ts cs->eH w F es us ds->pre.length=i*es->pre'.length=i*es ->
  (forIn (List.range' i m) ((none,()):Option Bool×Unit) fun j _=>do
    let a <-part e (pre++cs).toArray (j*es)
    let c <-part e (pre'++ds).toArray (j*es)
    let r <-Op.equalIn d e a c
    if r=false then pure (ForInStep.done ((some false,()):Option Bool×Unit))else pure (ForInStep.yield ((none,()):Option Bool×Unit))).run P w =
   .ok (if b then(none,())else(some false,())) w:=by
 intro m
 induction m with
 |zero => intro i pre pre' ts us b cs ds he hl h1 h2 hp hp';have:ts=[]:=List.eq_nil_of_length_eq_zero hl;subst this;cases us<;>simp[aM7]at he;subst he;simp
 |succ m ih =>
  intro i pre pre' ts us b cs ds he hl h1 h2 hp hp';cases ts with
  |nil=>simp at hl
  |cons t ts =>
   cases us with
   |nil=>simp[aM7]at he
   |cons u us =>
    simp only[aM7]at he;split at he
    ·rename_i b1 b2 hb1 hb2;simp only[zaA]at he;subst he;cases h1 with
     |cons h1a h1s h1b =>
      cases h2 with
      |cons h2a h2s h2b =>
       rename_i c cs' g ds';have r1:=aA9 (P:=P) (uF hsh) hsz (pre:=pre) (post:=cs') h1s (aJC hb1 h1a) w;have r2:=aA9 (P:=P) (uF hsh) hsz (pre:=pre') (post:=ds') h2s (aSG hb1 h2a) w;rw[aSF]at r1 r2;rw[hp]at r1;rw[hp']at r2;have r3:=hE e s hsh gF gF t u b1 c g hb1 h1a h2a;have r4:=ih (i+1) (pre++c) (pre'++g) ts us b2 cs' ds' hb2 (by simpa using hl) h1b h2b (by simp[hp,h1s,Nat.add_mul]) (by simp[hp',h2s,Nat.add_mul]);simp only[List.append_assoc]at r4;rw[List.range'_succ];cases b1 with
       |false=>simp[r1,r2,r3]
       |true=>simp[r1,r2,r3];simpa using r4
    ·cases he
theorem a85:∀(k d:Nat),k<=d->aW5 P w F k d:=by
 intro k
 induction k using Nat.strongRecOn with
 |_ k ih =>
  intro d hd t ts hsh ρ ρ' x y b cs ds he hx hy;cases k with
  |zero=>simp[mR]at hsh
  |succ k =>
   obtain⟨d,rfl⟩:∃ m,d=m+1:=⟨d-1,by omega⟩;unfold mR at hsh;split at hsh
   ·rename_i j hu;simp only[zaA]at hsh;subst hsh;unfold eqT at he;split at he<;>try (simp_all;done)
    rename_i k1 a1 k2 a2 heq;split at he
    ·rename_i hk;simp only[zaA]at he;subst he;cases hx;cases hy;have e:(a1 == a2)=decide (a1=a2):=by by_cases h:a1=a2<;>simp[h]
     simp[qC,Op.equalIn,run_underlying hu,hk,e]
    ·cases he
   ·rename_i hu;simp only[zaA]at hsh;subst hsh;unfold eqT at he;split at he<;>try (simp_all;done)
    simp only[zaA]at he;subst he;cases hx;cases hy;simp[qC,Op.equalIn,run_underlying hu]
   ·rename_i fs hu;split at hsh
    ·cases hsh
    ·rename_i hst;split at hsh
     ·rename_i l hl;simp only[zaA]at hsh;subst hsh;unfold eqT at he;split at he<;>try (simp_all;done)
      rename_i l' n1 ts1 n2 us1 heq;simp only[TS.agg.injEq]at heq;subst heq;cases hx with
      |agg hx1 hx2 =>
       cases hy with
       |agg hy1 hy2 =>
        have:=aVG (P:=P) (w:=w) (F:=F) (d:=d) k 0 fs.toList l [] [] ts1 us1 b cs ds ρ ρ' (fun j hj=>ih j (by omega) d (by omega)) hl he hx1 hy1 rfl rfl;simp only[List.nil_append]at this;rw[Array.forIn_toList]at this;have hst':P.stoodInHeld t=false:=by simpa using hst
        simp only[qC,Op.equalIn,Sem.run_bind,run_underlying hu];simp[hst'];rw[this];cases b<;>simp
     ·cases hsh
   ·rename_i n e hu;split at hsh
    ·rename_i s es hs hsz;simp only[zaA]at hsh;subst hsh;unfold eqT at he;split at he<;>try (simp_all;done)
     rename_i n1 es1 s1 n2 es2 ts1 n3 es3 us1 heq;simp only[TS.arr.injEq]at heq;obtain⟨rfl,rfl,rfl⟩:=heq;split at he
     ·rename_i hc;obtain⟨rfl,rfl,hc1,hc2⟩:=hc;cases hx with
      |arr hx1 hx2 =>
       cases hy with
       |arr hy1 hy2 =>
        have:=aW6 (P:=P) (w:=w) (F:=F) (d:=d) (n:=n) (ih k (by omega) d (by omega)) hs hsz n 0 [] [] ts1 us1 b cs ds he hc1 hx1 hy1 (by simp) (by simp);simp only[List.nil_append]at this;unfold szT at hsz;cases hi:P.info? e with
        |none=>rw[hi]at hsz;simp at hsz
        |some i => rw[hi]at hsz;simp only[Option.map_some,zaA]at hsz;simp only[qC,Op.equalIn,Sem.run_bind,run_underlying hu];simp[sizeOf,typeInfo,hi,hsz];rw[this];cases b<;>simp
     ·cases he
    ·cases hsh
   ·cases hsh
end eq
end
end Go.Ra
namespace Go.Ra
set_option linter.unusedVariables false
set_option linter.unusedSimpArgs false
section
variable {P:Program}
theorem bS.qC {w:World} {F:Nat->Prop} {ρ:Nat->Option Loc} {ts:TS} {x y:AV} {b:Bool} {u:Value} (h:eqT ts x y=some b) (hx:bS w F ρ x u):∃ cs,bR w F ρ x cs/\u=qC ts cs:=by
 have ha:=(yE h).1;cases hx with
 |one h1 h2 => refine⟨[u],h1, ?_⟩;rw[h2]at ha;cases ts<;>first|rfl|simp[TS.isAgg]at ha
 |agg h1 h2 => rename_i cs;refine⟨cs,h1, ?_⟩;rw[h2]at ha;cases ts<;>first|rfl|simp[TS.isAgg]at ha
 |tup _=>unfold eqT at h;split at h<;>simp_all
 |eQ=>unfold eqT at h;split at h<;>simp_all
 |unk=>unfold eqT at h;split at h<;>simp_all
theorem bS.valT' {w:World} {F:Nat->Prop} {ρ:Nat->Option Loc} {ts:TS} {x y:AV} {b:Bool} {u:Value} (h:eqT ts x y=some b) (hy:bS w F ρ y u):∃ cs,bR w F ρ y cs/\u=Ra.qC ts cs:=by
 have ha:=(yE h).2.trans (yE h).1;cases hy with
 |one h1 h2 => refine⟨[u],h1, ?_⟩;rw[h2]at ha;cases ts<;>first|rfl|simp[TS.isAgg]at ha
 |agg h1 h2 => rename_i cs;refine⟨cs,h1, ?_⟩;rw[h2]at ha;cases ts<;>first|rfl|simp[TS.isAgg]at ha
 |tup _=>unfold eqT at h;split at h<;>simp_all
 |eQ=>unfold eqT at h;split at h<;>simp_all
 |unk=>unfold eqT at h;split at h<;>simp_all
theorem aQF {k:Nat} {t:TypeId} (h:mR P k t=some .int):aAG P t=true:=by
 cases k with
 |zero=>simp[mR]at h
 |succ k =>
  unfold mR at h;unfold aAG;cases hu:P.underlying t with
  |none=>rw[hu]at h;cases h
  |some dd =>
   rw[hu]at h;cases dd<;>simp only at h ⊢ <;> first
    |cases h;done
    |(split at h
      ·cases h
      ·split at h
       ·cases h
       ·cases h)
    |(split at h
      ·cases h
      ·cases h)
theorem aW7 {op:BinOp} {neg:Bool} {t yt:TypeId} {ts:TS} {x y:Operand} {x' y':AX} (hop:op=if neg then .neq else .eql) (hpl:aAG P t=false) (hg:P.eqGuardType P.depth t=false) (ht:mR P 60 t=some ts)
  (hx:trX x=some x') (hy:trX y=some y'):fR P (.binOp op t x y yt) (.eqs neg ts x' y'):=by
 intro σ σ' v hs;simp only[aX]at hs;split at hs
 ·rename_i b hb;simp only[zaA,zaJ]at hs;obtain⟨rfl,rfl⟩:=hs;refine⟨rfl,fun oper G w H U a ho hw hr hH => ?_⟩;obtain⟨cs,h1,h1'⟩:=(hr x x' (by simp[Op.operands]) hx).qC hb;obtain⟨ds,h2,h2'⟩:=(hr y y' (by simp[Op.operands]) hy).valT' hb;have h3:(Op.equal t (qC ts cs) (qC ts ds)).run P w=.ok b w:=by
   unfold Op.equal;exact a85 60 Op.maxDepth (by decide) t ts ht G.ρ G.ρ _ _ b cs ds hb h1 h2
  have h4:(eqGuard op t x y (qC ts cs) (qC ts ds)).run P w=.ok () w:=by
   unfold eqGuard;subst hop;have hagg:∀ n m,(eqGuard (if neg then .neq else .eql) t x y (.agg n) (.agg m)).run P w=.ok () w:=fun n m=>by unfold eqGuard;cases neg<;>simp[program,Sem.run,hg]
   cases ts with
   |agg l=>exact hagg _ _
   |arr n es e=>exact hagg _ _
   |int =>
    generalize σ.ev x'=X at hb h1;generalize σ.ev y'=Y at hb h2;unfold eqT at hb;split at hb<;>try (simp_all;done)
    cases h1;cases h2;cases neg<;>rfl
   |bool =>
    generalize σ.ev x'=X at hb h1;generalize σ.ev y'=Y at hb h2;unfold eqT at hb;split at hb<;>try (simp_all;done)
    cases h1;cases h2;cases neg<;>rfl
  have h5:(binOp op t (qC ts cs) (qC ts ds)).run P w=.ok (.bool (if neg then !b else b)) w:=by
   subst hop;cases ts with
   |agg l=>cases neg<;>simp[binOp,qC]<;>(simp only[qC]at h3;simp[h3])
   |arr n es e=>cases neg<;>simp[binOp,qC]<;>(simp only[qC]at h3;simp[h3])
   |int => rw[aQF ht]at hpl;cases hpl
   |bool =>
    generalize σ.ev x'=X at hb h1;generalize σ.ev y'=Y at hb h2;unfold eqT at hb;split at hb<;>try (simp_all;done)
    cases h1;cases h2;cases neg<;>simp[binOp,qC]<;>(simp only[qC,List.headD]at h3;simp[h3])
  refine⟨.bool (if neg then !b else b), ?_,.one (.sc rfl) rfl⟩;simp[execOp,ho,h1',h2',h4,h5]
 ·cases hs
theorem add_lit (b o n:Nat):Addr.add ⟨b,o,none⟩ n=⟨b,o+n,none⟩:=by unfold Addr.add;split<;>simp_all
theorem aFX {t:TypeId} {n:Nat} (h:szT P t=some n):∃ i,P.info? t=some i/\i.size=n:=by
 unfold szT at h;cases hi:P.info? t with
 |none=>rw[hi]at h;cases h
 |some i=>rw[hi]at h;simp only[Option.map_some,zaA]at h;exact⟨i,rfl,h⟩
theorem a28 {s:TypeId} {fs:Array Field} {f:Field} {i n:Nat} {x:Operand} {x':AX} (hs0:P.underlying s=some (.struct fs)) (hf:fs[i]? = some f) (hn:szT P f.type=some n) (hn0:n≠0) (hx:trX x=some x') :
  fR P (.fieldAddr s x i) (.aVA i f.offset n x'):=by
 intro σ σ' v hs;obtain⟨inf,hi,hi2⟩:=aFX hn;have key:∀(b o:Nat) (w:World),(Instr.fieldAt s (.pointer (some ⟨b,o,none⟩)) i).run P w=.ok (.pointer (some ⟨b,o+f.offset,none⟩)) w:=fun b o w=>by
  have:inf.size≠0:=by omega
  simp[Instr.fieldAt,run_underlying hs0,hf,Instr.sureAddr,fieldPlace,sizeOf,typeInfo,hi,this,add_lit]
 simp only[aX]at hs;split at hs
 ·rename_i id path o hv;simp only[zaA,zaJ]at hs;obtain⟨rfl,rfl⟩:=hs;refine⟨rfl,fun oper G w H U a ho hw hr hH => ?_⟩;have h1:=hr x x' (by simp[Op.operands]) hx;rw[hv]at h1;obtain⟨b,o',h2,h3⟩:=h1.oL;refine⟨_,by simp only[execOp,ho,h3];exact iC (key _ _ _), ?_⟩;rw[Nat.add_assoc];exact .one (.ptr h2) rfl
 ·rename_i n1 ts hv;split at hs
  ·rename_i u hu;split at hs
   ·rename_i hoff;simp only[zaA,zaJ]at hs;obtain⟨rfl,rfl⟩:=hs;refine⟨rfl,fun oper G w H U a ho hw hr hH => ?_⟩;have h1:=hr x x' (by simp[Op.operands]) hx;rw[hv]at h1;obtain⟨b,o,cs,h2,h3,h4,h5⟩:=h1.wG;refine⟨_,by simp only[execOp,ho,h2];exact iC (key _ _ _), ?_⟩;cases h3 with
    |agg h6 h7 =>
     obtain⟨pre,mid,post,rfl,hp,hm,_,_⟩:=h6.nth hu;refine .one (.cH hm (fun j v hj => ?_) h5) rfl;have:=h4 (pre.length+j) v (by rw[List.getElem?_append_right (by omega),show pre.length+j-pre.length=j by omega,List.getElem?_append_left (List.getElem?_eq_some_iff.1 hj).1];exact hj);rw[<-hoff,<-hp,Nat.add_assoc];exact this
   ·cases hs
  ·cases hs
 ·cases hs
theorem mL {t e:TypeId} {i:TypeInfo} (h:mS P t=some (e,i)):P.underlying t=some (.slice e)/\P.info? e=some i:=by
 unfold mS at h;split at h
 ·rename_i e' hu;cases hi:P.info? e' with
  |none=>rw[hi]at h;cases h
  |some j => rw[hi]at h;simp only[Option.map_some,zaA,zaJ]at h;obtain⟨rfl,rfl⟩:=h;exact⟨hu,hi⟩
 ·cases h
theorem aNB {t:TypeId} {n:Nat} {i:TypeInfo} (h:aVD P t=some (n,i)):∃ e,P.underlying t=some (.array n e)/\P.info? e=some i:=by
 unfold aVD at h;split at h
 ·rename_i n' e' hu;cases hi:P.info? e' with
  |none=>rw[hi]at h;cases h
  |some j => rw[hi]at h;simp only[Option.map_some,zaA,zaJ]at h;obtain⟨rfl,rfl⟩:=h;exact⟨e',hu,hi⟩
 ·cases h
theorem p3 {w:World} {F:Nat->Prop} {ρ:Nat->Option Loc} {t:AV} {u:Value} {j:Int} (h:asI t=some j) (hr:bS w F ρ t u):∃ k,u=.int k j:=by
 unfold asI at h;split at h
 ·simp only[zaA]at h;subst h;exact⟨_,hr.mT.1⟩
 ·cases h
theorem Reads.sub {w:World} {b o:Nat} {pre mid post:List Value} (h:Reads w b o (pre++(mid++post))):Reads w b (o+pre.length) mid:=by
 intro j v hj;have:=h (pre.length+j) v (by rw[List.getElem?_append_right (by omega),show pre.length+j-pre.length=j by omega,List.getElem?_append_left (List.getElem?_eq_some_iff.1 hj).1];exact hj);rw[Nat.add_assoc];exact this
theorem aIL {t e:TypeId} {i:TypeInfo} {x y:Operand} {x' y':AX} (ht:mS P t=some (e,i)) (hx:trX x=some x') (hy:trX y=some y'):fR P (.indexAddr t x y) (.aM6 none i.size x' y'):=by
 intro σ σ' v hs;obtain⟨hu,hi⟩:=mL ht;have key:∀(ad:Addr) (n c:Nat) (k:IntKind) (j:Int) (w:World),0<=j->j<n->(Instr.indexAt t (.slice (some ad) n c) (.int k j)).run P w=.ok (.pointer (some (ad.add (j.toNat*i.size)))) w:=fun ad n c k j w h0 h1=>by simp[Instr.indexAt,asIntOf,run_underlying hu,h0,h1,sizeOf,typeInfo,hi]
 simp only[aX]at hs;split at hs
 ·rename_i x0 es ts j heq1 hv hj;split at hs
  ·rename_i hc;split at hs
   ·rename_i u hu2;simp only[zaA,zaJ]at hs;obtain⟨rfl,rfl⟩:=hs;refine⟨rfl,fun oper G w H U a ho hw hr hH => ?_⟩;have h1:=hr x x' (by simp[Op.operands]) hx;obtain⟨k,h2⟩:=p3 hj (hr y y' (by simp[Op.operands]) hy);rw[hv]at h1;obtain⟨ad,cap,h3,h4,h5,h6⟩:=h1.rH;have hlt:j.toNat<ts.length:=(List.getElem?_eq_some_iff.1 hu2).1;rcases h6 with rfl|⟨b,o,cs,rfl,h7,h8,h9⟩
    ·simp at hlt
    ·refine⟨_,by simp only[execOp,ho,h3,h2];exact iC (key _ _ _ _ _ _ hc.1 (by omega)), ?_⟩;rw[hc.2]at h7;obtain⟨pre,mid,post,rfl,hp,hm,hms,_,_⟩:=h7.nth hu2;rw[add_lit,<-hp];exact .one (.cH hm h8.sub h9) rfl
   ·cases hs
  ·cases hs
 ·rename_i id path off k len es j heq1 hv hj;split at hs
  ·rename_i hc;simp only[zaA,zaJ]at hs;obtain⟨rfl,rfl⟩:=hs;refine⟨rfl,fun oper G w H U a ho hw hr hH => ?_⟩;have h1:=hr x x' (by simp[Op.operands]) hx;obtain⟨kk,h2⟩:=p3 hj (hr y y' (by simp[Op.operands]) hy);rw[hv]at h1;obtain⟨ad,cap,h3,h4,h5⟩:=h1.qB;rcases h5 with⟨h5,_⟩|⟨b,o,cur,e,rfl,h6,h7,h8⟩
   ·omega
   ·refine⟨_,by simp only[execOp,ho,h3,h2];exact iC (key _ _ _ _ _ _ hc.1 (by omega)), ?_⟩;rw[add_lit,Nat.add_assoc];exact .one (.ptr h6) rfl
  ·cases hs
 ·rename_i n id path off j heq1 hv hj;simp at heq1
 ·rename_i n es ts j heq1 hv hj;simp at heq1
 ·cases hs
theorem aNC {t:TypeId} {n:Nat} {i:TypeInfo} {x y:Operand} {x' y':AX} (ht:aVD P t=some (n,i)) (hx:trX x=some x') (hy:trX y=some y'):fR P (.indexAddr t x y) (.aM6 (some n) i.size x' y'):=by
 intro σ σ' v hs;obtain⟨e,hu,hi⟩:=aNB ht;have key:∀(ad:Addr) (k:IntKind) (j:Int) (w:World),0<=j->j<n->(Instr.indexAt t (.pointer (some ad)) (.int k j)).run P w=.ok (.pointer (some (ad.add (j.toNat*i.size)))) w:=fun ad k j w h0 h1=>by simp[Instr.indexAt,asIntOf,run_underlying hu,h0,h1,sizeOf,typeInfo,hi,Instr.sureAddr]
 simp only[aX]at hs;split at hs
 ·rename_i x0 es ts j heq1 hv hj;simp at heq1
 ·rename_i id path off k len es j heq1 hv hj;simp at heq1
 ·rename_i n' id path off j heq1 hv hj;simp only[zaA]at heq1;subst heq1;split at hs
  ·rename_i hc;simp only[zaA,zaJ]at hs;obtain⟨rfl,rfl⟩:=hs;refine⟨rfl,fun oper G w H U a ho hw hr hH => ?_⟩;have h1:=hr x x' (by simp[Op.operands]) hx;obtain⟨kk,h2⟩:=p3 hj (hr y y' (by simp[Op.operands]) hy);rw[hv]at h1;obtain⟨b,o,h3,h4⟩:=h1.oL;refine⟨_,by simp only[execOp,ho,h4,h2];exact iC (key _ _ _ _ hc.1 hc.2), ?_⟩;rw[add_lit,Nat.add_assoc];exact .one (.ptr h3) rfl
  ·cases hs
 ·rename_i n' es n1 ts j heq1 hv hj;simp only[zaA]at heq1;subst heq1;split at hs
  ·rename_i hc;split at hs
   ·rename_i u hu2;simp only[zaA,zaJ]at hs;obtain⟨rfl,rfl⟩:=hs;refine⟨rfl,fun oper G w H U a ho hw hr hH => ?_⟩;have h1:=hr x x' (by simp[Op.operands]) hx;obtain⟨kk,h2⟩:=p3 hj (hr y y' (by simp[Op.operands]) hy);rw[hv]at h1;obtain⟨b,o,cs,h3,h4,h5,h6⟩:=h1.wG;have hlt:j.toNat<ts.length:=(List.getElem?_eq_some_iff.1 hu2).1;cases h4 with
    |arr h7 h8 => refine⟨_,by simp only[execOp,ho,h3,h2];exact iC (key _ _ _ _ hc.1 (by omega)), ?_⟩;obtain⟨pre,mid,post,rfl,hp,hm,hms,_,_⟩:=h7.nth hu2;rw[add_lit,<-hc.2.1,<-hp];exact .one (.cH hm h5.sub h6) rfl
   ·cases hs
  ·cases hs
 ·cases hs
theorem aKZ {t e:TypeId} {oper0:Call} {x:Operand} {x':AX} (hc:oper0.callee=.builtin .len) (ha:oper0.args = #[x]) (hat:oper0.argTypes = #[t]) (ht:P.underlying t=some (.slice e)) (hx:trX x=some x') :
  fR P (.call oper0) (.len none x'):=by
 intro σ σ' v hs;have key:∀(a:Act) (oper:Oper) (ad:Option Addr) (n c:Nat) (w:World),oper.op=.call oper0->a.eval x=.slice ad n c->(execOp a.eval oper).run P w=.ok (.value (.int .i64 n)) w:=fun a oper ad n c w ho hv=>by simp[execOp,ho,resolve,hc,ha,hat,invoke,builtin,Builtin.len_,run_underlying ht,hv,goInt]
 simp only[aX]at hs;split at hs
 ·rename_i heq;simp at heq
 ·rename_i x0 es ts heq hv;simp only[zaA,zaJ]at hs;obtain⟨rfl,rfl⟩:=hs;refine⟨rfl,fun oper G w H U a ho hw hr hH => ?_⟩;have h1:=hr x x' (by simp[Op.operands,Call.operands,hc,ha]) hx;rw[hv]at h1;obtain⟨ad,cap,h2,_⟩:=h1.rH;exact⟨_,key a oper ad _ cap w ho h2,.one (.sc rfl) rfl⟩
 ·rename_i len es heq hv;simp only[zaA,zaJ]at hs;obtain⟨rfl,rfl⟩:=hs;refine⟨rfl,fun oper G w H U a ho hw hr hH => ?_⟩;have h1:=hr x x' (by simp[Op.operands,Call.operands,hc,ha]) hx;rw[hv]at h1;obtain⟨ad,cap,h2,_⟩:=h1.qB;exact⟨_,key a oper ad _ cap w ho h2,.one (.sc rfl) rfl⟩
 ·cases hs
theorem a29 {t:TypeId} {oper0:Call} {x:Operand} {x':AX} (hc:oper0.callee=.builtin .len) (ha:oper0.args = #[x]) (hat:oper0.argTypes = #[t]) (ht:P.underlying t=some .string) (hx:trX x=some x') :
  fR P (.call oper0) (.lens x'):=by
 intro σ σ' v hs;simp only[aX]at hs;split at hs
 ·rename_i s hv;simp only[zaA,zaJ]at hs;obtain⟨rfl,rfl⟩:=hs;refine⟨rfl,fun oper G w H U a ho hw hr hH => ?_⟩;have h1:=hr x x' (by simp[Op.operands,Call.operands,hc,ha]) hx;rw[hv]at h1;obtain⟨h1,_⟩:=h1.mT;exact⟨_,by simp[execOp,ho,resolve,hc,ha,hat,invoke,builtin,Builtin.len_,run_underlying ht,h1,goInt],.one (.sc rfl) rfl⟩
 ·cases hs
theorem aFY {t:TypeId} {n:Nat} {oper0:Call} {x:Operand} {x':AX} (hc:oper0.callee=.builtin .len) (ha:oper0.args = #[x]) (hat:oper0.argTypes = #[t])
  (ht:(∃ e,P.underlying t=some (.array n e))\/∃ u e,P.underlying t=some (.pointer u)/\P.underlying u=some (.array n e)) (hx:trX x=some x') :
  fR P (.call oper0) (.len (some n) x'):=by
 intro σ σ' v hs;simp only[aX,zaA,zaJ]at hs;obtain⟨rfl,rfl⟩:=hs;refine⟨rfl,fun oper G w H U a ho hw hr hH=>⟨.int .i64 n, ?_,.one (.sc rfl) rfl⟩⟩;rcases ht with⟨e,ht⟩|⟨u,e,ht,hu⟩
 ·simp[execOp,ho,resolve,hc,ha,hat,invoke,builtin,Builtin.len_,run_underlying ht,goInt]
 ·simp[execOp,ho,resolve,hc,ha,hat,invoke,builtin,Builtin.len_,run_underlying ht,run_underlying hu,goInt]
theorem aEE {t:TypeId} {ag:Bool} {n:Nat} (ha:uC P t=some ag) (hn:szT P t=some n) {w:World} {b o:Nat} {cs:List Value} (hl:cs.length=n) (hr:Reads w b o cs) (h1:ag=false->∃ v,cs=[v]) :
  (loadVar t ⟨b,o,none⟩).run P w=.ok (if ag then .agg cs.toArray else cs.headD undef) w:=by
 obtain⟨i,hi,hi2⟩:=aFX hn;have hcell:∀(j:Nat) (v:Value),cs[j]? = some v->w.cell? (Addr.add ⟨b,o,none⟩ j)=some v:=fun j v hj=>by rw[add_lit];exact hr j v hj
 unfold uC at ha;cases hu:P.underlying t with
 |none=>rw[hu]at ha;cases ha
 |some dd =>
  rw[hu]at ha;have big:(loadCells ⟨b,o,none⟩ n).run P w=.ok cs.toArray w:=by rw[<-hl];exact run_loadCells_list w _ cs hcell
  have small:ag=false->(load ⟨b,o,none⟩).run P w=.ok (cs.headD undef) w:=fun h=>by obtain⟨v,rfl⟩:=h1 h;have:=hcell 0 v rfl;rw[add_lit,Nat.add_zero]at this;simp[load,Sem.run,this]
  cases dd<;>simp only[zaA]at ha<;>subst ha<;>first
   |(simp[loadVar,isAgg,run_underlying hu,sizeOf,typeInfo,hi,hi2,big];done)
   |(simp[loadVar,isAgg,run_underlying hu];simpa using small rfl)
theorem bS.aW8 {w:World} {F:Nat->Prop} {ρ:Nat->Option Loc} {t:AV} {cs:List Value} (h:bR w F ρ t cs):bS w F ρ t (if t.isAgg then .agg cs.toArray else cs.headD undef):=by
 cases ha:t.isAgg with
 |true=>exact .agg h ha
 |false => obtain⟨v,rfl⟩:=h.single ha;exact .one h ha
theorem Wf.place {G:Gh} {w:World} {H:Nat->Option AV} {U:Nat->Prop} (hw:Wf G w H U) {id b o:Nat} {t:AV} (hr:G.ρ id=some (b,o)) (ht:H id=some t) :
  ∃(cs:List Value) (cur:Array Value) (e:TypeId),bR w G.F G.ρ t cs/\w.heap[b]? = some (Obj.cells cur e (0,0))/\Reads w b o cs/\¬G.F b:=by
 rcases hw.blk id t ht with⟨b',o',cs,cur,e,h1,h2,h3,h4,h5⟩|h1
 ·rw[hr]at h1;simp only[zaA,zaJ]at h1;obtain⟨rfl,rfl⟩:=h1;exact⟨cs,cur,e,h2,h3,h4,h5⟩
 ·rw[hr]at h1;cases h1.1
theorem yF {σ:St} {G:Gh} {w:World} {H:Nat->Option AV} {U:Nat->Prop} (hw:Wf G w H U) (hH:∀ k t,σ.H k=some t->H k=some t) {x u:AV} {v:Value} (h:σ.oQ x=some u) (hr:bS w G.F G.ρ x v) :
  ∃ b o cs,v=.pointer (some ⟨b,o,none⟩)/\bR w G.F G.ρ u cs/\Reads w b o cs:=by
 unfold St.oQ at h;split at h
 ·rename_i t;simp only[zaA]at h;subst h;obtain⟨b,o,cs,rfl,h1,h2,h3⟩:=hr.wG;exact⟨b,o,cs,rfl,h1.up,h2⟩
 ·rename_i id path off;split at h
  ·rename_i t ht;split at h
   ·rename_i o u' hat;split at h
    ·rename_i ho;simp only[zaA]at h;subst h;obtain⟨b,o',h1,rfl⟩:=hr.oL;obtain⟨cs,cur,e,h2,h3,h4,h5⟩:=hw.place h1 (hH _ _ ht);obtain⟨pre,mid,post,rfl,hp,hm,_⟩:=h2.at path hat;refine⟨b,o'+off,mid,rfl,hm, ?_⟩;rw[<-ho,<-hp];exact h4.sub
    ·cases h
   ·cases h
  ·cases h
 ·cases h
theorem a3A {t:TypeId} {ag:Bool} {n:Nat} {x:Operand} {x':AX} (ha:uC P t=some ag) (hn:szT P t=some n) (hx:trX x=some x'):fR P (.load t x) (.load ag n x'):=by
 intro σ σ' v hs;simp only[aX]at hs;split at hs
 ·rename_i u hu;split at hs
  ·rename_i hc;simp only[zaA,zaJ]at hs;obtain⟨rfl,rfl⟩:=hs;refine⟨rfl,fun oper G w H U a ho hw hr hH => ?_⟩;obtain⟨b,o,cs,h1,h2,h3⟩:=yF hw hH hu (hr x x' (by simp[Op.operands]) hx);have h4:=aEE (P:=P) ha hn (cs:=cs) (by rw[h2.size];exact hc.2) h3 (fun h=>h2.single (hc.1.trans h));rw[<-hc.1]at h4;exact⟨_,by simp only[execOp,ho,h1];exact iC (by simpa [Instr.loadAt,Instr.sureAddr]using h4),.aW8 h2⟩
  ·cases hs
 ·cases hs
theorem uG {w:World} {G:Gh} {len cap l h:Nat} {lo hi:Option AV} {lo' hi':Option Value} (isSlice:Bool) (hb:lW len lo hi=some (l,h)) (hc:len<=cap)
  (hlo:∀ v,lo=some v->∃ u,lo'=some u/\bS w G.F G.ρ v u) (hlo0:lo=none->lo'=none) (hhi:∀ v,hi=some v->∃ u,hi'=some u/\bS w G.F G.ρ v u) (hhi0:hi=none->hi'=none) :
  (Instr.sliceBounds isSlice len cap lo' hi' none).run P w=.ok (l,h,cap) w/\l<=h/\h<=len:=by
 unfold lW at hb;split at hb
 ·rename_i jl jh hl hh;split at hb
  ·rename_i hcond;simp only[zaA,zaJ]at hb;obtain⟨rfl,rfl⟩:=hb;refine⟨?_,by omega,by omega⟩;have e1:jl.toNat<=jh.toNat:=by omega
   have e2:(jh.toNat:Int)=jh:=by omega
   have e3:(0<=jl/\jl<=(jh.toNat:Int)):=by omega
   have e4:(0<=jh/\jh<=(cap:Int)):=by omega
   cases lo with
   |none =>
    have:=hlo0 rfl;subst this;simp only[zaA]at hl;subst hl;cases hi with
    |none => have:=hhi0 rfl;subst this;simp only[zaA]at hh;subst hh;simp[Instr.sliceBounds]
    |some vh => obtain⟨u,rfl,hu⟩:=hhi _ rfl;obtain⟨k,rfl⟩:=p3 hh hu;simp[Instr.sliceBounds,Instr.sliceBound,asIntOf,e4]
   |some vl =>
    obtain⟨u,rfl,hu⟩:=hlo _ rfl;obtain⟨k,rfl⟩:=p3 hl hu;cases hi with
    |none =>
     have:=hhi0 rfl;subst this;simp only[zaA]at hh;subst hh;have e5:(0<=jl/\jl<=(len:Int)):=by omega
     simp[Instr.sliceBounds,Instr.sliceBound,asIntOf,e5]
    |some vh =>
     obtain⟨u',rfl,hu'⟩:=hhi _ rfl;obtain⟨k',rfl⟩:=p3 hh hu';have e6:jl<=jh:=by omega
     simp[Instr.sliceBounds,Instr.sliceBound,asIntOf,e4,e3,e2,e6]
  ·cases hb
 ·cases hb
theorem Reads.drop {w:World} {b o:Nat} {cs:List Value} (h:Reads w b o cs) (n:Nat):Reads w b (o+n) (cs.drop n):=by intro j v hj;rw[List.getElem?_drop]at hj;rw[Nat.add_assoc];exact h (n+j) v hj
theorem Reads.take {w:World} {b o:Nat} {cs:List Value} (h:Reads w b o cs) (n:Nat):Reads w b o (cs.take n):=by
 intro j v hj;rw[List.getElem?_take]at hj;split at hj
 ·exact h j v hj
 ·cases hj
theorem aSH {w:World} {F:Nat->Prop} {ρ:Nat->Option Loc} {es b o l h cap:Nat} {ts:List AV} {cs:List Value} (h1:eH w F es ts cs) (h2:Reads w b o cs) (h3:F b) (hl:l<=h) (hh:h<=ts.length) (hc:h<=cap) (ad:Option Addr)
  (had:l<h->ad=some ⟨b,o+l*es,none⟩):bR w F ρ (.fro false es ((ts.take h).drop l)) [.slice ad (h-l) (cap-l)]:=by
 by_cases hlt:l<h
 ·rw[had hlt];have hlen:((ts.take h).drop l).length=h-l:=by simp;omega
  have:=bR.fro (ρ:=ρ) (x:=false) (cap:=cap-l) ((h1.take h).drop l) ((h2.take (h*es)).drop (l*es)) h3 (fun h=>by cases h) (by rw[hlen];omega)
  rwa [hlen]at this
 ·have:l=h:=by omega
  subst this;have e:(ts.take l).drop l=[]:=by simp
  rw[e,Nat.sub_self];exact .iV (fun h=>by cases h)
theorem oR {σ:St} {G:Gh} {w:World} {a:Act} {x:Option Operand} {x':Option AX} (h:aM8 x=some x') (hr:∀ y y',y∈x.toArray->trX y=some y'->bS w G.F G.ρ (σ.ev y') (a.eval y)) :
  (∀ v,x'.map σ.ev=some v->∃ u,x.map a.eval=some u/\bS w G.F G.ρ v u)/\(x'.map σ.ev=none->x.map a.eval=none):=by
 unfold aM8 at h;split at h
 ·simp only[zaA]at h;subst h;exact⟨fun v hv=>(by cases hv),fun _=>rfl⟩
 ·rename_i y;cases hy:trX y with
  |none=>rw[hy]at h;cases h
  |some y' => rw[hy]at h;simp only[Option.map_some,zaA]at h;subst h;refine⟨fun v hv => ?_,fun hv=>(by cases hv)⟩;simp only[Option.map_some,zaA]at hv;subst hv;exact⟨_,rfl,hr y y' (by simp) hy⟩
theorem aW9 {t e:TypeId} {i:TypeInfo} {x:Operand} {x':AX} {lo hi:Option Operand} {lo' hi':Option AX} (ht:mS P t=some (e,i)) (hx:trX x=some x') (hlo:aM8 lo=some lo') (hhi:aM8 hi=some hi') :
  fR P (.slice t x lo hi none) (.slice i.size x' lo' hi'):=by
 intro σ σ' v hs;obtain⟨hu,hi2⟩:=mL ht;simp only[aX]at hs;split at hs
 ·rename_i x0 es ts hv;split at hs
  ·rename_i l h hb;split at hs
   ·rename_i hes;subst hes;simp only[zaA,zaJ]at hs;obtain⟨rfl,rfl⟩:=hs;refine⟨rfl,fun oper G w H U a ho hw hr hH => ?_⟩;have h1:=hr x x' (by simp[Op.operands]) hx;rw[hv]at h1;obtain⟨ad,cap,h2,h3,h4,h5⟩:=h1.rH;obtain⟨l1,l2⟩:=oR (σ:=σ) (G:=G) (w:=w) (a:=a) hlo (fun y y' hy=>hr y y' (by simp[Op.operands];cases lo<;>simp at hy ⊢;exact .inr (.inl hy.symm)));obtain⟨r1,r2⟩:=oR (σ:=σ) (G:=G) (w:=w) (a:=a) hhi (fun y y' hy=>hr y y' (by simp[Op.operands];cases hi<;>simp at hy ⊢;exact .inr (.inr hy.symm)));obtain⟨hrun,hlh,hhl⟩:=uG (P:=P) true hb h3 l1 l2 r1 r2;refine⟨.slice (if cap=l then ad else ad.map (·.add (l*i.size))) (h-l) (cap-l), ?_,.one ?_ rfl⟩
    ·simp only[execOp,ho,h2];refine iC ?_;simp[Instr.sliceAt,Instr.slice,run_underlying hu,hrun,sizeOf,typeInfo,hi2]
    ·rcases h5 with rfl|⟨b,o,cs,rfl,h6,h7,h8⟩
     ·have:h=0:=by simpa using hhl
      subst this;have:l=0:=by omega
      subst this;simp only[List.take_nil,List.drop_nil,Nat.sub_self];exact .iV (fun h=>by cases h)
     ·refine aSH h6 h7 h8 hlh hhl (by omega) _ (fun hlt => ?_);rw[if_neg (by omega)];simp[add_lit]
   ·cases hs
  ·cases hs
 ·rename_i id path off k len es hv;split at hs
  ·rename_i l h hb;split at hs
   ·rename_i hes;subst hes;simp only[zaA,zaJ]at hs;obtain⟨rfl,rfl⟩:=hs;refine⟨rfl,fun oper G w H U a ho hw hr hH => ?_⟩;have h1:=hr x x' (by simp[Op.operands]) hx;rw[hv]at h1;obtain⟨ad,cap,h2,h3,h5⟩:=h1.qB;obtain⟨l1,l2⟩:=oR (σ:=σ) (G:=G) (w:=w) (a:=a) hlo (fun y y' hy=>hr y y' (by simp[Op.operands];cases lo<;>simp at hy ⊢;exact .inr (.inl hy.symm)));obtain⟨r1,r2⟩:=oR (σ:=σ) (G:=G) (w:=w) (a:=a) hhi (fun y y' hy=>hr y y' (by simp[Op.operands];cases hi<;>simp at hy ⊢;exact .inr (.inr hy.symm)));obtain⟨hrun,hlh,hhl⟩:=uG (P:=P) true hb h3 l1 l2 r1 r2;refine⟨.slice (if cap=l then ad else ad.map (·.add (l*i.size))) (h-l) (cap-l), ?_,.one ?_ rfl⟩
    ·simp only[execOp,ho,h2];refine iC ?_;simp[Instr.sliceAt,Instr.slice,run_underlying hu,hrun,sizeOf,typeInfo,hi2]
    ·by_cases hcl:cap=l
     ·have:h=l:=by omega
      subst this;rw[hcl,Nat.sub_self];exact .sl0
     ·rw[if_neg hcl];rcases h5 with⟨h5,h6⟩|⟨b,o,cur,e,rfl,h6,h7,h8⟩
      ·omega
      ·simp only[Option.map_some,add_lit,Nat.add_assoc];refine .sl h6 (by omega) h7 ?_;have:(cap-l)*i.size+l*i.size=cap*i.size:=by rw[<-Nat.add_mul];congr 1;omega
       omega
   ·cases hs
  ·cases hs
 ·cases hs
end
end Go.Ra
namespace Go.Ra
set_option linter.unusedVariables false
set_option linter.unusedSimpArgs false
section
variable {P:Program}
theorem Reads.bound {w:World} {b o:Nat} {cs:List Value} {cur:Array Value} {e:TypeId} (h:Reads w b o cs) (hb:w.heap[b]? = some (Obj.cells cur e (0,0))) (hne:cs≠[]):o+cs.length<=cur.size:=by
 have hlt:cs.length-1<cs.length:=by have:=List.length_pos_iff.2 hne;omega
 have:=h (cs.length-1) _ (List.getElem?_eq_getElem hlt);simp only[World.cell?,hb]at this;have:=(Array.getElem?_eq_some_iff.1 this).1;omega
theorem aVH {t:TypeId} {n:Nat} {i:TypeInfo} {x:Operand} {x':AX} {lo hi:Option Operand} {lo' hi':Option AX} (ht:aVD P t=some (n,i)) (hx:trX x=some x') (hlo:aM8 lo=some lo') (hhi:aM8 hi=some hi') :
  fR P (.slice t x lo hi none) (.aAE n i.size x' lo' hi'):=by
 intro σ σ' v hs;obtain⟨e,hu,hi2⟩:=aNB ht;simp only[aX]at hs;split at hs
 ·rename_i id path off hv;split at hs
  ·rename_i l h tt hb hH2;split at hs
   ·rename_i o n' es' ts' hat;split at hs
    ·rename_i hc;obtain⟨rfl,rfl,rfl,hpos⟩:=hc;simp only[zaA,zaJ]at hs;obtain⟨rfl,rfl⟩:=hs;refine⟨rfl,fun oper G w H U a ho hw hr hH => ?_⟩;have h1:=hr x x' (by simp[Op.operands]) hx;rw[hv]at h1;obtain⟨b,o',h2,h3⟩:=h1.oL;obtain⟨l1,l2⟩:=oR (σ:=σ) (G:=G) (w:=w) (a:=a) hlo (fun y y' hy=>hr y y' (by simp[Op.operands];cases lo<;>simp at hy ⊢;exact .inr (.inl hy.symm)));obtain⟨r1,r2⟩:=oR (σ:=σ) (G:=G) (w:=w) (a:=a) hhi (fun y y' hy=>hr y y' (by simp[Op.operands];cases hi<;>simp at hy ⊢;exact .inr (.inr hy.symm)));obtain⟨hrun,hlh,hhl⟩:=uG (P:=P) false hb (zaF n') l1 l2 r1 r2;obtain⟨cs,cur,e1,h4,h5,h6,h7⟩:=hw.place h2 (hH _ _ hH2);obtain⟨pre,mid,post,rfl,hp,hm,_⟩:=h4.at path hat;refine⟨.slice (if n'=l then some ⟨b,o'+o,none⟩else some (Addr.add ⟨b,o'+o,none⟩ (l*i.size))) (h-l) (n'-l), ?_,.one ?_ rfl⟩
     ·simp only[execOp,ho,h3];refine iC ?_;simp only[Instr.sliceAt,Sem.run_bind,run_underlying hu,Instr.sureAddr];simp[hrun,sizeOf,typeInfo,hi2];split<;>rfl
     ·by_cases hcl:n'=l
      ·have:h=l:=by omega
       subst this;rw[hcl,Nat.sub_self];exact .sl0
      ·rw[if_neg hcl,add_lit,Nat.add_assoc];refine .sl h2 (by omega) h5 ?_;have hms:=hm.size;simp only[AV.size]at hms;by_cases hz:mid=[]
       ·subst hz;simp only[List.length_nil]at hms;have:=Nat.mul_pos (show 0<n' by omega) hpos;omega
       ·have hb2:=h6.sub.bound h5 hz;have e2:l*i.size+(n'-l)*i.size=n'*i.size:=by rw[<-Nat.add_mul];congr 1;omega
        omega
    ·cases hs
   ·cases hs
  ·cases hs
 ·rename_i n1 es1 ts hv;split at hs
  ·rename_i l h hb;split at hs
   ·rename_i hc;obtain⟨rfl,rfl⟩:=hc;simp only[zaA,zaJ]at hs;obtain⟨rfl,rfl⟩:=hs;refine⟨rfl,fun oper G w H U a ho hw hr hH => ?_⟩;have h1:=hr x x' (by simp[Op.operands]) hx;rw[hv]at h1;obtain⟨b,o,cs,h3,h4,h5,h6⟩:=h1.wG;obtain⟨l1,l2⟩:=oR (σ:=σ) (G:=G) (w:=w) (a:=a) hlo (fun y y' hy=>hr y y' (by simp[Op.operands];cases lo<;>simp at hy ⊢;exact .inr (.inl hy.symm)));obtain⟨r1,r2⟩:=oR (σ:=σ) (G:=G) (w:=w) (a:=a) hhi (fun y y' hy=>hr y y' (by simp[Op.operands];cases hi<;>simp at hy ⊢;exact .inr (.inr hy.symm)));obtain⟨hrun,hlh,hhl⟩:=uG (P:=P) false hb (zaF n1) l1 l2 r1 r2;cases h4 with
    |arr h7 h8 =>
     refine⟨.slice (if n1=l then some ⟨b,o,none⟩else some (Addr.add ⟨b,o,none⟩ (l*i.size))) (h-l) (n1-l), ?_,.one ?_ rfl⟩
     ·simp only[execOp,ho,h3];refine iC ?_;simp only[Instr.sliceAt,Sem.run_bind,run_underlying hu,Instr.sureAddr];simp[hrun,sizeOf,typeInfo,hi2];split<;>rfl
     ·refine aSH h7 h5 h6 hlh (by omega) (by omega) _ (fun hlt => ?_);rw[if_neg (by omega),add_lit]
   ·cases hs
  ·cases hs
 ·cases hs
theorem aJD (off:Nat):∀(vs:List Value) (k:Nat) (cs:List Value),off+k+vs.length<=cs.length ->
  ((vs.zipIdx k).foldl (fun(cs:Array Value) (p:Value×Nat)=>cs.setIfInBounds (off+p.2) p.1) cs.toArray)=(cs.take (off+k)++(vs++cs.drop (off+k+vs.length))).toArray
 |[],k,cs,h=>by simp
 |v::vs,k,cs,h=>by
  simp only[List.zipIdx_cons,List.foldl_cons,List.length_cons]at h ⊢;have hlt:off+k<cs.length:=by omega
  have e:cs.toArray.setIfInBounds (off+k) v=(cs.set (off+k) v).toArray:=by simp
  rw[e,aJD off vs (k+1) (cs.set (off+k) v) (by simp;omega)];congr 1;rw[List.set_eq_take_append_cons_drop,if_pos hlt];have h1:(cs.take (off+k)).length=off+k:=by simp;omega
  have e1:(cs.take (off+k)++v::cs.drop (off+k+1)).take (off+(k+1))=cs.take (off+k)++[v]:=by rw[List.take_append,h1,show off+(k+1)-(off+k)=1 by omega,List.take_of_length_le (by omega)];simp
  have e2:(cs.take (off+k)++v::cs.drop (off+k+1)).drop (off+(k+1)+vs.length)=cs.drop (off+k+(vs.length+1)):=by rw[List.drop_append,h1,List.drop_of_length_le (by omega),List.nil_append,show off+(k+1)+vs.length-(off+k)=vs.length+1 by omega,List.drop_succ_cons,List.drop_drop];congr 1;omega
  rw[e1,e2];simp
theorem aND {place:Nat->Option (Nat×Nat)} {i off:Nat} {v:Value} {rest:List (Nat×Value)} {pre mid post:List Value} (hp:place i=some (off,v.cells.size)) (hoff:pre.length=off) (hm:mid.length=v.cells.size) :
  Instr.fill place (pre++(mid++post)).toArray ((i,v)::rest)=Instr.fill place (pre++(v.cells.toList++post)).toArray rest:=by
 simp only[Instr.fill,hp];have key:(v.cells.zipIdx.foldl (fun cs (x:Value×Nat)=>cs.setIfInBounds (off+x.2) x.1) (pre++(mid++post)).toArray)=(pre++(v.cells.toList++post)).toArray:=by
  have:=aJD off v.cells.toList 0 (pre++(mid++post)) (by simp;omega);rw[<-Array.foldl_toList,Array.toList_zipIdx,this];congr 1;have h1:(pre++(mid++post)).take (off+0)=pre:=by rw[Nat.add_zero,<-hoff];simp
  have h2:(pre++(mid++post)).drop (off+0+v.cells.toList.length)=post:=by
   have e:off+0+v.cells.toList.length=(pre++mid).length:=by simp;omega
   rw[e,<-List.append_assoc,List.drop_left]
  rw[h1,h2]
 split
 ·rename_i h;simp at h;omega
 ·rw[<-key]
theorem uH:∀(a b:List AV),j6 (a++b)=j6 a+j6 b
 |[],b=>by simp[j6]
 |t::a,b=>by simp[j6,uH a b,Nat.add_assoc]
theorem aXA {α:Type} {l:List α} {i:Nat} {z:α} (h:l[i]? = some z):l=l.take i++(z::l.drop (i+1)):=by obtain⟨hi,rfl⟩:=List.getElem?_eq_some_iff.1 h;rw[<-List.drop_eq_getElem_cons hi,List.take_append_drop]
def aFZ (place:Nat->Option (Nat×Nat)) (zs:List AV):Prop:=∀ i z,zs[i]? = some z->place i=some (j6 (zs.take i),z.size)
theorem aFZ.set {place:Nat->Option (Nat×Nat)} {zs:List AV} (h:aFZ place zs) {i:Nat} {z v:AV} (hz:zs[i]? = some z) (hv:v.size=z.size):aFZ place (zs.set i v):=by
 intro j y hj;have hi:i<zs.length:=(List.getElem?_eq_some_iff.1 hz).1;have hsz:∀ j,j6 ((zs.set i v).take j)=j6 (zs.take j):=by
  intro j;rw[List.take_set];by_cases hij:i<j
  ·have hz':(zs.take j)[i]? = some z:=by rw[List.getElem?_take];simp[hij,hz]
   rw[yD hz',uH];have:zs.take j=(zs.take j).take i++(z::(zs.take j).drop (i+1)):=aXA hz'
   conv=>rhs;rw[this]
   rw[uH];simp[j6,hv]
  ·rw[List.set_eq_of_length_le (by simp;omega)]
 rw[hsz];by_cases hji:j=i
 ·subst hji;rw[List.getElem?_set_self hi]at hj;simp only[zaA]at hj;subst hj;rw[hv];exact h j z hz
 ·rw[List.getElem?_set_ne (Ne.symm hji)]at hj;exact h j y hj
theorem aF0 {w:World} {G:Gh} {σ:St} {a:Act} {place:Nat->Option (Nat×Nat)}:∀ {parts:List (Nat×Operand)} {ps:List (Nat×AX)} {zs ts:List AV} {cs:List Value},yC parts=some ps ->
  (∀ x x',x∈parts.map (·.2)->trX x=some x'->bS w G.F G.ρ (σ.ev x') (a.eval x))->wD zs (ps.map fun p=>(p.1,σ.ev p.2))=some ts->aFZ place zs->dU w G.F G.ρ zs cs ->
  ∃ cs',Instr.fill place cs.toArray (parts.map fun p=>(p.1,a.eval p.2))=some cs'.toArray/\dU w G.F G.ρ ts cs'/\cs'.length=cs.length
 |[],ps,zs,ts,cs,ht,hr,hp,hpl,hl=>by simp only[yC,zaA]at ht;subst ht;simp only[List.map_nil,wD,zaA]at hp;subst hp;exact⟨cs,by simp[Instr.fill],hl,rfl⟩
 |(i,x)::parts,ps,zs,ts,cs,ht,hr,hp,hpl,hl=>by
  simp only[yC]at ht;split at ht
  ·rename_i x' ps' hx hps;simp only[zaA]at ht;subst ht;simp only[List.map_cons,wD]at hp;split at hp
   ·rename_i z hz;split at hp
    ·rename_i hc;have hv:=hr x x' (by simp) hx;have hvc:=hv.cells hc.2.1;obtain⟨pre,mid,post,rfl,hpre,hm,hl1,hl2⟩:=hl.nth hz;have hplace:=hpl i z hz;have hsz:(a.eval x).cells.toList.length=z.size:=by rw[hvc.size];exact hc.1
     have hsz':(a.eval x).cells.size=z.size:=by simpa using hsz
     have h1:=aND (place:=place) (i:=i) (off:=j6 (zs.take i)) (v:=a.eval x) (rest:=parts.map fun p=>(p.1,a.eval p.2)) (pre:=pre) (mid:=mid) (post:=post) (by rw[hplace,hsz']) hpre (by rw[hm.size,hsz']);have hl':dU w G.F G.ρ (zs.set i (σ.ev x')) (pre++((a.eval x).cells.toList++post)):=by rw[yD hz];exact hl1.append (.cons hvc hl2)
     obtain⟨cs',h2,h3,h4⟩:=aF0 hps (fun y y' hy=>hr y y' (by simp at hy ⊢;exact .inr hy)) hp (hpl.set hz hc.1) hl';refine⟨cs', ?_,h3, ?_⟩
     ·simp only[List.map_cons];rw[h1];exact h2
     ·rw[h4];simp;rw[hsz',<-hm.size]
    ·cases hp
   ·cases hp
  ·cases ht
theorem aBA:∀ {fs:List Field} {zs:List AV} {o:Nat},p9 P o fs zs=true->∃ ss:List (Nat×Nat),(∀(w:World),(fs.mapM fun f=>(do pure (f.offset,<-sizeOf f.type):Sem (Nat×Nat))).run P w=.ok ss w)/\∀ i z,zs[i]? = some z->ss[i]? = some (o+j6 (zs.take i),z.size)
 |[],[],o,h=>⟨[],fun w=>by simp,fun i z hz=>by simp at hz⟩
 |[],_::_,o,h=>by simp[p9]at h
 |_::_,[],o,h=>by simp[p9]at h
 |f::fs,z::zs,o,h=>by
  simp only[p9,zaG,zaK]at h;obtain⟨⟨h1,h2⟩,h3⟩:=h;split at h2
  ·rename_i inf hi;simp only[zaK]at h2;obtain⟨ss,h4,h5⟩:=aBA h3;refine⟨(o,z.size)::ss,fun w => ?_,fun i y hy => ?_⟩
   ·have hsz:∀ w,(sizeOf f.type).run P w=.ok inf.size w:=fun w=>by simp[sizeOf,typeInfo,hi]
    rw[List.mapM_cons];simp only[Sem.run_bind,hsz,Result.andThen,Sem.run_pure,h4,h1,h2]
   ·cases i with
    |zero => simp only[List.getElem?_cons_zero,zaA]at hy;subst hy;simp[j6]
    |succ i => simp only[List.getElem?_cons_succ]at hy;have:=h5 i y hy;simp only[List.getElem?_cons_succ,this,List.take_succ_cons,j6,Nat.add_assoc]
  ·cases h2
theorem aXB {t:TypeId} {fs:Array Field} {n:Nat} {zs:List AV} {parts:Array (Nat×Operand)} {ps:List (Nat×AX)} (hu:P.underlying t=some (.struct fs)) (hz:zI P t=some (.agg n zs)) (hp:yC parts.toList=some ps) (hf:p9 P 0 fs.toList zs=true) :
  fR P (.build t parts) (.build n zs ps):=by
 intro σ σ' v hs;simp only[aX]at hs;split at hs
 ·rename_i ts hts;simp only[zaA,zaJ]at hs;obtain⟨rfl,rfl⟩:=hs;refine⟨rfl,fun oper G w H U a ho hw hr hH => ?_⟩;obtain⟨inf,zv,h1,h2,h3,h4⟩:=sR hz;obtain⟨ss,h5,h6⟩:=aBA hf;cases (h4 w G.F G.ρ).1 with
  |agg h7 h8 =>
   have hpl:aFZ (fun i=>ss.toArray[i]?) zs:=fun i z hz=>by have:=h6 i z hz;rw[Nat.zero_add]at this;simpa using this
   obtain⟨cs',h9,h10,h11⟩:=aF0 (σ:=σ) (a:=a) hp (fun x x' hx hx'=>hr x x' (by simpa [Op.operands]using hx) hx') hts hpl h7;refine⟨.agg cs'.toArray, ?_,.agg (.agg h10 (by rw[h11,h8])) rfl⟩;simp only[execOp,ho];refine iC ?_;have e1:(fs.mapM fun f=>(do pure (f.offset,<-sizeOf f.type):Sem (Nat×Nat))).run P w=.ok ss.toArray w:=by
    have:∀(x:Sem (List (Nat×Nat))),x.run P w=.ok ss w->(List.toArray <$> x).run P w=.ok ss.toArray w:=fun x hx=>by simp[hx]
    rw[Array.mapM_eq_mapM_toList];exact this _ (h5 w)
   have e2:(parts.map fun(x:Nat×Operand)=>(x.1,a.eval x.2)).toList=parts.toList.map fun p=>(p.1,a.eval p.2):=by simp
   have hz0:(zeroValue t).run P w=.ok zv w:=by simp[zeroValue,typeInfo,h1,h2]
   have e3:zv.cells=(zv.cells.toList).toArray:=by simp
   simp only[Instr.build,Sem.run_bind,hz0,Result.andThen,run_underlying hu,e1];rw[e2,e3,h9];simp
 ·cases hs
theorem aJE (f:Value->Value->Sem Value) (g:Int->Int->Int) (hf:∀(k:IntKind) (a b:Int) (w:World),(f (.int k a) (.int k b)).run P w=.ok (.int k (g a b)) w) {w:World} {F:Nat->Prop} {ρ:Nat->Option Loc} {k:IntKind} :
  ∀ {ts:List AV} {us:List Value} {v:AV} {a:Int},aEB g k a ts=some v->bW w F ρ ts us->∃ z,(us.foldlM f (.int k a)).run P w=.ok z w/\bS w F ρ v z
 |[],us,v,a,h,hr=>by cases hr;simp only[aEB,zaA]at h;subst h;exact⟨.int k a,by simp,.one (.sc rfl) rfl⟩
 |t::ts,us,v,a,h,hr=>by
  cases hr with
  |cons h1 h2 =>
   rename_i u us;unfold aEB at h;split at h
   ·rename_i heq;cases heq
   ·rename_i k' b l heq;simp only[List.cons.injEq]at heq;obtain⟨rfl,rfl⟩:=heq;split at h
    ·rename_i hk;subst hk;obtain⟨rfl,_⟩:=h1.mT;obtain⟨z,hz,hz2⟩:=aJE f g hf h h2;refine⟨z, ?_,hz2⟩;simp only[List.foldlM_cons,Sem.run_bind,hf];simpa using hz
    ·cases h
   ·cases h
theorem aJF (f:Value->Value->Sem Value) (g:Int->Int->Int) (hf:∀(k:IntKind) (a b:Int) (w:World),(f (.int k a) (.int k b)).run P w=.ok (.int k (g a b)) w) {w:World} {F:Nat->Prop} {ρ:Nat->Option Loc}
  {ts:List AV} {vs:List Value} {v:AV} (h:foldI g ts=some v) (hr:bW w F ρ ts vs) :
   ∃ u us,vs=u::us/\∃ z,(us.foldlM f u).run P w=.ok z w/\bS w F ρ v z:=by
 unfold foldI at h;split at h
 ·cases hr with
  |cons h1 h2 => obtain⟨rfl,_⟩:=h1.mT;exact⟨_,_,rfl,aJE f g hf h h2⟩
 ·cases h
theorem a86 {oper0:Call} {xs':List AX} (hc:oper0.callee=.builtin .max) (hx:pZ oper0.args.toList=some xs'):fR P (.call oper0) (.max xs'):=by
 intro σ σ' v hs;simp only[aX]at hs;split at hs
 ·rename_i u hu;simp only[zaA,zaJ]at hs;obtain⟨rfl,rfl⟩:=hs;refine⟨rfl,fun oper G w H U a ho hw hr hH => ?_⟩;have h1:=bW.aA8 (σ:=σ) (G:=G) (w:=w) (a:=a) hx fun x x' hx hx'=>hr x x' (by simp[Op.operands,Call.operands,hc];simpa using hx) hx'
  obtain⟨z,zs,h2,y,h3,h4⟩:=aJF (P:=P) Builtin.max2 (fun a b=>if b>a then b else a) (fun k a b w=>by simp[Builtin.max2]) hu h1;refine⟨y, ?_,h4⟩;have e:(oper0.args.map a.eval).toList=z::zs:=by rw[Array.toList_map];exact h2
  simp[execOp,ho,resolve,hc,invoke,builtin,Builtin.max_,h2,h3]
 ·cases hs
theorem a87 {oper0:Call} {xs':List AX} (hc:oper0.callee=.builtin .min) (hx:pZ oper0.args.toList=some xs'):fR P (.call oper0) (.min xs'):=by
 intro σ σ' v hs;simp only[aX]at hs;split at hs
 ·rename_i u hu;simp only[zaA,zaJ]at hs;obtain⟨rfl,rfl⟩:=hs;refine⟨rfl,fun oper G w H U a ho hw hr hH => ?_⟩;have h1:=bW.aA8 (σ:=σ) (G:=G) (w:=w) (a:=a) hx fun x x' hx hx'=>hr x x' (by simp[Op.operands,Call.operands,hc];simpa using hx) hx'
  obtain⟨z,zs,h2,y,h3,h4⟩:=aJF (P:=P) Builtin.min2 (fun a b=>if b<a then b else a) (fun k a b w=>by simp[Builtin.min2]) hu h1;refine⟨y, ?_,h4⟩;simp[execOp,ho,resolve,hc,invoke,builtin,Builtin.min_,h2,h3]
 ·cases hs
theorem uI {σ:St} {G:Gh} {w:World} {H:Nat->Option AV} {U:Nat->Prop} (hw:Wf G w H U) (hH:∀ k t,σ.H k=some t->H k=some t) {es:Nat} {x:AV} {ts:List AV} {v:Value} (h:σ.row es x=some ts) (hr:bS w G.F G.ρ x v) :
  ∃ ad cap,v=.slice ad ts.length cap/\ts.length<=cap/\(ts=[]\/∃ b o cs,ad=some ⟨b,o,none⟩/\eH w G.F es ts cs/\Reads w b o cs):=by
 unfold St.row at h;split at h
 ·split at h
  ·rename_i hes;simp only[zaA]at h;subst h;obtain⟨ad,cap,h1,h2,h3,h4⟩:=hr.rH;refine⟨ad,cap,h1,h2, ?_⟩;rcases h4 with h4|⟨b,o,cs,h5,h6,h7,h8⟩
   ·exact .inl h4
   ·rcases hes with rfl|hes
    ·exact .inr ⟨b,o,cs,h5,h6,h7⟩
    ·exact .inl hes
  ·cases h
 ·rename_i id path off k len es2;split at h
  ·rename_i h0;simp only[zaA]at h;subst h;obtain⟨ad,cap,h1,h2,h3⟩:=hr.qB;exact⟨ad,cap,by rw[h1,h0];rfl,Nat.zero_le _,.inl rfl⟩
  split at h
  ·rename_i t ht;split at h
   ·rename_i o n es' ts' hat;split at h
    ·rename_i hc;obtain⟨rfl,rfl,hc⟩:=hc;simp only[zaA]at h;subst h;obtain⟨ad,cap,h1,h2,h3⟩:=hr.qB;have hl:((ts'.drop k).take len).length=len:=by simp;omega
     refine⟨ad,cap,by rw[hl];exact h1,by rw[hl];exact h2, ?_⟩;rcases h3 with⟨h3,h4⟩|⟨b,o',cur,e,h4,h5,h6,h7⟩
     ·exact .inl (by rw[h3];simp)
     ·obtain⟨cs,c1,e1,h8,h9,h10,h11⟩:=hw.place h5 (hH _ _ ht);obtain⟨pre,mid,post,rfl,hp,hm,_⟩:=h8.at path hat;cases hm with
      |arr hm1 hm2 => refine .inr ⟨b,o'+off,(mid.drop (k*es')).take (len*es'),h4,(hm1.drop k).take len, ?_⟩;have hsub:=(h10.sub.drop (k*es')).take (len*es');rw[hc.1,<-hp,<-Nat.add_assoc];exact hsub
    ·cases h
   ·cases h
  ·cases h
 ·cases h
theorem zJ {w:World} {F:Nat->Prop}:∀ {ts:List AV} {es:Nat} {cs:List Value} {l:List UInt8},bytesOf ts=some l->eH w F es ts cs ->
  ∃ ns:List Int,cs=ns.map (fun n=>Value.int .u8 n)/\l=ns.map (fun n=>UInt8.ofNat n.toNat)/\(ts≠[]->es=1)/\ts.length=ns.length
 |[],es,cs,l,h,hr=>by cases hr;simp only[bytesOf,zaA]at h;subst h;exact⟨[],rfl,rfl,fun h=>absurd rfl h,rfl⟩
 |t::ts,es,cs,l,h,hr=>by
  cases hr with
  |cons h1 h0 h2 =>
   unfold bytesOf at h;split at h
   ·rename_i heq;cases heq
   ·rename_i n l' heq;simp only[List.cons.injEq]at heq;obtain⟨rfl,rfl⟩:=heq;split at h
    ·rename_i r hr';simp only[zaA]at h;subst h;obtain⟨ns,rfl,rfl,_,h5⟩:=zJ hr' h2;cases h1;exact⟨n::ns,rfl,rfl,fun _=>by simpa using h0.symm,by simp[h5]⟩
    ·cases h
   ·cases h
theorem aNE {w:World} (φ:Value->ByteArray->Sem (ForInStep ByteArray)) (hφ:∀(n:Int) (r:ByteArray),φ (.int .u8 n) r=pure (ForInStep.yield (r.push (UInt8.ofNat n.toNat)))):∀(ns:List Int) (s:ByteArray),
  Sem.run P (forIn (ns.map fun n=>Value.int .u8 n) s φ) w=Result.ok ⟨(s.data.toList++ns.map fun n=>UInt8.ofNat n.toNat).toArray⟩ w
 |[],s=>by simp
 |n::ns,s=>by have:=aNE (w:=w) φ hφ ns (s.push (UInt8.ofNat n.toNat));simp only[List.map_cons,List.forIn_cons,hφ];simp only[Sem.run_bind,Sem.run_pure,Result.andThen];rw[this];congr 3;simp[ByteArray.push]
theorem a88 {src dst e:TypeId} {x:Operand} {x':AX} (h1:P.underlying src=some (.slice e)) (h2:P.underlying dst=some .string) (h3:P.underlying e=some (.int .u8)) (hx:trX x=some x'):fR P (.convert src dst x) (.b2s x'):=by
 intro σ σ' v hs;simp only[aX]at hs;split at hs
 ·rename_i ts hrow;split at hs
  ·rename_i l hl;simp only[zaA,zaJ]at hs;obtain⟨rfl,rfl⟩:=hs;refine⟨rfl,fun oper G w H U a ho hw hr hH => ?_⟩;obtain⟨ad,cap,h4,h5,h6⟩:=uI hw hH hrow (hr x x' (by simp[Op.operands]) hx);refine⟨.string ⟨l.toArray⟩, ?_,.one (.sc rfl) rfl⟩;have hconv:(Conv.bytesToString (.slice ad ts.length cap)).run P w=.ok (.string ⟨l.toArray⟩) w:=by
    rcases h6 with rfl|⟨b,o,cs,rfl,h7,h8⟩
    ·simp only[bytesOf,zaA]at hl;subst hl;cases ad with
     |none=>simp[Conv.bytesToString];rfl
     |some ad=>simp[Conv.bytesToString,loadCells,loadCellsFrom];rfl
    ·obtain⟨ns,rfl,rfl,h9,h10⟩:=zJ hl h7;have hcells:(loadCells ⟨b,o,none⟩ ts.length).run P w=.ok (ns.map fun n=>Value.int .u8 n).toArray w:=by
      have:=run_loadCells_list (P:=P) w ⟨b,o,none⟩ (ns.map fun n=>Value.int .u8 n) (fun j v hj=>by rw[add_lit];exact h8 j v hj)
      rwa [List.length_map,<-h10]at this
     simp only[Conv.bytesToString,Sem.run_bind,hcells,Result.andThen];rw[<-Array.forIn_toList];simp only[List.toList_toArray];rw[aNE _ (fun n r=>rfl) ns ByteArray.empty];simp
   simp only[execOp,ho,h4];refine iC ?_;cases ad<;>simp[convert,run_underlying h1,run_underlying h2,run_underlying h3]<;>exact hconv
  ·cases hs
 ·cases hs
end
end Go.Ra
namespace Go.Ra
set_option linter.unusedVariables false
set_option linter.unusedSimpArgs false
section
variable {P:Program}
theorem iL (w:World) (o:Obj):pF w (w.alloc o) o:=⟨rfl,rfl,rfl,rfl⟩
theorem oS (w:World) (o:Obj):pF w (w.drew.alloc o) o:=⟨rfl,rfl,rfl,rfl⟩
theorem aF1 {oper:Oper} {σ:St} {v:AV} (hv:v.storable=true) {fr:Fr} {G:Gh} {w:World} {H:Nat->Option AV} {U:Nat->Prop} {a:Act} (hw:Wf G w H U) (hf:wE fr G w H) (hU:U σ.n) {e:TypeId} {u:Value}
  (hrun:(execOp a.eval oper).run P w=.ok (.value (.pointer (some ⟨w.heap.size,0,none⟩))) (w.alloc (.cells u.cells e))) (hr:bS w G.F G.ρ v u) :
  a82 fr G w ((execOp a.eval oper).run P w) (.ptr σ.n [] 0) ((Chg.new v).H σ.n H) (fun j=>U j/\((Chg.new v).mU=true->j≠σ.n)):=by
 have h1:=Nxt.own hw hf (iL w (.cells u.cells e)) hU (hr.cells hv) (fun j v hj=>by simpa using hj) (U':=fun j=>U j/\((Chg.new v).mU=true->j≠σ.n)) (fun j hj=>⟨hj.1,hj.2 rfl⟩);exact⟨_,_,_,.inl hrun,h1,.one (.ptr (bU _ _ _)) rfl⟩
theorem a89 {t:TypeId} {x:Operand} {x':AX} (hx:trX x=some x'):Sound P (.box t x) (.box x'):=by
 intro σ σ' v hs;simp only[aX]at hs;split at hs
 ·rename_i hst;simp only[zaA,zaJ]at hs;obtain⟨rfl,rfl⟩:=hs;refine⟨.new (σ.ev x'),rfl,fun k hk=>by simp[Chg.key]at hk,fun fr oper G w H U a ho hw hf hr hH hU => ?_⟩;refine aF1 hst hw hf (hU rfl) (e:=t) (u:=a.eval x) ?_ (hr x x' (by simp[Op.operands]) hx);simp[execOp,ho,Instr.box,newVar,newRow,newObj,Sem.run]
 ·cases hs
theorem aXC {t:TypeId} {z:AV} (hz:zI P t=some z):Sound P (.alloc t) (.box (.c z)):=by
 intro σ σ' v hs;simp only[aX]at hs;split at hs
 ·rename_i hst;simp only[zaA,zaJ]at hs;obtain⟨rfl,rfl⟩:=hs;refine⟨.new z,rfl,fun k hk=>by simp[Chg.key]at hk,fun fr oper G w H U a ho hw hf hr hH hU => ?_⟩;obtain⟨i,zv,h1,h2,h3,h4⟩:=sR hz;have hz0:(zeroValue t).run P w=.ok zv w:=by simp[zeroValue,typeInfo,h1,h2]
  refine aF1 hst hw hf (hU rfl) (e:=t) (u:=zv) ?_ (h4 w G.F G.ρ).2;simp only[execOp,ho];refine iC ?_;simp only[Instr.alloc,Sem.run_bind,hz0,Result.andThen];simp[newVar,newRow,newObj,Sem.run]
 ·cases hs
theorem aAI {w:World} {G:Gh} {es:Nat}:∀ {parts:List (Nat×Value)} {ts:List AV} {k:Nat} {pre post:List Value},(∀ j p,parts[j]? = some p->p.1=k+j)->bW w G.F G.ρ ts (parts.map (·.2))->aEA es ts=true ->
  pre.length=k*es->post.length=parts.length*es ->
  ∃ cs,Instr.fill (fun i=>some (i*es,es)) (pre++post).toArray parts=some (pre++cs).toArray/\eH w G.F es ts cs
 |[],ts,k,pre,post,hk,hr,hok,hp,hq=>by cases hr;have:post=[]:=List.eq_nil_of_length_eq_zero (by simpa using hq);subst this;exact⟨[],by simp[Instr.fill],.nil⟩
 |(i,v)::parts,ts,k,pre,post,hk,hr,hok,hp,hq=>by
  cases hr with
  |cons h1 h2 =>
   simp only[aEA,zaG,beq_iff_eq]at hok;have hi:i=k:=by have:=hk 0 (i,v) rfl;simpa using this
   subst hi;have hc:=h1.cells hok.1.1.2;have hsz:v.cells.toList.length=es:=by rw[hc.size];exact hok.1.1.1
   have hsz':v.cells.size=es:=by simpa using hsz
   simp only[List.length_cons,Nat.add_mul,Nat.one_mul]at hq;have e:pre++post=pre++(post.take es++post.drop es):=by rw[List.take_append_drop]
   have h3:=aND (place:=fun i=>some (i*es,es)) (i:=i) (off:=i*es) (v:=v) (rest:=parts) (pre:=pre) (mid:=post.take es) (post:=post.drop es) (by simp[hsz']) hp (by simp;omega);obtain⟨cs,h4,h5⟩:=aAI (k:=i+1) (pre:=pre++v.cells.toList) (post:=post.drop es) (fun j p hj=>by have:=hk (j+1) p (by simpa using hj);omega) h2 hok.2 (by simp[hp,hsz',Nat.add_mul]) (by simp;omega);refine⟨v.cells.toList++cs, ?_,.cons (hc.free hok.1.2) hsz h5⟩;rw[e,h3,<-List.append_assoc,h4];simp
theorem wH:∀ {ps:List (Nat×Operand)} {k:Nat},uD k ps=true->∀ j p,ps[j]? = some p->p.1=k+j
 |[],k,h,j,p,hj=>by simp at hj
 |q::ps,k,h,j,p,hj=>by
  simp only[uD,zaG,beq_iff_eq]at h;cases j with
  |zero => simp only[List.getElem?_cons_zero,zaA]at hj;subst hj;simpa using h.1
  |succ j => simp only[List.getElem?_cons_succ]at hj;have:=wH h.2 j p hj;omega
theorem a3B {t el:TypeId} {m n es:Nat} {zs:List AV} {i:TypeInfo} {parts:Array (Nat×Operand)} {xs':List AX} (hu:P.underlying t=some (.array m el)) (hz:zI P t=some (.arr n es zs)) (hx:pZ (parts.toList.map (·.2))=some xs') (hi:P.info? el=some i)
  (ho1:uD 0 parts.toList=true) (ho2:parts.size=n) (ho3:i.size=es) (ho4:zs.length=n):fR P (.build t parts) (.aU9 n es xs'):=by
 intro σ σ' v hs;simp only[aX]at hs;split at hs
 ·rename_i hok;simp only[zaA,zaJ]at hs;obtain⟨rfl,rfl⟩:=hs;refine⟨rfl,fun oper G w H U a ho hw hr hH => ?_⟩;obtain⟨inf,zv,h1,h2,h3,h4⟩:=sR hz;have h1':=bW.aA8 (σ:=σ) (G:=G) (w:=w) (a:=a) hx fun x x' hx hx'=>hr x x' (by simpa [Op.operands]using hx) hx'
  have h2':bW w G.F G.ρ (xs'.map σ.ev) ((parts.toList.map fun p=>(p.1,a.eval p.2)).map (·.2)):=by rw[List.map_map];rw[List.map_map]at h1';exact h1'
  cases (h4 w G.F G.ρ).1 with
  |arr h7 h8 =>
   have hsz:zv.cells.toList.length=n*es:=by rw[eH.size h7,ho4]
   obtain⟨cs,h5,h6⟩:=aAI (k:=0) (pre:=[]) (post:=zv.cells.toList) (parts:=parts.toList.map fun p=>(p.1,a.eval p.2)) (fun j p hj=>by
    rw[List.getElem?_map]at hj;cases hq:parts.toList[j]? with
    |none=>rw[hq]at hj;cases hj
    |some q => rw[hq]at hj;simp only[Option.map_some,zaA]at hj;subst hj;exact wH ho1 j q hq) h2' hok.1 (by simp) (by rw[hsz];simp[ho2])
   simp only[List.nil_append]at h5;refine⟨.agg cs.toArray, ?_,.agg (.arr h6 (by simp[hok.2])) rfl⟩;simp only[execOp,ho];refine iC ?_;have e2:(parts.map fun(x:Nat×Operand)=>(x.1,a.eval x.2)).toList=parts.toList.map fun p=>(p.1,a.eval p.2):=by simp
   have hz0:(zeroValue t).run P w=.ok zv w:=by simp[zeroValue,typeInfo,h1,h2]
   have hsz2:(sizeOf el).run P w=.ok es w:=by simp[sizeOf,typeInfo,hi,ho3]
   have e3:zv.cells=(zv.cells.toList).toArray:=by simp
   simp only[Instr.build,Sem.run_bind,hz0,Result.andThen,run_underlying hu,hsz2];rw[e2,e3,h5];simp
 ·cases hs
theorem a9A {t e:TypeId} {i:TypeInfo} {z:Value} {len:Nat} {parts:Array (Nat×Operand)} {xs':List AX} (ht:mS P t=some (e,i)) (hz:i.zero=some z) (hx:pZ (parts.toList.map (·.2))=some xs') (ho1:uD 0 parts.toList=true) (ho2:parts.size=len) (ho3:len*i.size<=16777216) :
  Sound P (.buildSlice t len parts) (.bsl i.size xs'):=by
 intro σ σ' v hs;obtain⟨hu,hi⟩:=mL ht;simp only[aX]at hs;split at hs
 ·rename_i hok;simp only[zaA,zaJ]at hs;obtain⟨rfl,rfl⟩:=hs;refine⟨.same,rfl,fun k hk=>by simp[Chg.key]at hk,fun fr oper G w H U a ho hw hf hr hH hU => ?_⟩;have h1:=bW.aA8 (σ:=σ) (G:=G) (w:=w) (a:=a) hx fun x x' hx hx'=>hr x x' (by simpa [Op.operands]using hx) hx'
  have h2:bW w G.F G.ρ (xs'.map σ.ev) ((parts.toList.map fun p=>(p.1,a.eval p.2)).map (·.2)):=by rw[List.map_map];rw[List.map_map]at h1;exact h1
  let init:List Value:=((Array.range (len*i.size)).map ((if len*i.size=0 then(#[]:Array Value)else z.cells)[· % (if len*i.size=0 then(#[]:Array Value)else z.cells).size]!)).toList
  have hinit:init.length=len*i.size:=by simp[init]
  obtain⟨cs,h3,h4⟩:=aAI (k:=0) (pre:=[]) (post:=init) (parts:=parts.toList.map fun p=>(p.1,a.eval p.2)) (fun j p hj=>by
   rw[List.getElem?_map]at hj;cases hq:parts.toList[j]? with
   |none=>rw[hq]at hj;cases hj
   |some q => rw[hq]at hj;simp only[Option.map_some,zaA]at hj;subst hj;exact wH ho1 j q hq) h2 hok (by simp) (by rw[hinit];simp[ho2])
  simp only[List.nil_append]at h3;have hrun:(execOp a.eval oper).run P w=.ok (.value (.slice (some ⟨w.heap.size,0,none⟩) len len)) (w.alloc (.cells cs.toArray e)):=by
   simp only[execOp,ho];refine iC ?_;have hbig:¬len*i.size>2^24:=by omega
   have e2:(parts.map fun(x:Nat×Operand)=>(x.1,a.eval x.2)).toList=parts.toList.map fun p=>(p.1,a.eval p.2):=by simp
   have hinit2:init.toArray=(Array.range (len*i.size)).map ((if len*i.size=0 then(#[]:Array Value)else z.cells)[· % (if len*i.size=0 then(#[]:Array Value)else z.cells).size]!):=by simp only[init,Array.toArray_toList]
   have hsz:(sizeOf e).run P w=.ok i.size w:=by simp[sizeOf,typeInfo,hi]
   have hzv:(zeroValue e).run P w=.ok z w:=by simp[zeroValue,typeInfo,hi,hz]
   by_cases h0:len*i.size=0
   ·simp only[if_pos h0]at hinit2;simp only[Instr.buildSlice,Sem.run_bind,run_underlying hu,hsz,Result.andThen,if_neg hbig,Sem.run_pure,if_pos h0];rw[e2,<-hinit2,h3];simp[newRow,newObj,Sem.run]
   ·simp only[if_neg h0]at hinit2;simp only[Instr.buildSlice,Sem.run_bind,run_underlying hu,hsz,Result.andThen,if_neg hbig,Sem.run_pure,if_neg h0,hzv];rw[e2,<-hinit2,h3];simp[newRow,newObj,Sem.run]
  have h5:=Nxt.frozen hw hf (iL w (.cells cs.toArray e));have hlen:(xs'.map σ.ev).length=len:=by
   have e1:∀ {ts:List AV} {vs:List Value},bW w G.F G.ρ ts vs->ts.length=vs.length:=by
    intro ts vs h
    induction ts generalizing vs with
    |nil=>cases h;rfl
    |cons t ts ih=>cases h with|cons _ h=>simp[ih h]
   rw[e1 h1];simp[ho2]
  refine⟨_,_,⟨G.ρ,fun b=>G.F b\/b=w.heap.size⟩,.inl hrun, ?_, ?_⟩
  ·have e3:(fun j=>U j/\(Chg.same.mU=true->j≠σ.n))=U:=by funext j;simp[Chg.mU]
   rw[e3];exact h5
  ·refine .one ?_ rfl;rw[<-hlen];have hx:=(iL w (.cells cs.toArray e)).ext G.F hw.fsz;refine .fro (b:=w.heap.size) (o:=0) (h4.mono hx (fun _ h=>.inl h)) (fun j v hj => ?_) (.inr rfl) (fun _=>rfl) (zaF _);rw[World.cell?,(iL w (.cells cs.toArray e)).new];simpa using hj
 ·cases hs
theorem uJ {w:World} {b:Nat} {cur cs:Array Value} {e:TypeId} (hb:w.heap[b]? = some (Obj.cells cur e (0,0))) (hs:cs.size=cur.size):aM9 w (w.setRow b cs) b cur cs e := ⟨hb,setRow_heap w b cur cs e _ hb,fun k hk=>setRow_other w b k cs hk,hs,by simp[World.setRow],rfl,rfl,rfl⟩
theorem aQG {w:World} {b:Nat} {cur:Array Value} {e:TypeId} (hb:w.heap[b]? = some (Obj.cells cur e (0,0))):aM9 w w b cur cur e := ⟨hb,hb,fun k hk=>rfl,rfl,rfl,rfl,rfl,rfl⟩
theorem aDF {w:World} {b o:Nat} {cs:List Value} {cur:Array Value} {e:TypeId} (h:Reads w b o cs) (hb:w.heap[b]? = some (Obj.cells cur e (0,0))):∀(j:Nat) (v:Value),cs[j]? = some v->cur[o+j]? = some v:=by intro j v hj;have:=h j v hj;simpa [World.cell?,hb]using this
theorem aF2 {cur:Array Value} {o:Nat} {pre mid new post:List Value} (h:∀(j:Nat) (v:Value),(pre++(mid++post))[j]? = some v->cur[o+j]? = some v) (hl:new.length=mid.length) (hb:o+pre.length+new.length<=cur.size) :
  ∀(j:Nat) (v:Value),(pre++(new++post))[j]? = some v->(cur.toList.take (o+pre.length)++new++cur.toList.drop (o+pre.length+new.length)).toArray[o+j]? = some v:=by
 intro j v hj;have hlen:(cur.toList.take (o+pre.length)).length=o+pre.length:=by simp;omega
 simp only[List.getElem?_toArray,List.append_assoc];by_cases h1:j<pre.length
 ·rw[List.getElem?_append_left (by omega),List.getElem?_take,if_pos (by omega)];rw[List.getElem?_append_left h1]at hj;have:=h j v (by rw[List.getElem?_append_left h1];exact hj);simpa using this
 ·rw[List.getElem?_append_right (by omega),hlen];rw[List.getElem?_append_right (by omega)]at hj;have e1:o+j-(o+pre.length)=j-pre.length:=by omega
  rw[e1];by_cases h2:j-pre.length<new.length
  ·rw[List.getElem?_append_left h2]at hj ⊢;exact hj
  ·rw[List.getElem?_append_right (by omega)]at hj ⊢;have:=h j v (by rw[List.getElem?_append_right (by omega),List.getElem?_append_right (by omega),<-hl];exact hj);rw[List.getElem?_drop];have e2:o+pre.length+new.length+(j-pre.length-new.length)=o+j:=by omega
   rw[e2];simpa using this
theorem aXD {t:TypeId} {n:Nat} {x v:Operand} {x' v':AX} (hn:szT P t=some n) (hn0:n≠0) (hx:trX x=some x') (hv:trX v=some v'):Sound P (.store t x v) (.store n x' v'):=by
 intro σ σ' r hs;simp only[aX]at hs;split at hs
 ·rename_i id path off hxe;split at hs
  ·rename_i t0 ht0;split at hs
   ·rename_i o u t' hat aA4;split at hs
    ·rename_i hc;obtain⟨rfl,hun,hvn,hst⟩:=hc;simp only[zaA,zaJ]at hs;obtain⟨rfl,rfl⟩:=hs;refine⟨.put id t',rfl,fun k hk=>by simp only[Chg.key,zaA]at hk;subst hk;simp[ht0],fun fr oper G w H U a ho hw hf hr hH hU => ?_⟩;have hx1:=hr x x' (by simp[Op.operands]) hx;rw[hxe]at hx1;obtain⟨b,ob,hρ,hxv⟩:=hx1.oL;have hvr:=(hr v v' (by simp[Op.operands]) hv).cells hst;obtain⟨cs,cur,e,h2,h3,h4,h5⟩:=hw.place hρ (hH _ _ ht0);obtain⟨pre,mid,post,rfl,hp,hm,hm2⟩:=h2.at path hat;have hlen:(a.eval v).cells.toList.length=mid.length:=by rw[hvr.size,hvn,hm.size,hun]
     have hmn:mid.length=n:=by rw[hm.size,hun]
     have h6:=hm2 _ _ _ aA4 hvr hlen;have hbd:=h4.bound h3 (by intro h0;simp only[List.append_eq_nil_iff]at h0;rw[h0.2.1]at hmn;exact hn0 hmn.symm);simp only[List.length_append]at hbd;have hfit:ob+pre.length+(a.eval v).cells.toList.length<=cur.size:=by omega
     have hst2:=run_storeCells_at P b (ob+pre.length) e (a.eval v).cells.toList 0 cur w h3 (by simpa using hfit) hvr.zB;simp only[Nat.add_zero]at hst2;obtain⟨i,hi,hisz⟩:=aFX hn;have hsz:(sizeOf t).run P w=.ok n w:=by simp[sizeOf,typeInfo,hi,hisz]
     have hcsz:(a.eval v).cells.size=n:=by rw[<-hmn,<-hlen];simp
     have hrun:(execOp a.eval oper).run P w=.ok .skip (w.setRow b (cur.toList.take (ob+pre.length)++(a.eval v).cells.toList++cur.toList.drop (ob+pre.length+(a.eval v).cells.toList.length)).toArray):=by simp only[execOp,ho,Instr.storeAt,hxv,Instr.sureAddr,storeVar,Sem.run_bind,Sem.run_pure,Result.andThen,hsz,hcsz,ne_eq,zaN,if_false,<-hp,hst2]
     have h7:=Nxt.rewrite hw hf (hH _ _ ht0) hρ (uJ h3 (cs:=(cur.toList.take (ob+pre.length)++(a.eval v).cells.toList++cur.toList.drop (ob+pre.length+(a.eval v).cells.toList.length)).toArray)
      (by simp only[List.size_toArray,List.length_append,List.length_take,List.length_drop,Array.length_toList]at hfit ⊢;omega)) (i:=id) (o':=ob) (.inl ⟨rfl,rfl⟩) h6 (aF2 (aDF h4 h3) hlen hfit) (U':=fun j=>U j/\((Chg.put id t').mU=true->j≠σ.n))
      (fun j hj=>⟨hj.1,fun hji=>by subst hji;have:=(hw.free j hj.1).1;rw[hH _ _ ht0]at this;cases this⟩)
     exact⟨_,_,_,.inr ⟨hrun,rfl⟩,h7,.tup .nil⟩
    ·cases hs
   ·cases hs
  ·cases hs
 ·cases hs
theorem aNF {cs:List Value}:∀(n j:Nat),j<n*cs.length->(List.replicate n cs).flatten[j]? = cs[j%cs.length]?
 |0,j,h=>by simp at h
 |n+1,j,h=>by
  rw[List.replicate_succ,List.flatten_cons];by_cases hj:j<cs.length
  ·rw[List.getElem?_append_left hj,Nat.mod_eq_of_lt hj]
  ·rw[List.getElem?_append_right (by omega),aNF n (j-cs.length) (by rw[Nat.add_mul,Nat.one_mul]at h;omega),Nat.mod_eq_sub_mod (a:=j) (b:=cs.length) (by omega)]
theorem eH.replicate {w:World} {F:Nat->Prop} {es:Nat} {z:AV} {cs:List Value} (h:bR w F gF z cs) (hs:cs.length=es):∀ n,eH w F es (List.replicate n z) (List.replicate n cs).flatten
 |0=>by simp;exact .nil
 |n+1=>by rw[List.replicate_succ,List.replicate_succ,List.flatten_cons];exact .cons h hs (eH.replicate h hs n)
theorem aF3 {z:Value} {n:Nat}:∀(j:Nat) (v:Value),(List.replicate n z.cells.toList).flatten[j]? = some v->(madeCells z.cells (n*z.cells.size))[j]? = some v:=by
 intro j v hj;have hlt:j<n*z.cells.size:=by have:=(List.getElem?_eq_some_iff.1 hj).1;simpa [List.length_flatten]using this
 rw[aNF n j (by simpa using hlt)]at hj;have hpos:0<z.cells.size:=by
  rcases Nat.eq_zero_or_pos z.cells.size with h0|h0
  ·rw[h0]at hlt;simp at hlt
  ·exact h0
 simp only[madeCells,Array.getElem?_map];rw[Array.getElem?_eq_getElem (by simpa using hlt)];simp only[Array.getElem_range,Option.map_some];have h3:j%z.cells.size<z.cells.size:=Nat.mod_lt _ hpos;simp only[Array.length_toList,Array.getElem?_toList]at hj;rw[Array.getElem?_eq_getElem h3]at hj;rw[getElem!_pos z.cells _ h3];exact hj
theorem a9B {t e:TypeId} {i:TypeInfo} {z:AV} {l c:Operand} {l':AX} (ht:mS P t=some (e,i)) (hz:zI P e=some z) (hl:trX l=some l') (hsl:aA7 l c=true) (hzs:z.size=i.size):Sound P (.makeSlice t l c) (.mks i.size i.bytes z l'):=by
 intro σ σ' v hs;simp only[aX]at hs;split at hs
 ·rename_i n hn;split at hs
  ·rename_i hc;obtain⟨hc1,hc3,hc2⟩:=hc;simp only[zaA,zaJ]at hs;obtain⟨rfl,rfl⟩:=hs;refine⟨.new (.arr n.toNat i.size (List.replicate n.toNat z)),rfl,fun k hk=>by simp[Chg.key]at hk,fun fr oper G w H U a ho hw hf hr hH hU => ?_⟩;obtain⟨hu,hi⟩:=mL ht;obtain⟨i2,zv,h1,h2,h3,h4⟩:=sR hz;rw[hi]at h1;simp only[zaA]at h1;subst h1;have hlv:=hr l l' (by simp[Op.operands]) hl;obtain⟨k,hle⟩:=p3 hn hlv;have hce:∃ kc,a.eval c=.int kc n:=by
    unfold aA7 at hsl;split at hsl
    ·simp only[zaK]at hsl;subst hsl;exact⟨_,hle⟩
    ·simp only[zaG,zaK]at hsl;obtain⟨⟨rfl,rfl⟩,rfl⟩:=hsl;exact⟨_,hle⟩
    ·cases hsl
   obtain⟨kc,hce⟩:=hce;have hb1:(i.bytes:Int)*n<=281474976710656:=by
    have e2:(i.bytes:Int)*n=((n.toNat*i.bytes:Nat):Int):=by rw[Int.natCast_mul,Int.mul_comm,Int.toNat_of_nonneg hc1]
    rw[e2];omega
   have hb2:n<=9223372036854775807:=by have:n.toNat*1<=n.toNat*i.bytes:=Nat.mul_le_mul_left _ (by omega);omega
   have hrun0:=run_make (P:=P) w t e i zv hu hi h2 k kc n n hc1 (Int.le_refl _) hb1 hb2;have hrun:(execOp a.eval oper).run P w=.ok (.value (.slice (some ⟨w.heap.size,0,none⟩) n.toNat n.toNat)) (w.alloc (.cells (madeCells zv.cells (n.toNat*i.size)) e)):=by simp only[execOp,ho,hle,hce];exact iC hrun0
   have hzc:zv.cells.toList.length=i.size:=by rw[((h4 w G.F gF).1).size,hzs]
   have hzc':zv.cells.size=i.size:=by simpa using hzc
   have h5:=Nxt.own hw hf (iL w (.cells (madeCells zv.cells (n.toNat*i.size)) e)) (hU rfl) (t:=.arr n.toNat i.size (List.replicate n.toNat z)) (cs:=(List.replicate n.toNat zv.cells.toList).flatten)
    (.arr (eH.replicate (h4 w G.F gF).1 hzc _) (by simp)) (by rw[<-hzc'];exact aF3) (U':=fun j=>U j/\((Chg.new (.arr n.toNat i.size (List.replicate n.toNat z))).mU=true->j≠σ.n)) (fun j hj=>⟨hj.1,hj.2 rfl⟩)
   refine⟨_,_,_,.inl hrun,h5,.one (.sl (b:=w.heap.size) (o:=0) (bU _ _ _) (zaF _) (iL w _).new ?_) rfl⟩;rw[size_madeCells];omega
  ·cases hs
 ·cases hs
theorem aXE {α:Type} (f:Nat->Option α) {k:Nat} {t:α} (h:f k=some t):upd (upd f k none) k (some t)=f:=by
 funext j;by_cases hj:j=k
 ·subst hj;rw[bU,h]
 ·rw[bZ _ _ hj,bZ _ _ hj]
theorem aNG {w:World} {dT sT ty e:TypeId} {i:TypeInfo} (hu:P.underlying dT=some (.slice e)) (hi:P.info? e=some i) {b o dLen dCap:Nat} {a:Option Addr} {sLen sCap:Nat} {cur:Array Value} {t:TypeId} {cs:List Value}
  (hg:w.heap[b]? = some (.cells cur t (0,0))) (hn:cs.length=Nat.min sLen dLen*i.size) (hsrc:Nat.min sLen dLen=0\/∃ b' o',a=some ⟨b',o',none⟩/\Reads w b' o' cs) (hfit:o+cs.length<=cur.size) (h1:∀ v∈cs,v.oneCell'=true) :
  (Builtin.copy_ #[dT,sT] ty #[.slice (some ⟨b,o,none⟩) dLen dCap,.slice a sLen sCap]).run P w =
   .ok (goInt (Nat.min sLen dLen:Nat)) (w.setRow b (cur.toList.take o++cs++cur.toList.drop (o+cs.length)).toArray):=by
 have hs:=run_storeCells_at P b o t cs 0 cur w hg (by simpa using hfit) h1;simp only[Nat.add_zero]at hs;have hf:(Builtin.firstCells i.size (Nat.min sLen dLen) (.slice a sLen sCap)).run P w=.ok cs.toArray w:=by
  rcases hsrc with h0|⟨b',o',rfl,hr⟩
  ·rw[h0]at hn ⊢;have:cs=[]:=List.eq_nil_of_length_eq_zero (by simpa using hn);subst this;cases a with
   |none=>simp[Builtin.firstCells]
   |some a=>simp[Builtin.firstCells,loadCells,loadCellsFrom]
  ·exact run_firstCells_some (P:=P) w i.size _ ⟨b',o',none⟩ sLen sCap cs hn (fun j v hj=>by rw[add_lit];exact hr j v hj)
 simp only[Builtin.copy_,Sem.run_bind,run_underlying hu,Result.andThen,Builtin.lenOf,Sem.run_pure,sizeOf,typeInfo,hi,hf,hs,List.getElem?_toArray];simp[hf,hs,hi,sizeOf,typeInfo,run_underlying hu,Builtin.lenOf]
theorem aVI {w:World} {dT sT ty e:TypeId} {i:TypeInfo} (hu:P.underlying dT=some (.slice e)) (hi:P.info? e=some i) {dLen dCap:Nat} {d a:Option Addr} {sLen sCap:Nat} (hn:Nat.min sLen dLen=0) :
  (Builtin.copy_ #[dT,sT] ty #[.slice d dLen dCap,.slice a sLen sCap]).run P w=.ok (goInt (Nat.min sLen dLen:Nat)) w:=by
 rw[hn];cases a<;>cases d<;>simp[Builtin.copy_,run_underlying hu,Builtin.lenOf,sizeOf,typeInfo,hi,hn,Builtin.firstCells,loadCells,loadCellsFrom,storeCells]
theorem a3C {dT sT e e':TypeId} {i i':TypeInfo} {c:Call} {x y:Operand} {x' y':AX} (hc:c.callee=.builtin .copy) (ha:c.args = #[x,y]) (hat:c.argTypes = #[dT,sT]) (ht:mS P dT=some (e,i)) (ht':mS P sT=some (e',i')) (hsz:i'.size=i.size)
  (hx:trX x=some x') (hy:trX y=some y'):Sound P (.call c) (.copy i.size x' y'):=by
 intro σ σ' v hs;simp only[aX]at hs;obtain⟨hu,hi⟩:=mL ht;split at hs
 ·rename_i id off k len es' xs hxe hrow;split at hs
  ·rename_i n es'' ts ht0;split at hs
   ·rename_i hcnd;obtain⟨rfl,rfl,rfl,rfl,rfl⟩:=hcnd;simp only[zaA,zaJ]at hs;obtain⟨rfl,rfl⟩:=hs;refine⟨.put id (.arr n i.size (xs.take ts.length++ts.drop xs.length)),rfl,fun k hk=>by simp only[Chg.key,zaA]at hk;subst hk;simp[ht0],fun fr oper G w H U a ho hw hf hr hH hU => ?_⟩;have hx1:=hr x x' (by simp[Op.operands,Call.operands,hc,ha]) hx;have hy1:=hr y y' (by simp[Op.operands,Call.operands,hc,ha]) hy;rw[hxe]at hx1;obtain⟨ad,cap,hxv,hcap,h3⟩:=hx1.qB;obtain⟨ad2,cap2,hyv,hcap2,h6⟩:=uI hw hH hrow hy1;have hgo:∀ u w',(Builtin.copy_ #[dT,sT] oper.type #[a.eval x,a.eval y]).run P w=.ok u w'->(execOp a.eval oper).run P w=.ok (.value u) w':=fun u w' h=>by
     simp[execOp,ho,resolve,hc,ha,hat,invoke,builtin,h]
    have hU':(fun j=>U j/\((Chg.put id (.arr n i.size (xs.take ts.length++ts.drop xs.length))).mU=true->j≠σ.n))=U:=by funext j;simp[Chg.mU]
    by_cases h0:Nat.min xs.length ts.length=0
    ·have hrun:=aVI (P:=P) (w:=w) (dT:=dT) (sT:=sT) (ty:=oper.type) hu hi (dLen:=ts.length) (dCap:=cap) (sLen:=xs.length) (sCap:=cap2) (d:=ad) (a:=ad2) h0;have hsame:xs.take ts.length++ts.drop xs.length=ts:=by
      rcases Nat.min_eq_zero_iff.1 h0 with h|h
      ·rw[List.eq_nil_of_length_eq_zero h];simp
      ·rw[List.eq_nil_of_length_eq_zero h];simp
     have h7:=Nxt.same hw hf (iY.refl w);refine⟨_,_,G,.inl (hgo _ _ (by rw[hxv,hyv];exact hrun)), ?_,.one (.sc rfl) rfl⟩;rw[hU',hsame];simp only[Chg.H];rw[aXE H (hH _ _ ht0)];exact h7
    ·have hts:ts.length≠0:=fun h=>h0 (Nat.min_eq_zero_iff.2 (.inr h))
     have hxs:xs.length≠0:=fun h=>h0 (Nat.min_eq_zero_iff.2 (.inl h))
     rcases h3 with⟨h3,_⟩|⟨b,o,cur,e2,h3,hρ,hheap,hfit⟩
     ·exact absurd h3 hts
     rcases h6 with h6|⟨b2,o2,cs2,h6,hrel2,hrd2⟩
     ·subst h6;exact absurd rfl hxs
     obtain⟨cs,cur1,e1,hrel,hheap1,hrd,hnF⟩:=hw.place hρ (hH _ _ ht0);rw[hheap]at hheap1;simp only[zaA,Obj.cells.injEq,and_true]at hheap1;obtain⟨rfl,rfl⟩:=hheap1;cases hrel with
     |arr hrel hn =>
      have hm1:Nat.min xs.length ts.length<=xs.length:=Nat.min_le_left _ _;have hm2:Nat.min xs.length ts.length<=ts.length:=Nat.min_le_right _ _;generalize hm:Nat.min xs.length ts.length=m at *;have hl2:=hrel2.size;have hl1:=hrel.size;have hmul1:m*i.size<=xs.length*i.size:=Nat.mul_le_mul_right _ hm1;have hmul2:m*i.size<=ts.length*i.size:=Nat.mul_le_mul_right _ hm2;have hmul3:ts.length*i.size<=cap*i.size:=Nat.mul_le_mul_right _ hcap;have hnew:=hrel2.take m;have hlen:(cs2.take (m*i.size)).length=m*i.size:=by simp;omega
      have hrun:=aNG (P:=P) (w:=w) (dT:=dT) (sT:=sT) (ty:=oper.type) hu hi (b:=b) (o:=o) (dLen:=ts.length) (dCap:=cap) (a:=ad2) (sLen:=xs.length) (sCap:=cap2) hheap (cs:=cs2.take (m*i.size)) (by rw[hm];exact hlen)
       (.inr ⟨b2,o2,h6,hrd2.take _⟩) (by omega) hnew.zB
      have hR:=uJ hheap (cs:=(cur.toList.take o++cs2.take (m*i.size)++cur.toList.drop (o+(cs2.take (m*i.size)).length)).toArray) (by simp only[List.size_toArray,List.length_append,List.length_take,List.length_drop,Array.length_toList]at hlen ⊢;omega);have e3:cs=[]++(cs.take (m*i.size)++cs.drop (m*i.size)):=by simp
      have hcell:=aF2 (cur:=cur) (o:=o) (pre:=[]) (mid:=cs.take (m*i.size)) (new:=cs2.take (m*i.size)) (post:=cs.drop (m*i.size)) (by rw[<-e3];exact aDF hrd hheap) (by rw[hlen];simp;omega) (by simp only[List.length_nil];omega);have e4:xs.take ts.length++ts.drop xs.length=xs.take m++ts.drop m:=by
       rcases Nat.le_total xs.length ts.length with h|h
       ·have:m=xs.length:=by rw[<-hm];exact Nat.min_eq_left h
        rw[this,List.take_of_length_le h,List.take_of_length_le (zaF _)]
       ·have:m=ts.length:=by rw[<-hm];exact Nat.min_eq_right h
        rw[this,List.drop_of_length_le h,List.drop_of_length_le (zaF _)]
      have hC:bR w G.F G.ρ (.arr n i.size (xs.take ts.length++ts.drop xs.length)) ([]++(cs2.take (m*i.size)++cs.drop (m*i.size))):=by rw[e4];refine .arr (hnew.append (hrel.drop m)) ?_;simp;omega
      have h7:=Nxt.rewrite hw hf (hH _ _ ht0) hρ hR (i:=id) (o':=o) (.inl ⟨rfl,rfl⟩) hC (by simpa using hcell) (U':=fun j=>U j/\((Chg.put id (.arr n i.size (xs.take ts.length++ts.drop xs.length))).mU=true->j≠σ.n))
       (fun j hj=>⟨hj.1,fun hji=>by subst hji;have:=(hw.free j hj.1).1;rw[hH _ _ ht0]at this;cases this⟩)
      refine⟨_,_,_,.inl (hgo _ _ (by rw[hxv,hyv,h3];exact hrun)),h7, ?_⟩;rw[hm];exact .one (.sc rfl) rfl
   ·cases hs
  ·cases hs
 ·cases hs
theorem aBB {w:World} {t ty e:TypeId} {i:TypeInfo} (hu:P.underlying t=some (.slice e)) (hi:P.info? e=some i) {s a:Option Addr} {n cap c:Nat} (hn:n<=cap) :
  (Builtin.append_ #[t,t] ty #[.slice s n cap,.slice a 0 c]).run P w=.ok (.slice s n cap) w:=by
 cases a<;>cases s<;>simp[Builtin.append_,run_underlying hu,sizeOf,typeInfo,hi,Builtin.lenOf,hn,Builtin.firstCells,loadCells,loadCellsFrom,storeCells]
theorem aNH {w:World} {t ty e:TypeId} {i:TypeInfo} (hu:P.underlying t=some (.slice e)) (hi:P.info? e=some i) {b o sLen sCap:Nat} {cur:Array Value} {e2:TypeId} (hg:w.heap[b]? = some (.cells cur e2 (0,0)))
  {b2 o2 m c:Nat} {news:List Value} (hl:news.length=m*i.size) (hr:Reads w b2 o2 news) (h1:∀ u∈news,u.oneCell'=true) (hroom:sLen+m<=sCap) (hfit:o+sLen*i.size+news.length<=cur.size) :
  (Builtin.append_ #[t,t] ty #[.slice (some ⟨b,o,none⟩) sLen sCap,.slice (some ⟨b2,o2,none⟩) m c]).run P w =
   .ok (.slice (some ⟨b,o,none⟩) (sLen+m) sCap) (w.setRow b (cur.toList.take (o+sLen*i.size)++news++cur.toList.drop (o+sLen*i.size+news.length)).toArray):=by
 have hf:=run_firstCells_some (P:=P) w i.size m ⟨b2,o2,none⟩ m c news hl (fun j v hj=>by rw[add_lit];exact hr j v hj);have hst:=run_storeCells_at P b (o+sLen*i.size) e2 news 0 cur w hg (by simpa using hfit) h1;simp only[Nat.add_zero]at hst;simp[Builtin.append_,run_underlying hu,sizeOf,typeInfo,hi,Builtin.lenOf,hroom,hf,add_lit,hst]
theorem rI {w:World} {t ty e:TypeId} {i:TypeInfo} {z:Value} (hu:P.underlying t=some (.slice e)) (hi:P.info? e=some i) (hz:i.zero=some z) (hzs:z.cells.size=i.size) {ad:Option Addr} {sLen sCap:Nat} {olds:List Value} (hlo:olds.length=sLen*i.size)
  (hold:(sLen=0/\sCap=0)\/∃ b o,ad=some ⟨b,o,none⟩/\Reads w b o olds) {b2 o2 m c:Nat} {news:List Value} (hl:news.length=m*i.size) (hr:Reads w b2 o2 news) (hm:m≠0) (hg:sCap<sLen+m) (hb0:0<i.bytes) (hby1:(sLen+m)*i.bytes<=140737488355328) :
  ∃ cap' cur',(Builtin.append_ #[t,t] ty #[.slice ad sLen sCap,.slice (some ⟨b2,o2,none⟩) m c]).run P w=.ok (.slice (some ⟨w.heap.size,0,none⟩) (sLen+m) cap') (w.drew.alloc (.cells cur' e)) /\
   sLen+m<=cap'/\cur'.size=cap'*i.size/\∀(j:Nat) (v:Value),(olds++news)[j]? = some v->cur'[j]? = some v:=by
 have hby2:(sLen+m)*1<=(sLen+m)*i.bytes:=Nat.mul_le_mul_left _ hb0;have hread:∀ j v,news[j]? = some v->w.cell? ((⟨b2,o2,none⟩:Addr).add j)=some v:=fun j v hj=>by rw[add_lit];exact hr j v hj
 have hge:=grownCap_ge w (sLen+m) sCap e;have hsz:(olds.toArray++news.toArray++Builtin.zeroCells z.cells (grownCap w (sLen+m) sCap e-(sLen+m))).size=grownCap w (sLen+m) sCap e*i.size:=by simp only[Array.size_append,List.size_toArray,size_zeroCells,hzs,hlo,hl,<-Nat.add_mul];congr 1;omega
 have hcells:∀(j:Nat) (v:Value),(olds++news)[j]? = some v->(olds.toArray++news.toArray++Builtin.zeroCells z.cells (grownCap w (sLen+m) sCap e-(sLen+m)))[j]? = some v:=by intro j v hj;have hlt:=(List.getElem?_eq_some_iff.1 hj).1;have h1:(olds.toArray++news.toArray++Builtin.zeroCells z.cells (grownCap w (sLen+m) sCap e-(sLen+m)))[j]? = (olds.toArray++news.toArray)[j]?:=Array.getElem?_append_left (by simpa using hlt);rw[h1];simpa using hj
 have hgrow:∀ b o,ad=some ⟨b,o,none⟩->(∀ j v,olds[j]? = some v->w.cell? ((⟨b,o,none⟩:Addr).add j)=some v)->∃ cap' cur',(Builtin.append_ #[t,t] ty #[.slice ad sLen sCap,.slice (some ⟨b2,o2,none⟩) m c]).run P w=.ok (.slice (some ⟨w.heap.size,0,none⟩) (sLen+m) cap') (w.drew.alloc (.cells cur' e)) /\
   sLen+m<=cap'/\cur'.size=cap'*i.size/\∀(j:Nat) (v:Value),(olds++news)[j]? = some v->cur'[j]? = some v:=fun b o had hro=>by
  subst had;have hrun:=run_append_grow (P:=P) w t ty e i z hu hi hz ⟨b,o,none⟩ sLen sCap olds hlo hro ⟨b2,o2,none⟩ m c news hl hread hg (by omega) (growslice_fits (by omega) (by omega));exact⟨_,_,hrun,hge,hsz,hcells⟩
 rcases hold with⟨rfl,rfl⟩|⟨b,o,had,hro⟩
 ·have h0:olds=[]:=List.eq_nil_of_length_eq_zero (by simpa using hlo);subst h0;cases ad with
  |none =>
   have hb0':m*i.bytes<=140737488355328:=by simpa using hby1
   have hrun:=run_append_nil (P:=P) w t ty e i z hu hi hz ⟨b2,o2,none⟩ m c news hl hread (by omega) (by omega) (by omega);simp only[Nat.zero_add,List.nil_append]at hge hsz hcells ⊢;refine⟨_,_,hrun,hge, ?_, ?_⟩
   ·simpa using hsz
   ·simpa using hcells
  |some ad => obtain⟨b,o,f⟩:=ad;have hrun:=run_append_grow (P:=P) w t ty e i z hu hi hz ⟨b,o,f⟩ 0 0 [] hlo (by simp) ⟨b2,o2,none⟩ m c news hl hread hg (by omega) (growslice_fits (by omega) (by omega));exact⟨_,_,hrun,hge,hsz,hcells⟩
 ·exact hgrow b o had (fun j v hj=>by rw[add_lit];exact hro j v hj)
theorem aXF {cur:Array Value} {o:Nat} {pre new:List Value} (h:∀(j:Nat) (v:Value),pre[j]? = some v->cur[o+j]? = some v) (hb:o+pre.length+new.length<=cur.size) :
  ∀(j:Nat) (v:Value),(pre++new)[j]? = some v->(cur.toList.take (o+pre.length)++new++cur.toList.drop (o+pre.length+new.length)).toArray[o+j]? = some v:=by
 intro j v hj;have hlen:(cur.toList.take (o+pre.length)).length=o+pre.length:=by simp;omega
 simp only[List.getElem?_toArray,List.append_assoc];by_cases h1:j<pre.length
 ·rw[List.getElem?_append_left (by omega),List.getElem?_take,if_pos (by omega)];rw[List.getElem?_append_left h1]at hj;simpa using h j v hj
 ·rw[List.getElem?_append_right (by omega),hlen];rw[List.getElem?_append_right (by omega)]at hj;have hlt:=(List.getElem?_eq_some_iff.1 hj).1;rw[List.getElem?_append_left (by omega)];have e1:o+j-(o+pre.length)=j-pre.length:=by omega
  rw[e1];exact hj
theorem aK0 {fr:Fr} {G:Gh} {w:World} {H:Nat->Option AV} {U U':Nat->Prop} (hw:Wf G w H U) (hf:wE fr G w H) {i n es cap:Nat} {e:TypeId} {cur:Array Value} {ts:List AV} {cs:List Value} {r:Result Next} (hU:U i)
  (hrun:r=.ok (.value (.slice (some ⟨w.heap.size,0,none⟩) n cap)) (w.drew.alloc (.cells cur e))) (hts:ts.length=n) (hrel:eH w G.F es ts cs) (hcap:n<=cap) (hsz:cur.size=cap*es) (hc:∀(j:Nat) (v:Value),cs[j]? = some v->cur[j]? = some v) (hU':∀ j,U' j->U j/\j≠i) :
  a82 fr G w r (.sl i [] 0 0 n es) (upd H i (some (.arr n es ts))) U':=by
 have h1:=Nxt.own hw hf (oS w (.cells cur e)) hU (t:=.arr n es ts) (cs:=cs) (.arr hrel hts) hc hU';refine⟨_,_,_,.inl hrun,h1,.one (.sl (b:=w.heap.size) (o:=0) (bU _ _ _) hcap (oS w _).new ?_) rfl⟩;rw[hsz];omega
theorem a9C {t e:TypeId} {i:TypeInfo} {z:Value} {c:Call} {s x:Operand} {s' x':AX} (hc:c.callee=.builtin .append) (ha:c.args = #[s,x]) (hat:c.argTypes = #[t,t]) (ht:mS P t=some (e,i)) (hz:i.zero=some z) (hzs:z.cells.size=i.size) (hs':trX s=some s') (hx:trX x=some x') :
  Sound P (.call c) (.app i.size i.bytes s' x'):=by
 intro σ σ' v hs;obtain⟨hu,hi⟩:=mL ht;simp only[aX]at hs;split at hs
 ·rename_i xs hrow;have hgo:∀(oper:Oper) (a:Act) (w:World) u w',oper.op=.call c->(Builtin.append_ #[t,t] oper.type #[a.eval s,a.eval x]).run P w=.ok u w'->(execOp a.eval oper).run P w=.ok (.value u) w':=fun oper a w u w' ho h=>by
   simp[execOp,ho,resolve,hc,ha,hat,invoke,builtin,h]
  unfold aVB at hs;split at hs
  ·rename_i es' ts hse;split at hs
   ·rename_i hcnd;obtain⟨hes,hne,hb0,hby⟩:=hcnd;simp only[zaA,zaJ]at hs;obtain⟨rfl,rfl⟩:=hs;refine⟨.new (.arr (ts.length+xs.length) i.size (ts++xs)),rfl,fun k hk=>by simp[Chg.key]at hk,fun fr oper G w H U a ho hw hf hr hH hU => ?_⟩;have hs1:=hr s s' (by simp[Op.operands,Call.operands,hc,ha]) hs';have hx1:=hr x x' (by simp[Op.operands,Call.operands,hc,ha]) hx;rw[hse]at hs1;obtain⟨ad,cap,hsv,hcap,hxt,h3⟩:=hs1.rH;have hcap':=hxt rfl;subst hcap';obtain⟨ad2,cap2,hxv,hcap2,h6⟩:=uI hw hH hrow hx1;have hU2:∀ j,(U j/\((Chg.new (.arr (ts.length+xs.length) i.size (ts++xs))).mU=true->j≠σ.n))->U j/\j≠σ.n:=fun j hj=>⟨hj.1,hj.2 rfl⟩
    by_cases hx0:xs=[]
    ·subst hx0;have ht0:ts=[]:=by simpa using hne
     subst ht0;have h1:=Nxt.none hw hf (iY.refl w) (hU rfl) i.size hU2;exact⟨_,_,G,.inl (hgo oper a w _ _ ho (by rw[hsv,hxv];exact aBB hu hi (zaF _))),h1,.one .sl0 rfl⟩
    ·rcases h6 with h6|⟨b2,o2,cs2,rfl,hrel2,hrd2⟩
     ·exact absurd h6 hx0
     have hxl:xs.length≠0:=fun h=>hx0 (List.eq_nil_of_length_eq_zero h)
     have hold:∃ olds,eH w G.F i.size ts olds/\((ts.length=0/\ts.length=0)\/∃ b o,ad=some ⟨b,o,none⟩/\Reads w b o olds):=by
      rcases h3 with h3|⟨b,o,cs,rfl,h3,h4,_⟩
      ·subst h3;exact⟨[],.nil,.inl ⟨rfl,rfl⟩⟩
      ·rcases hes with rfl|rfl
       ·exact⟨cs,h3,.inr ⟨b,o,rfl,h4⟩⟩
       ·exact⟨[],.nil,.inl ⟨rfl,rfl⟩⟩
     obtain⟨olds,hrel1,hold⟩:=hold;obtain⟨cap',cur',hrun,h7,h8,h9⟩:=rI (P:=P) (ty:=oper.type) (c:=cap2) hu hi hz hzs hrel1.size hold hrel2.size hrd2 hxl (by omega) hb0 hby;exact aK0 hw hf (hU rfl) (hgo oper a w _ _ ho (by rw[hsv,hxv];exact hrun)) (by simp) (hrel1.append hrel2) h7 h8 h9 hU2
   ·cases hs
  ·rename_i id off k len es' hse;split at hs
   ·rename_i n es'' ts ht0;split at hs
    ·rename_i hcnd;obtain⟨rfl,rfl,hoff,hkl,hb0,hby⟩:=hcnd;simp only[zaA,zaJ]at hs;obtain⟨rfl,rfl⟩:=hs;refine⟨.move id (.arr (len+xs.length) i.size ((ts.drop k).take len++xs)),rfl,fun k hk=>by simp only[Chg.key,zaA]at hk;subst hk;simp[ht0],fun fr oper G w H U a ho hw hf hr hH hU => ?_⟩;have hs1:=hr s s' (by simp[Op.operands,Call.operands,hc,ha]) hs';have hx1:=hr x x' (by simp[Op.operands,Call.operands,hc,ha]) hx;rw[hse]at hs1;obtain⟨ad,cap,hsv,hcap,h3⟩:=hs1.qB;obtain⟨ad2,cap2,hxv,hcap2,h6⟩:=uI hw hH hrow hx1;have hU2:∀ j,(U j/\((Chg.move id (.arr (len+xs.length) i.size ((ts.drop k).take len++xs))).mU=true->j≠σ.n))->U j/\j≠σ.n:=fun j hj=>⟨hj.1,hj.2 rfl⟩
     have hlen:((ts.drop k).take len++xs).length=len+xs.length:=by simp;omega
     rcases h3 with⟨rfl,rfl⟩|⟨b,o,cur,e2,rfl,hρ,hheap,hfit⟩
     ·by_cases hx0:xs=[]
      ·subst hx0;have h1:=Nxt.none (hw.kill id) (hf.kill id) (iY.refl w) (hU rfl) i.size hU2;refine⟨_,_,G,.inl (hgo oper a w _ _ ho (by rw[hsv,hxv];exact aBB hu hi (zaF _))), ?_,.one .sl0 rfl⟩;simpa [Chg.H]using h1
      ·rcases h6 with h6|⟨b2,o2,cs2,rfl,hrel2,hrd2⟩
       ·exact absurd h6 hx0
       have hxl:xs.length≠0:=fun h=>hx0 (List.eq_nil_of_length_eq_zero h)
       obtain⟨cap',cur',hrun,h7,h8,h9⟩:=rI (P:=P) (ty:=oper.type) (c:=cap2) (ad:=ad) (sLen:=0) (sCap:=0) (olds:=[]) hu hi hz hzs (by simp) (.inl ⟨rfl,rfl⟩) hrel2.size hrd2 hxl (by omega) hb0 hby;exact aK0 (hw.kill id) (hf.kill id) (hU rfl) (hgo oper a w _ _ ho (by rw[hsv,hxv];exact hrun)) hlen (by simpa using hrel2) h7 h8 (by simpa using h9) hU2
     ·obtain⟨cs,cur1,e1,hrel,hheap1,hrd,hnF⟩:=hw.place hρ (hH _ _ ht0);rw[hheap]at hheap1;simp only[zaA,Obj.cells.injEq,and_true]at hheap1;obtain⟨rfl,rfl⟩:=hheap1;cases hrel with
      |arr hrel hn =>
       have hrel1:=(hrel.drop k).take len;have hrd1:Reads w b (o+off) ((cs.drop (k*i.size)).take (len*i.size)):=by rw[hoff];exact(hrd.drop (k*i.size)).take (len*i.size)
       generalize holds:(cs.drop (k*i.size)).take (len*i.size)=olds at hrel1 hrd1;have hlo:olds.length=len*i.size:=by have:=hrel1.size;rw[this];congr 1;simp;omega
       have hoc:=aDF hrd1 hheap;by_cases hx0:xs=[]
       ·subst hx0;have h1:=Nxt.rewrite hw hf (hH _ _ ht0) hρ (aQG hheap) (i:=σ.n) (o':=o+off) (.inr (hU rfl)) (t':=.arr (len+0) i.size ((ts.drop k).take len++[])) (cs':=olds) (.arr (by simpa using hrel1) hlen) hoc hU2;refine⟨_,_,_,.inl (hgo oper a w _ _ ho (by rw[hsv,hxv];exact aBB hu hi hcap)),h1,.one (.sl (b:=b) (o:=o+off) (bU _ _ _) hcap hheap (by omega)) rfl⟩
       ·rcases h6 with h6|⟨b2,o2,cs2,rfl,hrel2,hrd2⟩
        ·exact absurd h6 hx0
        have hxl:xs.length≠0:=fun h=>hx0 (List.eq_nil_of_length_eq_zero h)
        by_cases hroom:len+xs.length<=cap
        ·have hmul:(len+xs.length)*i.size<=cap*i.size:=Nat.mul_le_mul_right _ hroom;rw[Nat.add_mul]at hmul;have hl2:=hrel2.size;have hrun:=aNH (P:=P) (ty:=oper.type) (c:=cap2) hu hi hheap (o:=o+off) hl2 hrd2 hrel2.zB hroom (by omega);have hR:=uJ hheap (cs:=(cur.toList.take (o+off+len*i.size)++cs2++cur.toList.drop (o+off+len*i.size+cs2.length)).toArray) (by
          simp only[List.size_toArray,List.length_append,List.length_take,List.length_drop,Array.length_toList];omega)
         have hcell:=aXF (cur:=cur) (o:=o+off) (pre:=olds) (new:=cs2) hoc (by omega);rw[hlo]at hcell;have h1:=Nxt.rewrite hw hf (hH _ _ ht0) hρ hR (i:=σ.n) (o':=o+off) (.inr (hU rfl)) (t':=.arr (len+xs.length) i.size ((ts.drop k).take len++xs)) (cs':=olds++cs2) (.arr (hrel1.append hrel2) hlen) hcell hU2;refine⟨_,_,_,.inl (hgo oper a w _ _ ho (by rw[hsv,hxv];exact hrun)),h1,.one (.sl (b:=b) (o:=o+off) (bU _ _ _) hroom hR.new ?_) rfl⟩;rw[hR.size];omega
        ·obtain⟨cap',cur',hrun,h7,h8,h9⟩:=rI (P:=P) (ty:=oper.type) (c:=cap2) (sLen:=len) (sCap:=cap) hu hi hz hzs hlo (.inr ⟨b,o+off,rfl,hrd1⟩) hrel2.size hrd2 hxl (by omega) hb0 hby;exact aK0 (hw.kill id) (hf.kill id) (hU rfl) (hgo oper a w _ _ ho (by rw[hsv,hxv];exact hrun)) hlen (hrel1.append hrel2) h7 h8 h9 hU2
    ·cases hs
   ·cases hs
  ·cases hs
 ·cases hs
end
end Go.Ra
namespace Go.Ra
set_option linter.unusedVariables false
set_option linter.unusedSimpArgs false
section
variable {P:Program}
theorem hO {α β:Type} {x:Option α} {f:α->β} {b:β} (h:x.map f=some b):∃ a,x=some a/\f a=b:=by
 cases x with
 |none=>cases h
 |some a=>exact⟨a,rfl,by simpa using h⟩
theorem aNI {l:List Operand} {a:AX} (h:pZ l=some [a]):∃ x,l=[x]/\trX x=some a:=by
 cases l with
 |nil=>simp[pZ]at h
 |cons x r =>
  simp only[pZ]at h;split at h
  ·rename_i a' b' h1 h2;simp only[zaA,List.cons.injEq]at h;obtain⟨rfl,rfl⟩:=h;cases r with
   |nil=>exact⟨x,rfl,h1⟩
   |cons y r => simp only[pZ]at h2;split at h2<;>simp at h2
  ·cases h
theorem aF4 {l:List Operand} {a b:AX} (h:pZ l=some [a,b]):∃ x y,l=[x,y]/\trX x=some a/\trX y=some b:=by
 cases l with
 |nil=>simp[pZ]at h
 |cons x r =>
  simp only[pZ]at h;split at h
  ·rename_i a' b' h1 h2;simp only[zaA,List.cons.injEq]at h;obtain⟨rfl,rfl⟩:=h;obtain⟨y,rfl,h3⟩:=aNI h2;exact⟨x,y,rfl,h1,h3⟩
  ·cases h
theorem mV {α:Type} {a:Array α} {l:List α} (h:a.toList=l):a=l.toArray:=by rw[<-h]
theorem Sound.none {o:Op} {ao:AOp} (h:∀ σ,aX ao σ=Option.none):Sound P o ao:=by intro σ σ' v hs;rw[h]at hs;cases hs
theorem aXG {op:BinOp} {t yt:TypeId} {x y:Operand} {x' y':AX} {ao:AOp} (hp:aAG P t=false) (h:aKX P op t x' y'=some ao) (hx:trX x=some x') (hy:trX y=some y'):Sound P (.binOp op t x y yt) ao:=by
 unfold aKX at h;cases op<;>simp only at h<;>first|(cases h;done)|skip
 all_goals
  split at h
  ·rename_i e hu;split at h
   ·rename_i hn;simp only[zaA]at h;subst h
    first
     |exact(aW4 (neg:=false) rfl hu hx hy hn).sound
     |exact(aW4 (neg:=true) rfl hu hx hy hn).sound
   ·cases h
  ·split at h
   ·cases h
   ·rename_i hg;split at h
    ·rename_i s hs;simp only[zaA]at h;subst h
     first
      |exact(aW7 (neg:=false) rfl hp (by simpa using hg) hs hx hy).sound
      |exact(aW7 (neg:=true) rfl hp (by simpa using hg) hs hx hy).sound
    ·cases h
theorem aQH {c:Call} {ao:AOp} (h:lP P (.call c)=some ao):Sound P (.call c) ao:=by
 simp only[lP]at h;split at h
 ·simp only[zaA]at h;subst h;exact Sound.none fun _=>rfl
 ·obtain⟨a,h1,rfl⟩:=hO h;exact Sound.none fun _=>rfl
 ·rename_i s x hc hxs;obtain⟨s0,x0,ha,hs,hx⟩:=aF4 hxs;split at h
  ·rename_i t u hat;split at h
   ·rename_i htu;subst htu;unfold aFW at h;split at h
    ·rename_i e i ht;split at h
     ·rename_i z hz;split at h
      ·rename_i hzs;simp only[zaA]at h;subst h;exact a9C hc (mV ha) (mV hat) ht hz hzs hs hx
      ·cases h
     ·cases h
    ·cases h
   ·cases h
  ·cases h
 ·rename_i x hc hxs;obtain⟨x0,ha,hx⟩:=aNI hxs;split at h
  ·rename_i t hat;split at h
   ·rename_i e hu;simp only[zaA]at h;subst h;exact(aKZ hc (mV ha) (mV hat) hu hx).sound
   ·rename_i hu;simp only[zaA]at h;subst h;exact(a29 hc (mV ha) (mV hat) hu hx).sound
   ·rename_i n e hu;simp only[zaA]at h;subst h;exact(aFY hc (mV ha) (mV hat) (.inl ⟨e,hu⟩) hx).sound
   ·rename_i u hu;split at h
    ·rename_i n e hu2;simp only[zaA]at h;subst h;exact(aFY hc (mV ha) (mV hat) (.inr ⟨u,e,hu,hu2⟩) hx).sound
    ·cases h
   ·cases h
  ·cases h
 ·rename_i x y hc hxs;obtain⟨x0,y0,ha,hx,hy⟩:=aF4 hxs;split at h
  ·rename_i t u hat;split at h
   ·rename_i e i e' i' ht ht';split at h
    ·rename_i hsz;simp only[zaA]at h;subst h;exact a3C hc (mV ha) (mV hat) ht ht' hsz hx hy
    ·cases h
   ·cases h
  ·cases h
 ·rename_i xs hc hxs;simp only[zaA]at h;subst h;exact(a87 hc hxs).sound
 ·rename_i xs hc hxs;simp only[zaA]at h;subst h;exact(a86 hc hxs).sound
 ·cases h
theorem aNJ {o:Op} {ao:AOp} (h:lP P o=some ao):Sound P o ao:=by
 cases o with
 |call c=>exact aQH h
 |move x => obtain⟨x',hx,rfl⟩:=hO h;exact(a24 hx).sound
 |assign x => obtain⟨x',hx,rfl⟩:=hO h;exact(aVF hx).sound
 |pick c a b =>
  simp only[lP]at h;split at h
  ·rename_i h1 h2 h3;simp only[zaA]at h;subst h;exact(a25 h1 h2 h3).sound
  ·cases h
 |alloc t => obtain⟨z,hz,rfl⟩:=hO h;exact aXC hz
 |box t x => obtain⟨x',hx,rfl⟩:=hO h;exact a89 hx
 |build t parts =>
  simp only[lP]at h;split at h
  ·rename_i fs n zs hu hz;split at h
   ·rename_i ps hp;split at h
    ·rename_i hf;simp only[zaA]at h;subst h;exact(aXB hu hz hp hf).sound
    ·cases h
   ·cases h
  ·rename_i m el n es zs hu hz;split at h
   ·rename_i xs i hx hi;split at h
    ·rename_i hc;simp only[zaA]at h;subst h;exact(a3B hu hz hx hi hc.1 hc.2.1 hc.2.2.1 hc.2.2.2).sound
    ·cases h
   ·cases h
  ·cases h
 |buildSlice t len parts =>
  simp only[lP]at h;split at h
  ·rename_i e i ht;split at h
   ·rename_i xs z hx hz;split at h
    ·rename_i hc;simp only[zaA]at h;subst h;exact a9A ht hz hx hc.1 hc.2.1 hc.2.2
    ·cases h
   ·cases h
  ·cases h
 |load t x =>
  simp only[lP]at h;split at h
  ·rename_i h1 h2 h3;simp only[zaA]at h;subst h;exact(a3A h1 h2 h3).sound
  ·cases h
 |store t a x =>
  simp only[lP]at h;split at h
  ·rename_i h1 h2 h3;split at h
   ·cases h
   ·rename_i hn;simp only[zaA]at h;subst h;exact aXD h1 hn h2 h3
  ·cases h
 |nilCheck x => obtain⟨x',hx,rfl⟩:=hO h;exact(aW2 hx).sound
 |binOp op t x y yt =>
  simp only[lP]at h;split at h
  ·rename_i hx hy;split at h
   ·rename_i hp;simp only[zaA]at h;subst h;exact(a84 hp hx hy).sound
   ·rename_i hp;exact aXG (by simpa using hp) h hx hy
  ·cases h
 |unOp op t x => obtain⟨x',hx,rfl⟩:=hO h;exact(bDH hx).sound
 |convert src dst x =>
  simp only[lP]at h;split at h
  ·rename_i h1 h2 h3;simp only[zaA]at h;subst h;exact(a26 h1 h2 h3).sound
  ·rename_i h1 h2 h3;split at h
   ·rename_i h4;simp only[zaA]at h;subst h;exact(a88 h1 h2 h4 h3).sound
   ·cases h
  ·cases h
 |slice t x lo hi mx =>
  cases mx with
  |some m=>simp[lP]at h
  |none =>
   simp only[lP]at h;split at h
   ·rename_i h1 h2 h3 h4;simp only[zaA]at h;subst h;exact(aW9 h1 h2 h3 h4).sound
   ·rename_i h1 h2 h3 h4 _;simp only[zaA]at h;subst h;exact(aVH h1 h2 h3 h4).sound
   ·cases h
 |fieldAddr s x i =>
  simp only[lP]at h;split at h
  ·rename_i h1 h2;split at h
   ·rename_i f h3;split at h
    ·rename_i n h4;split at h
     ·cases h
     ·rename_i h5;simp only[zaA]at h;subst h;exact(a28 h1 h3 h4 h5 h2).sound
    ·cases h
   ·cases h
  ·cases h
 |indexAddr t x i =>
  simp only[lP]at h;split at h
  ·rename_i h1 h2 h3;simp only[zaA]at h;subst h;exact(aIL h1 h2 h3).sound
  ·rename_i h1 h2 h3 _;simp only[zaA]at h;subst h;exact(aNC h1 h2 h3).sound
  ·cases h
 |extract x i => obtain⟨x',hx,rfl⟩:=hO h;exact(aQE hx).sound
 |makeFunc fn first caps =>
  cases fn with
  |func f =>
   simp only[lP]at h;split at h
   ·rename_i cs hc;split at h
    ·rename_i hf;simp only[zaA]at h;subst h;exact(a83 hf hc).sound
    ·cases h
   ·cases h
  |_=>simp[lP]at h
 |makeSlice t l c =>
  simp only[lP]at h;split at h
  ·rename_i h1 h2;split at h
   ·rename_i z h3;split at h
    ·rename_i h4;simp only[zaA]at h;subst h;exact a9B h1 h3 h2 h4.1 h4.2
    ·cases h
   ·cases h
  ·cases h
 |_=>simp[lP]at h
def AOp.aAJ:AOp->Bool
 |.call .. => true
 |.n7 .. => true
 |.lO .. => true
 |_=>false
def aXH (o:Op) (ao:AOp):Prop:=∃ c y,o=.call c/\c.callee=.value y/\((∃ f args,y=.func f/\pZ c.args.toList=some args/\(ao=.call f args\/ao=.lO f args))\/(∃ x args,trX y=some x/\pZ c.args.toList=some args/\ao=.n7 x args))
def TrO (P:Program) (o:Op) (ao:AOp):Prop:=Sound P o ao/\(ao.aAJ=true->aXH o ao)
theorem aJG {t:TypeId} {s x:AX} {ao:AOp} (h:aFW P t s x=some ao):∃ e i z,mS P t=some (e,i)/\i.zero=some z/\z.cells.size=i.size/\ao=.app i.size i.bytes s x:=by
 unfold aFW at h;split at h
 ·rename_i e i ht;split at h
  ·rename_i z hz;split at h
   ·rename_i hzs;simp only[zaA]at h;exact⟨e,i,z,ht,hz,hzs,h.symm⟩
   ·cases h
  ·cases h
 ·cases h
theorem a3D {op:BinOp} {t:TypeId} {x y:AX} {es b:Nat} {s u:AX} (h:aKX P op t x y=some (.app es b s u)):False:=by
 unfold aKX at h;cases op<;>simp only at h<;>first|(cases h;done)|skip
 all_goals
  repeat' split at h
  all_goals first|(cases h;done)
theorem aXI {o:Op} {es b:Nat} {s x:AX} (h:lP P o=some (.app es b s x)):∃ c s0 x0 t e i z,o=.call c/\c.callee=.builtin .append/\c.args = #[s0,x0]/\c.argTypes = #[t,t]/\mS P t=some (e,i)/\i.zero=some z/\z.cells.size=i.size /\
  trX s0=some s/\trX x0=some x/\es=i.size/\b=i.bytes:=by
 cases o with
 |call c =>
  simp only[lP]at h;split at h
  ·cases h
  ·obtain⟨a,h1,h2⟩:=hO h;cases h2
  ·rename_i s' x' hc hxs;obtain⟨s0,x0,ha,hs,hx⟩:=aF4 hxs;split at h
   ·rename_i t u hat;split at h
    ·rename_i htu;subst htu;obtain⟨e,i,z,h1,h2,h3,h4⟩:=aJG h;simp only[AOp.app.injEq]at h4;obtain⟨rfl,rfl,rfl,rfl⟩:=h4;exact⟨c,s0,x0,t,e,i,z,rfl,hc,mV ha,mV hat,h1,h2,h3,hs,hx,rfl,rfl⟩
    ·cases h
   ·cases h
  all_goals
   repeat' split at h
   all_goals first|(cases h;done)
 |_ =>
  simp only[lP]at h
  repeat' split at h
  all_goals first|(cases h;done)|contradiction|(obtain⟨a,h1,h2⟩:=hO h;cases h2;done)|exact(a3D h).elim
theorem a3E {s:Operand} (h:trX s=some (.c (.fro true 0 []))):s=.const (.slice none 0 0):=by
 unfold trX at h;split at h
 ·cases h
 ·rename_i v;split at h
  ·rename_i a hv;simp only[zaA,AX.c.injEq]at h;subst h;unfold trV at hv;split at hv<;>first|rfl|(cases hv;done)
  ·cases h
 ·cases h
 ·cases h
theorem aQI {o:Op} {es b:Nat} {x:AX} (h:lP P o=some (.app es b (.c (.fro true 0 [])) x)):Sound P o (.aQA es b x):=by
 obtain⟨c,s0,x0,t,e,i,z,rfl,hc,ha,hat,ht,hz,hzs,hs,hx,rfl,rfl⟩:=aXI h;have hs0:=a3E hs;obtain⟨hu,hi⟩:=mL ht;intro σ σ' v hst;simp only[aX]at hst;split at hst
 ·rename_i xs hrow;split at hst
  ·rename_i hcnd;obtain⟨hb0,hby⟩:=hcnd;simp only[zaA,zaJ]at hst;obtain⟨rfl,rfl⟩:=hst;refine⟨.same,rfl,fun k hk=>by simp[Chg.key]at hk,fun fr oper G w H U a ho hw hf hr hH hU => ?_⟩;have hgo:∀ u w',(Builtin.append_ #[t,t] oper.type #[.slice none 0 0,a.eval x0]).run P w=.ok u w'->(execOp a.eval oper).run P w=.ok (.value u) w':=fun u w' h=>by
    have hsv:a.eval s0=.slice none 0 0:=by rw[hs0];rfl
    simp[execOp,ho,resolve,hc,ha,hat,invoke,builtin,hsv,h]
   have hx1:=hr x0 x (by simp[Op.operands,Call.operands,hc,ha]) hx;obtain⟨ad,cap,hxv,hcap,h6⟩:=uI hw hH hrow hx1;have e3:(fun j=>U j/\(Chg.same.mU=true->j≠σ.n))=U:=by funext j;simp[Chg.mU]
   by_cases hx0:xs=[]
   ·subst hx0;refine⟨_,_,G,.inl (hgo _ _ (by rw[hxv];exact aBB hu hi (zaF _))), ?_,.one (.iV fun h=>by cases h) rfl⟩;rw[e3];exact Nxt.same hw hf (iY.refl w)
   ·rcases h6 with h6|⟨b2,o2,cs2,rfl,hrel2,hrd2⟩
    ·exact absurd h6 hx0
    have hxl:xs.length≠0:=fun h=>hx0 (List.eq_nil_of_length_eq_zero h)
    obtain⟨cap',cur',hrun,h7,h8,h9⟩:=rI (P:=P) (ty:=oper.type) (c:=cap) (ad:=none) (sLen:=0) (sCap:=0) (olds:=[]) hu hi hz hzs (by simp) (.inl ⟨rfl,rfl⟩) hrel2.size hrd2 hxl (by omega) hb0 (by simpa using hby);rw[Nat.zero_add]at hrun h7;have h5:=Nxt.frozen hw hf (oS w (.cells cur' e));refine⟨_,_,⟨G.ρ,fun b=>G.F b\/b=w.heap.size⟩,.inl (hgo _ _ (by rw[hxv];exact hrun)), ?_, ?_⟩
    ·rw[e3];exact h5
    ·have hx2:=(oS w (.cells cur' e)).ext G.F hw.fsz;refine .one (.fro (b:=w.heap.size) (o:=0) (hrel2.mono hx2 (fun _ h=>.inl h)) (fun j v hj => ?_) (.inr rfl) (fun h=>by cases h) h7) rfl;rw[World.cell?,(oS w (.cells cur' e)).new];simpa using h9 j v (by simpa using hj)
  ·cases hst
 ·cases hst
theorem a3F {op:BinOp} {t:TypeId} {x y:AX} {es b:Nat} {z:AV} {l:AX} (h:aKX P op t x y=some (.mks es b z l)):False:=by
 unfold aKX at h;cases op<;>simp only at h<;>first|(cases h;done)|skip
 all_goals
  repeat' split at h
  all_goals first|(cases h;done)
theorem aXJ {t:TypeId} {s x:AX} {es b:Nat} {z:AV} {l:AX} (h:aFW P t s x=some (.mks es b z l)):False:=by obtain⟨e,i,z,h1,h2,h3,h4⟩:=aJG h;cases h4
theorem aXK {o:Op} {es b:Nat} {z:AV} {l:AX} (h:lP P o=some (.mks es b z l)):∃ t l0 c e i,o=.makeSlice t l0 c/\mS P t=some (e,i)/\trX l0=some l/\zI P e=some z/\aA7 l0 c=true/\z.size=i.size/\es=i.size/\b=i.bytes:=by
 cases o with
 |makeSlice t l0 c =>
  simp only[lP]at h;split at h
  ·rename_i h1 h2;split at h
   ·rename_i z' h3;split at h
    ·rename_i h4;simp only[zaA,AOp.mks.injEq]at h;obtain⟨rfl,rfl,rfl,rfl⟩:=h;exact⟨t,l0,c,_,_,rfl,h1,h2,h3,h4.1,h4.2,rfl,rfl⟩
    ·cases h
   ·cases h
  ·cases h
 |_ =>
  simp only[lP]at h
  repeat' split at h
  all_goals first|(cases h;done)|contradiction|(obtain⟨a,h1,h2⟩:=hO h;cases h2;done)|exact(a3F h).elim|exact(aXJ h).elim
theorem aNK {o:Op} {es b:Nat} {z:AV} {l':AX} (h:lP P o=some (.mks es b z l')):Sound P o (.aQB es b z l'):=by
 obtain⟨t,l,c,e,i,rfl,ht,hl,hz,hsl,hzs,rfl,rfl⟩:=aXK h;intro σ σ' v hs;simp only[aX]at hs;split at hs
 ·rename_i n hn;split at hs
  ·rename_i hc;obtain⟨hc1,hc3,hc2⟩:=hc;simp only[zaA,zaJ]at hs;obtain⟨rfl,rfl⟩:=hs;refine⟨.same,rfl,fun k hk=>by simp[Chg.key]at hk,fun fr oper G w H U a ho hw hf hr hH hU => ?_⟩;obtain⟨hu,hi⟩:=mL ht;obtain⟨i2,zv,h1,h2,h3,h4⟩:=sR hz;rw[hi]at h1;simp only[zaA]at h1;subst h1;have hlv:=hr l l' (by simp[Op.operands]) hl;obtain⟨k,hle⟩:=p3 hn hlv;have hce:∃ kc,a.eval c=.int kc n:=by
    unfold aA7 at hsl;split at hsl
    ·simp only[zaK]at hsl;subst hsl;exact⟨_,hle⟩
    ·simp only[zaG,zaK]at hsl;obtain⟨⟨rfl,rfl⟩,rfl⟩:=hsl;exact⟨_,hle⟩
    ·cases hsl
   obtain⟨kc,hce⟩:=hce;have hb1:(i.bytes:Int)*n<=281474976710656:=by
    have e2:(i.bytes:Int)*n=((n.toNat*i.bytes:Nat):Int):=by rw[Int.natCast_mul,Int.mul_comm,Int.toNat_of_nonneg hc1]
    rw[e2];omega
   have hb2:n<=9223372036854775807:=by have:n.toNat*1<=n.toNat*i.bytes:=Nat.mul_le_mul_left _ (by omega);omega
   have hrun0:=run_make (P:=P) w t e i zv hu hi h2 k kc n n hc1 (Int.le_refl _) hb1 hb2;have hrun:(execOp a.eval oper).run P w=.ok (.value (.slice (some ⟨w.heap.size,0,none⟩) n.toNat n.toNat)) (w.alloc (.cells (madeCells zv.cells (n.toNat*i.size)) e)):=by simp only[execOp,ho,hle,hce];exact iC hrun0
   have e3:(fun j=>U j/\(Chg.same.mU=true->j≠σ.n))=U:=by funext j;simp[Chg.mU]
   have hzc:zv.cells.toList.length=i.size:=by rw[((h4 w G.F gF).1).size,hzs]
   have hzc':zv.cells.size=i.size:=by simpa using hzc
   have h5:=Nxt.frozen hw hf (iL w (.cells (madeCells zv.cells (n.toNat*i.size)) e));have hrel:=eH.replicate (h4 (w.alloc (.cells (madeCells zv.cells (n.toNat*i.size)) e)) (fun b=>G.F b\/b=w.heap.size) gF).1 hzc n.toNat;have hR:bR (w.alloc (.cells (madeCells zv.cells (n.toNat*i.size)) e)) (fun b=>G.F b\/b=w.heap.size) G.ρ (.fro false i.size (List.replicate n.toNat z)) [.slice (some ⟨w.heap.size,0,none⟩) (List.replicate n.toNat z).length n.toNat]:=by refine .fro (b:=w.heap.size) (o:=0) hrel (fun j v hj => ?_) (.inr rfl) (fun h=>by cases h) (by simp);rw[World.cell?,(iL w (.cells (madeCells zv.cells (n.toNat*i.size)) e)).new];have:=aF3 j v hj;rw[hzc']at this;simpa using this
   rw[List.length_replicate]at hR;refine⟨_,_,⟨G.ρ,fun b=>G.F b\/b=w.heap.size⟩,.inl hrun, ?_,.one hR rfl⟩;rw[e3];exact h5
  ·cases hs
 ·cases hs
theorem a3G {op:BinOp} {t:TypeId} {x y:AX} {ao:AOp} (h:aKX P op t x y=some ao):ao.aAJ=false:=by
 unfold aKX at h;cases op<;>simp only at h<;>first|(cases h;done)|skip
 all_goals
  repeat' split at h
  all_goals first|(cases h;done)|(simp only[zaA]at h;subst h;rfl)
theorem aXL {t:TypeId} {x y:AX} {ao:AOp} (h:aFW P t x y=some ao):ao.aAJ=false:=by
 unfold aFW at h
 repeat' split at h
 all_goals first|(cases h;done)|(simp only[zaA]at h;subst h;rfl)
theorem aNL {o:Op} {ao:AOp} (h:lP P o=some ao) (hc:ao.aAJ=true):∃ c y,o=.call c/\c.callee=.value y/\((∃ f args,y=.func f/\pZ c.args.toList=some args/\ao=.call f args)\/(∃ x args,trX y=some x/\pZ c.args.toList=some args/\ao=.n7 x args)):=by
 cases o with
 |call c =>
  simp only[lP]at h;split at h
  ·rename_i f xs hc2 hx;simp only[zaA]at h;exact⟨c,_,rfl,hc2,.inl ⟨f,xs,rfl,hx,h.symm⟩⟩
  ·rename_i y xs hx _ hc2;obtain⟨a,h1,h2⟩:=hO h;exact⟨c,_,rfl,by assumption,.inr ⟨a,_,h1,by assumption,h2.symm⟩⟩
  all_goals
   repeat' split at h
   all_goals first|(cases h;done)|(have:=aXL h;rw[this]at hc;cases hc;done)|(simp only[zaA]at h;subst h;cases hc)
 |_ =>
  simp only[lP]at h
  repeat' split at h
  all_goals first|(cases h;done)|contradiction|(obtain⟨a,h1,h2⟩:=hO h;subst h2;cases hc;done)|(have:=a3G h;rw[this]at hc;cases hc;done)|(simp only[zaA]at h;subst h;cases hc;done)
theorem aJH {o:Op} {ao:AOp} (h:lP P o=some ao) (hc:ao.aAJ=true):aXH o ao:=by obtain⟨c,y,e1,e2,e3⟩:=aNL h hc;refine⟨c,y,e1,e2,e3.imp (fun⟨f,args,h1,h2,h3⟩=>⟨f,args,h1,h2,.inl h3⟩) id⟩
theorem aXM {o:Op} {ao:AOp} (h:lP P o=some ao) (z:ZM):TrO P o (zmO z ao):=by
 have h1:TrO P o (if z.soft then aSB ao else ao):=by
  cases z.soft with
  |false=>exact⟨aNJ h,fun hc=>aJH h hc⟩
  |true =>
   simp only[if_true];unfold aSB;split
   ·exact⟨aQI h,fun hc=>by simp[AOp.aAJ]at hc⟩
   ·exact⟨aNK h,fun hc=>by simp[AOp.aAJ]at hc⟩
   ·exact⟨aNJ h,fun hc=>aJH h hc⟩
 unfold zmO;generalize (if z.soft then aSB ao else ao)=a1 at h1;unfold a7C;split
 ·rename_i f args;split
  ·obtain⟨c,y,e1,e2,e3⟩:=h1.2 rfl;refine⟨fun σ τ v hs=>by simp[aX]at hs,fun _=>⟨c,y,e1,e2,.inl ?_⟩⟩;rcases e3 with⟨f',args',rfl,h3,h4|h4⟩|⟨x,args',_,_,h4⟩
   ·simp only[AOp.call.injEq]at h4;obtain⟨rfl,rfl⟩:=h4;exact⟨f,args,rfl,h3,.inr rfl⟩
   ·cases h4
   ·cases h4
  ·exact h1
 ·exact h1
end
end Go.Ra
namespace Go.Ra
set_option linter.unusedVariables false
def wpE (C:Orc) (e:Option (AV×St)) (d:Option Nat) (r:List AG) (K:St->Prop):Prop :=
 match e with
 |some (v,σ)=>wpOps C r (σ.put d v) K
 |none=>False
def wpG (v:AV) (b:Bool) (p q:Prop):Prop :=
 match v with
 |.sc (.bool b')=>(b'=b->p)/\(b'≠b->q)
 |.tup []=>q
 |_=>False
def aXN (C:Orc) (v:AV) (b:Bool) (d:Option Nat) (o:AOp) (r:List AG) (σ:St) (K:St->Prop):Prop := wpG v b (wpOps C (⟨d,o,none⟩::r) σ K) (wpOps C r (σ.put d (.tup [])) K)
section
variable {C:Orc} {d:Option Nat} {r:List AG} {σ:St} {K:St->Prop}
theorem aXO (v:AV) (σ:St):wpE C (some (v,σ)) d r K=wpOps C r (σ.put d v) K:=rfl
theorem aVJ:wpOps C [] σ K=K σ:=rfl
theorem aXP (x:AX):wpOps C (⟨d,.mv x,none⟩::r) σ K=wpOps C r (σ.put d (σ.ev x)) K:=rfl
theorem aVK (a b:Nat) (x y:AX):wpOps C (⟨d,.app a b x y,none⟩::r) σ K=wpE C (aX (.app a b x y) σ) d r K:=rfl
theorem oU (o:AOp) (t:Nat) (b:Bool):wpOps C (⟨d,o,some (t,b)⟩::r) σ K=aXN C (get σ.env t) b d o r σ K:=rfl
theorem aXQ {b':Bool} {o:AOp} (h1:b'=true->wpOps C (⟨d,o,none⟩::r) σ K) (h2:b'=false->wpOps C r (σ.put d (.tup [])) K):aXN C (.sc (.bool b')) true d o r σ K := ⟨h1,fun h=>h2 (by simpa using h)⟩
theorem aVL {b':Bool} {o:AOp} (h1:b'=true->wpOps C r (σ.put d (.tup [])) K) (h2:b'=false->wpOps C (⟨d,o,none⟩::r) σ K):aXN C (.sc (.bool b')) false d o r σ K := ⟨h2,fun h=>h1 (by simpa using h)⟩
variable {e:List (Nat×AV)} {hl:List (Nat×Option AV)} {hb:Nat->Option AV} {n:Nat}
theorem aXR (i:Nat) (v:AV):St.put ⟨e,hl,hb,n⟩ (some i) v=⟨(i,v)::e,hl,hb,n⟩:=rfl
theorem bHS (i:Nat):St.ev ⟨e,hl,hb,n⟩ (.t i)=get e i:=rfl
theorem bHT (v:AV):St.ev ⟨e,hl,hb,n⟩ (.c v)=v:=rfl
theorem bDI:St.H ⟨e,hl,hb,n⟩=look hl hb:=rfl
theorem a9D (t:AV):St.new ⟨e,hl,hb,n⟩ t=⟨e,(n,some t)::hl,hb,n+1⟩:=rfl
theorem aXS (i:Nat) (v:AV):get ((i,v)::e) i=v:=by simp[get]
theorem aNM (i k:Nat) (v:AV):get ((k,v)::e) i=if i=k then v else get e i:=rfl
theorem aJI (i k:Nat) (v:Option AV):look ((k,v)::hl) hb i=if i=k then v else look hl hb i:=rfl
theorem aNN (i:Nat):look [] hb i=hb i:=rfl
end
structure KK (K P:St->Prop):Prop where
 out:∀ σ,P σ->K σ
def cnd (v:AV) (p q:Prop):Prop :=
 match v with
 |.sc (.bool b)=>(b=true->p)/\(b=false->q)
 |.eQ=>p/\q
 |_=>False
section
variable {k:IntKind} {a b:Int}
theorem wrap_i64 {x:Int} (h1 : -9223372036854775808<=x) (h2:x<=9223372036854775807):IntKind.i64.wrap x=x:=IntWalk.i64_in x ⟨h1,h2⟩
theorem wrap_u32 {x:Int} (h1:0<=x) (h2:x<=4294967295):IntKind.u32.wrap x=x:=IntWalk.u32_in x ⟨h1,h2⟩
end
section
end
end Go.Ra
namespace Go.Ra
set_option linter.unusedVariables false
set_option linter.unusedSimpArgs false
def Pass (σ:St) (g:Option (Nat×Bool)) (y:Bool):Prop :=
 match g with
 |none=>y=true
 |some (t,b) =>
  match get σ.env t with
  |.sc (.bool b')=>y=decide (b'=b)
  |.tup []=>y=false
  |_=>False
inductive Stp (C:Orc) (σ:St):AG->AV->St->Prop
 |op {d:Option Nat} {o:AOp} {g:Option (Nat×Bool)} {v:AV} {τ:St}:Pass σ g true->aX o σ=some (v,τ)->Stp C σ ⟨d,o,g⟩ v τ
 |call {d:Option Nat} {f:Nat} {args:List AX} {g:Option (Nat×Bool)} {v:AV} {τ:St}:Pass σ g true->C f (args.map σ.ev) σ v τ->Stp C σ ⟨d,.call f args,g⟩ v (σ.back τ)
 |n7 {d:Option Nat} {x:AX} {f:Nat} {caps:List AV} {args:List AX} {g:Option (Nat×Bool)} {v:AV} {τ:St}:Pass σ g true->σ.ev x=.clo f caps->C f (args.map σ.ev++caps) σ v τ->τ.hl=σ.hl/\τ.hb=σ.hb/\τ.n=σ.n ->
   Stp C σ ⟨d,.n7 x args,g⟩ v (σ.back τ)
 |lO {d:Option Nat} {f:Nat} {args:List AX} {g:Option (Nat×Bool)} {v:AV}:Pass σ g true->(∀ σ',C f (args.map σ.ev) σ' v σ')->Stp C σ ⟨d,.lO f args,g⟩ v σ
 |skip {d:Option Nat} {o:AOp} {g:Option (Nat×Bool)}:Pass σ g false->Stp C σ ⟨d,o,g⟩ (.tup []) σ
section
variable {C:Orc} {σ:St}
theorem aJJ {d:Option Nat} {o:AOp} {g:Option (Nat×Bool)} {r:List AG} {K:St->Prop} (hp:Pass σ g true) (h:wpOps C (⟨d,o,none⟩::r) σ K):∃ v τ,Stp C σ ⟨d,o,g⟩ v τ/\wpOps C r (τ.put d v) K:=by
 unfold wpOps at h;simp only at h;split at h
 ·obtain⟨v,τ,h1,h2⟩:=h;exact⟨v,_,.call hp h1,h2⟩
 ·split at h
  ·rename_i hx;obtain⟨v,τ,h1,h3,h2⟩:=h;exact⟨v,_,.n7 hp hx h1 h3,h2⟩
  ·cases h
 ·obtain⟨v,h1,h2⟩:=h;exact⟨v,_,.lO hp h1,h2⟩
 ·split at h
  ·rename_i hs;exact⟨_,_,.op hp hs,h⟩
  ·cases h
theorem aF5 {ag:AG} {r:List AG} {K:St->Prop} (h:wpOps C (ag::r) σ K):∃ v τ,Stp C σ ag v τ/\wpOps C r (τ.put ag.d v) K:=by
 obtain⟨d,o,g⟩:=ag;cases g with
 |none=>exact aJJ (by simp[Pass]) h
 |some g =>
  obtain⟨t,b⟩:=g;rw[oU]at h;unfold aXN wpG at h;split at h
  ·rename_i b' hb;by_cases hbb:b'=b
   ·exact aJJ (by simp[Pass,hb,hbb]) (h.1 hbb)
   ·exact⟨_,σ,.skip (by simp[Pass,hb,hbb]),h.2 hbb⟩
  ·rename_i hb;exact⟨_,σ,.skip (by simp[Pass,hb]),h⟩
  ·cases h
end
theorem yG:∀(hl:List (Nat×Option AV)) (hb:Nat->Option AV) (i:Nat) (t:Option AV),look (aA4 hl i t) hb=upd (look hl hb) i t
 |[],hb,i,t=>by funext j;simp only[aA4,look,upd]
 |(k,v)::hl,hb,i,t=>by
  have ih:=yG hl hb i t;funext j;simp only[aA4];split
  ·rename_i hik;subst hik;simp only[look,upd];split<;>rfl
  ·rename_i hik;simp only[look,upd,ih];by_cases hjk:j=k
   ·subst hjk;rw[if_pos rfl,if_neg (fun h=>hik h.symm),if_pos rfl]
   ·rw[if_neg hjk,if_neg hjk]
theorem Chg.aAK (c:Chg) (σ:St):(c.st σ).H=c.H σ.n σ.H:=by
 cases c with
 |same=>rfl
 |new t=>funext j;simp[Chg.st,Chg.H,St.new,St.H,look,upd]
 |put k t =>
  simp only[Chg.st,Chg.H,St.rB,St.H,yG];funext j;by_cases hj:j=k
  ·subst hj;rw[bU,bU]
  ·rw[bZ _ _ hj,bZ _ _ hj,bZ _ _ hj]
 |move k t => simp only[Chg.st,Chg.H,St.rB,St.H,St.new];funext j;simp only[look,upd,yG]
theorem Chg.a9E (c:Chg) (σ:St):(c.st σ).env=σ.env:=by cases c<;>rfl
theorem Chg.bHU (c:Chg) (σ:St):(c.st σ).n=if c.mU=true then σ.n+1 else σ.n:=by cases c<;>rfl
def Own (fr:Fr) (G:Gh) (w:World) (σ:St):Prop:=Wf G w σ.H (fun i=>σ.n<=i)/\wE fr G w σ.H
def jO (fr:Fr) (G:Gh) (w:World) (G':Gh) (w':World) (τ:St):Prop:=Nxt fr G w G' w' τ.H (fun i=>τ.n<=i)
theorem jO.own {fr:Fr} {G G':Gh} {w w':World} {τ:St} (h:jO fr G w G' w' τ):Own fr G' w' τ:=⟨h.wf,h.fr⟩
theorem jO.mono {fr:Fr} {G G':Gh} {w w':World} {τ:St} (h:jO fr G w G' w' τ) {t:AV} {v:Value} (hr:bS w G.F G.ρ t v):bS w' G'.F G'.ρ t v:=hr.mono h.ext h.leF h.leR
theorem Own.goto {fr:Fr} {G:Gh} {w:World} {σ:St} (h:Own fr G w σ):jO fr G w G w σ:=Nxt.same h.1 h.2 (iY.refl w)
def aJK (P : Program) (f : Nat) : Prop := ∃ fn, P.funcs[f]? = some fn ∧ (fn.name == "runtime.NumGoroutine") = false ∧ fn.body.isNone = false
def qD (P:Program) (C:Orc):Prop :=
 ∀ f args σ v τ,C f args σ v τ->aJK P f/\∀ fr G w vs,Own fr G w σ->bW w G.F G.ρ args vs ->
  Calls P f vs.toArray w fun e w'=>∃ u G',e=.returned u/\jO fr G w G' w' τ/\bS w' G'.F G'.ρ v u
section
variable {P:Program}
theorem a3H {w:World} {F:Nat->Prop} {ρ:Nat->Option Loc} {v:Value} {t:AV} (h:trV v=some t):bS w F ρ t v:=by
 unfold trV at h;split at h
 ·simp only[zaA]at h;subst h;exact .one (.sc rfl) rfl
 ·simp only[zaA]at h;subst h;exact .one (.sc rfl) rfl
 ·simp only[zaA]at h;subst h;exact .one (.sc rfl) rfl
 ·simp only[zaA]at h;subst h;exact .one (.iV (fun _=>rfl)) rfl
 ·simp only[zaA]at h;subst h;exact .one (.sc rfl) rfl
 ·cases h
theorem aSI {w:World} {G:Gh} {σ:St} {a:Act} {x:Operand} {x':AX} (h:trX x=some x') (ht:∀ t,x=.tmp t->bS w G.F G.ρ (get σ.env t) (a.tmps.getD t undef)):bS w G.F G.ρ (σ.ev x') (a.eval x):=by
 unfold trX at h;split at h
 ·simp only[zaA]at h;subst h;exact ht _ rfl
 ·split at h
  ·rename_i hv;simp only[zaA]at h;subst h;exact a3H hv
  ·cases h
 ·simp only[zaA]at h;subst h;exact .one (.clo .nil) rfl
 ·cases h
theorem aXT {w:World} {G:Gh} {σ:St} {a:Act} {o:Op} (h:∀ t,Operand.tmp t∈o.operands->bS w G.F G.ρ (get σ.env t) (a.tmps.getD t undef)):aSE σ G w a o := fun x x' hx hx'=>aSI hx' fun t ht=>h t (ht ▸ hx)
theorem aVM {ops:Array Oper} {o:Oper} {t:Nat} (h:Operand.tmp t∈o.op.operands):t∈o.looksAt ops:=by unfold Oper.looksAt;refine List.mem_append_left _ (List.mem_filterMap.2 ⟨.tmp t, ?_,rfl⟩);simpa using h
theorem oV {w:World} {G:Gh} {σ:St} {a:Act} {ops:Array Oper} {o:Oper} {g:Option (Nat×Bool)} {y:Bool} (hg:trG ops o.guard=some g) (hp:Pass σ g y)
  (hr:∀ t∈o.looksAt ops,bS w G.F G.ρ (get σ.env t) (a.tmps.getD t undef)):Region.wanted o (yielded ops a.tmps)=y:=by
 unfold trG at hg;unfold Region.wanted;split at hg
 ·rename_i h0;simp only[zaA]at hg;subst hg;rw[h0];simp only[Pass]at hp;rw[hp]
 ·rename_i j b h0;split at hg
  ·rename_i t ht;simp only[zaA]at hg;subst hg;rw[h0];have h1:=hr t (by
    unfold Oper.looksAt;refine List.mem_append_right _ ?_;rw[h0];simp only[ht,Option.toList_some,List.mem_singleton])
   simp only[Pass]at hp;simp only[yielded,ht,Option.bind_some];split at hp
   ·rename_i b' hb;rw[hb]at h1;obtain⟨h2,_⟩:=h1.mT;rw[hp];rw[Array.getD_eq_getD_getElem?]at h2;cases hq:a.tmps[t]? with
    |none=>rw[hq]at h2;cases h2
    |some q => rw[hq]at h2;simp only[Option.getD_some]at h2;subst h2;cases b'<;>cases b<;>rfl
   ·rename_i hb;rw[hb]at h1;obtain⟨vs,h2,h3⟩:=h1.aFK;cases h3;rw[hp];rw[Array.getD_eq_getD_getElem?]at h2;cases hq:a.tmps[t]? with
    |none=>rfl
    |some q => rw[hq]at h2;simp only[Option.getD_some]at h2;subst h2;rfl
   ·cases hp
  ·cases hg
theorem bW.append {w:World} {F:Nat->Prop} {ρ:Nat->Option Loc}:∀ {ts us:List AV} {vs xs:List Value},bW w F ρ ts vs->bW w F ρ us xs->bW w F ρ (ts++us) (vs++xs)
 |_,_,_,_,.nil,h=>h
 |_,_,_,_,.cons h1 h2,h=>.cons h1 (bW.append h2 h)
theorem bW.aSJ {w:World} {F:Nat->Prop} {ρ:Nat->Option Loc}:∀ {ts:List AV} {cs:List Value},kU w F ρ ts cs->bW w F ρ ts cs
 |_,_,.nil=>.nil
 |_,_,.cons h1 h2 h3=>.cons (.one h1 h2) (bW.aSJ h3)
theorem aF6 {o:Oper} {c:Call} {y:Operand} {a:Act} {w:World} {f:Nat} {cs:List Value} (ho:o.op=.call c) (hc:c.callee=.value y) (hy:a.eval y=.func (.func f) #[] cs.toArray) (hk:aJK P f) :
  (execOp a.eval o).run P w=.ok (.enter f (c.args.toList.map a.eval++cs).toArray) w:=by
 obtain⟨fn,h1,h2,h3⟩:=hk;have e:(c.args.toList.map a.eval++cs).toArray=c.args.map a.eval++cs.toArray:=by apply Array.ext';simp
 rw[e]
 have h2' : ¬ fn.name = "runtime.NumGoroutine" := by simpa using h2
 have h3':¬fn.body=none:=by intro h4;rw[h4]at h3;cases h3
 simp[execOp,ho,resolve,hc,hy,Deferred.ofValue,invoke,callFunc,h1,h2',h3']
theorem aVN {C:Orc} (hC:qD P C) {ops:Array Oper} {o:Oper} {ao:AOp} {g:Option (Nat×Bool)} (htr:TrO P o.op ao) (hg:trG ops o.guard=some g) {σ τ:St} {v:AV} (h:Stp C σ ⟨o.dst,ao,g⟩ v τ)
  {fr:Fr} {G:Gh} {w:World} {a:Act} (hw:Own fr G w σ) (hr:∀ t∈o.looksAt ops,bS w G.F G.ρ (get σ.env t) (a.tmps.getD t undef)) {K:Act->World->Prop} {Q:Exit->Act->World->Prop}
  (hK:∀ u w' G',jO fr G w G' w' τ->bS w' G'.F G'.ρ v u->K (a.put o.dst u) w') :
  if Region.wanted o (yielded ops a.tmps)=true then o.wp P a w K Q else K (a.put o.dst undef) w:=by
 have hor:aSE σ G w a o.op:=aXT fun t ht=>hr t (aVM ht)
 cases h with
 |op hp hs =>
  rw[if_pos (oV hg hp hr)];obtain⟨c,rfl,hk,h1⟩:=htr.1 σ τ v hs;obtain⟨u,w',G',hrun,hn,hrel⟩:=h1 fr o G w σ.H (fun i=>σ.n<=i) a rfl hw.1 hw.2 hor (fun k t h=>h) (fun _=>zaF _);have hgo:jO fr G w G' w' (c.st σ):=by
   unfold jO;rw[c.aAK];refine⟨⟨fun i hi=>hn.wf.free i ?_,hn.wf.fsz,hn.wf.blk,hn.wf.dis⟩,hn.fr,hn.ext,hn.leF,hn.leR⟩;rw[c.bHU]at hi;split at hi
   ·exact⟨by omega,fun _=>by omega⟩
   ·rename_i hne;exact⟨hi,fun h=>absurd h hne⟩
  unfold Oper.wp;rcases hrun with hrun|⟨hrun,rfl⟩
  ·rw[hrun];exact hK u w' G' hgo hrel
  ·rw[hrun];exact hK undef w' G' hgo hrel
 |call hp hc =>
  rw[if_pos (oV hg hp hr)];obtain⟨c,y,ho,hcal,hor2⟩:=(htr.2 rfl);rcases hor2 with⟨f',args',rfl,hargs,heq|heq⟩|⟨x',args',hy,hargs,heq⟩
  ·simp only[AOp.call.injEq]at heq;obtain⟨rfl,rfl⟩:=heq;have h1:=bW.aA8 (σ:=σ) (G:=G) (w:=w) (a:=a) hargs fun x x' hx hx'=>hor x x' (by rw[ho];simp[Op.operands,Call.operands,hcal];first|exact .inr (by simpa using hx)|exact .inl (by simpa using hx)|simpa using hx) hx'
   obtain⟨hkn,h2⟩:=hC _ _ _ _ _ hc;have h3:=h2 fr G w _ hw h1;unfold Oper.wp;rw[aF6 ho hcal (cs:=[]) rfl hkn,List.append_nil];exact h3.mono fun e w' ⟨u,G',he,hgo,hrel⟩=>by subst he;exact hK u w' G' hgo hrel
  ·cases heq
  ·cases heq
 |n7 hp hx hc _ =>
  rw[if_pos (oV hg hp hr)];obtain⟨c,y,ho,hcal,hor2⟩:=(htr.2 rfl);rcases hor2 with⟨f',args',rfl,hargs,heq|heq⟩|⟨x',args',hy,hargs,heq⟩
  ·cases heq
  ·cases heq
  ·simp only[AOp.n7.injEq]at heq;obtain⟨rfl,rfl⟩:=heq;have h1:=bW.aA8 (σ:=σ) (G:=G) (w:=w) (a:=a) hargs fun x x' hx hx'=>hor x x' (by rw[ho];simp[Op.operands,Call.operands,hcal];first|exact .inr (by simpa using hx)|exact .inl (by simpa using hx)|simpa using hx) hx'
   have hyr:=hor y _ (by rw[ho];simp[Op.operands,Call.operands,hcal]) hy;rw[hx]at hyr;obtain⟨cs,hyv,hcs⟩:=hyr.aSD;obtain⟨hkn,h2⟩:=hC _ _ _ _ _ hc;have h3:=h2 fr G w _ hw (h1.append (.aSJ hcs));unfold Oper.wp;rw[aF6 ho hcal hyv hkn];exact h3.mono fun e w' ⟨u,G',he,hgo,hrel⟩=>by subst he;exact hK u w' G' hgo hrel
 |lO hp hc =>
  rw[if_pos (oV hg hp hr)];obtain⟨c,y,ho,hcal,hor2⟩:=(htr.2 rfl);rcases hor2 with⟨f',args',rfl,hargs,heq|heq⟩|⟨x',args',hy,hargs,heq⟩
  ·cases heq
  ·simp only[AOp.lO.injEq]at heq;obtain⟨rfl,rfl⟩:=heq;have h1:=bW.aA8 (σ:=σ) (G:=G) (w:=w) (a:=a) hargs fun x x' hx hx'=>hor x x' (by rw[ho];simp[Op.operands,Call.operands,hcal];first|exact .inr (by simpa using hx)|exact .inl (by simpa using hx)|simpa using hx) hx'
   obtain⟨hkn,h2⟩:=hC _ _ _ _ _ (hc σ);have h3:=h2 fr G w _ hw h1;unfold Oper.wp;rw[aF6 ho hcal (cs:=[]) rfl hkn,List.append_nil];exact h3.mono fun e w' ⟨u,G',he,hgo,hrel⟩=>by subst he;exact hK u w' G' hgo hrel
  ·cases heq
 |skip hp => rw[if_neg (by rw[oV hg hp hr];simp)];exact hK undef w G hw.goto (.tup .nil)
end
theorem uK {C:Orc} {K K':St->Prop} (hK:∀ σ,K σ->K' σ):∀(l:List AG) (σ:St),wpOps C l σ K->wpOps C l σ K'
 |[],σ,h=>hK σ h
 |⟨d,o,g⟩::r,σ,h=>by
  have ih:∀ σ,wpOps C r σ K->wpOps C r σ K':=uK hK r;have run:∀ o,wpOps C (⟨d,o,none⟩::r) σ K->wpOps C (⟨d,o,none⟩::r) σ K':=fun o h=>by
   unfold wpOps at h ⊢;simp only at h ⊢;split at h
   ·obtain⟨v,τ,h1,h2⟩:=h;exact⟨v,τ,h1,ih _ h2⟩
   ·split at h
    ·obtain⟨v,τ,h1,h3,h2⟩:=h;exact⟨v,τ,h1,h3,ih _ h2⟩
    ·cases h
   ·obtain⟨v,h1,h2⟩:=h;exact⟨v,h1,ih _ h2⟩
   ·split at h
    ·exact ih _ h
    ·cases h
  cases g with
  |none=>exact run o h
  |some g =>
   obtain⟨t,b⟩:=g;rw[oU]at h ⊢;unfold aXN wpG at h ⊢;split at h
   ·exact⟨fun hb=>run o (h.1 hb),fun hb=>ih _ (h.2 hb)⟩
   ·exact ih _ h
   ·cases h
end Go.Ra
namespace Go.Ra
set_option linter.unusedVariables false
set_option linter.unusedSimpArgs false
def AOp.eff (q:Nat->Bool):AOp->Bool
 |.box _=>true
 |.store .. => true
 |.app .. => true
 |.copy .. => true
 |.mks .. => true
 |.call f _ => !q f
 |_=>false
def AOp.aDG (q:Nat->Bool) (o:AOp):Bool :=
 o.eff q||match o with
  |.load .. => true
  |.b2s .. => true
  |.aQA .. => true
  |.aQB .. => true
  |.aAE .. => true
  |.call .. => true
  |.n7 .. => true
  |.lO .. => true
  |_=>false
def fH (o:Oper):List Nat:=(o.after.toList.filter (Region.binds .any)).map (·.on)
def aEF (d:Option Nat) (l:List Nat):Bool :=
 match d with
 |some d=>l.contains d
 |none=>false
def aK1:AV->Bool
 |.sc _=>true
 |.fro .. => true
 |.clo _ []=>true
 |_=>false
def rdC (q:Nat->Bool) (ops:Array Oper) (x:Oper) (g:AG):Bool :=
 match g.o with
 |.load _ _ (.t i)=>(x.looksAt ops).contains i
 |.call f args=>q f&&args.all fun y =>
  match y with
  |.t i=>(x.looksAt ops).contains i
  |.c v=>aK1 v
 |.lO _ _=>true
 |_=>false
def alC (q:Nat->Bool) (g:AG):Bool :=
 match g.o with
 |.box _=>true
 |.mks .. => true
 |.app _ _ (.c (.fro true _ _)) _=>true
 |.call f _=>q (f+1000000)
 |_=>false
def yH (q:Nat->Bool) (ops:Array Oper) (x:Oper) (g:AG) (y:Oper) (h:AG):Bool:=(rdC q ops x g&&alC q h)||(alC q g&&rdC q ops y h)
def gP (f:Nat->Bool):Nat->Bool
 |0=>true
 |n+1=>f n&&gP f n
theorem oF {f:Nat->Bool}:∀ {n:Nat},gP f n=true->∀ k,k<n->f k=true
 |0,_,k,hk=>by omega
 |n+1,h,k,hk=>by
  simp only[gP,zaG]at h;by_cases hkn:k=n
  ·subst hkn;exact h.1
  ·exact oF h.2 k (by omega)
def aF7 (ops:Array Oper) (x y:Oper):Bool:=aEF x.dst (y.looksAt ops)||aEF y.dst (x.looksAt ops)
def aF8 (q:Nat->Bool) (ops:Array Oper) (x:Oper) (g:AG) (y:Oper) (h:AG):Bool := ((g.o.eff q&&h.o.aDG q)||(g.o.aDG q&&h.o.eff q)) && !yH q ops x g y h
def ldN (g:AG):Option Nat :=
 match g.o with
 |.load _ _ (.t i)=>some i
 |_=>none
def efN (g:AG):Option Nat :=
 match g.o with
 |.store _ (.t i) _=>some i
 |.app _ _ (.t i) _=>some i
 |.copy _ (.t i) _=>some i
 |_=>none
def stays (ops:Array Oper) (k t:Nat):Bool:=gP (fun j=>match ops[j]? with|some o=>decide (j<k) || !aEF o.dst [t]|none=>true) ops.size
def aNO (ops:Array Oper) (k:Nat) (x:Oper) (g:AG) (j:Nat) (y:Oper) (h:AG):Option (Nat×Nat) :=
 match ldN g,efN h with
 |some i,some a=>if(x.looksAt ops).contains i&&(y.looksAt ops).contains a&&stays ops k i&&stays ops j a then some (i,a)else none
 |_,_=>none
def uL (x y:Option Nat):Bool :=
 match x,y with
 |some a,some b=>decide (a≠b)
 |_,_=>true
mutual
def AV.flat:AV->Bool
 |.sc _=>true
 |.agg _ ts=>AV.aF9 ts
 |.arr _ _ ts=>AV.aF9 ts
 |.fro _ _ []=>true
 |_=>false
def AV.aF9:List AV->Bool
 |[]=>true
 |t::ts=>t.flat&&AV.aF9 ts
end
def aSK (q:Nat->Bool) (ops:Array Oper) (l:List AG) (ms:Array Nat) (k:Nat):Bool :=
 match ops[k]?,l[k]? with
 |some o,some ⟨_,.box (.c z),none⟩=>z.flat&&(fH o).isEmpty&&(o.looksAt ops).isEmpty&&gP (fun m =>
   match ops[m]? with
   |some x => !(fH x).contains k||gP (fun j =>
    match l[j]? with
    |some g => !g.o.eff q||(ms.getD m 0).testBit j
    |none=>true) k
   |none=>true) ops.size
 |_,_=>false
def aVO (p:Nat->Bool):Nat->Option Nat
 |0=>none
 |n+1=>match aVO p n with
  |some k=>some k
  |none=>if p n then some n else none
theorem aJL {p:Nat->Bool}:∀ {n k:Nat},aVO p n=some k->p k=true
 |0,k,h=>by cases h
 |n+1,k,h=>by
  simp only[aVO]at h;split at h
  ·rename_i k' hk;simp only[zaA]at h;subst h;exact aJL hk
  ·split at h
   ·rename_i hp;simp only[zaA]at h;subst h;exact hp
   ·cases h
def aQJ (q:Nat->Bool) (ops:Array Oper) (l:List AG) (ms:Array Nat) (f0:Option Nat) (k j:Nat):Option (List (Nat×Nat)) :=
 match ops[k]?,l[k]?,ops[j]?,l[j]? with
 |some y,some h,some x,some g =>
  if(!(ms.getD k 0).testBit j||(fH y).any fun e=>e == j||(decide (j<e)&&(ms.getD e 0).testBit j))&&((ms.getD k 0).testBit j || !aF7 ops x y)&&uL x.dst y.dst then
   if(ms.getD k 0).testBit j || !aF8 q ops x g y h||(f0 == some k&&g.o.eff q)then some []else
   match aNO ops j x g k y h,aNO ops k y h j x g with
   |some p,_=>some [p]
   |_,some p=>some [p]
   |none,none=>none
  else none
 |_,_,_,_=>none
def aXU {α:Type} (f:Nat->Option (List α)):Nat->Option (List α)
 |0=>some []
 |n+1 =>
  match f n,aXU f n with
  |some a,some b=>some (a++b)
  |_,_=>none
theorem aDH {α:Type} {f:Nat->Option (List α)}:∀ {n:Nat} {l:List α},aXU f n=some l->∀ k,k<n->∃ a,f k=some a/\∀ x∈a,x∈l
 |0,l,h,k,hk=>by omega
 |n+1,l,h,k,hk=>by
  simp only[aXU]at h;split at h
  ·rename_i a b ha hb;simp only[zaA]at h;subst h;by_cases hkn:k=n
   ·subst hkn;exact⟨a,ha,fun x hx=>List.mem_append_left _ hx⟩
   ·obtain⟨c,h1,h2⟩:=aDH hb k (by omega);exact⟨c,h1,fun x hx=>List.mem_append_right _ (h2 x hx)⟩
  ·cases h
def okR (q:Nat->Bool) (ops:Array Oper) (l:List AG):Option (List (Nat×Nat)) :=
 let ms:=Region.before ops
 if gP (fun k=>match ops[k]? with|some o=>(fH o).all fun e=>decide (e<k)|none=>false) ops.size then
  aXU (fun k=>aXU (aQJ q ops l ms (aVO (aSK q ops l ms) ops.size) k) k) ops.size
 else none
def Env (G:Gh) (w:World) (σ:St) (a:Act):Prop:=∀ t,bS w G.F G.ρ (get σ.env t) (a.tmps.getD t undef)
def Sim (fr:Fr) (G0:Gh) (w0:World) (nt:Nat) (σ:St) (a:Act) (w:World):Prop := ∃ G,jO fr G0 w0 G w σ/\Env G w σ a/\a.defers=[]/\a.tmps.size=nt
theorem jO.trans {fr:Fr} {G0 G G':Gh} {w0 w w':World} {σ τ:St} (h:jO fr G0 w0 G w σ) (k:jO fr G w G' w' τ):jO fr G0 w0 G' w' τ := ⟨k.wf,k.fr,h.ext.trans k.ext h.leF,fun b hb=>k.leF b (h.leF b hb),fun i l hi=>k.leR i l (h.leR i l hi)⟩
theorem jO.same {fr:Fr} {G0 G:Gh} {w0 w:World} {σ τ:St} (h:jO fr G0 w0 G w σ) (h1:τ.hl=σ.hl) (h2:τ.hb=σ.hb) (h3:τ.n=σ.n):jO fr G0 w0 G w τ:=by
 have e:τ.H=σ.H:=by unfold St.H;rw[h1,h2]
 unfold jO at *;rw[e,h3];exact h
theorem jO.drew {fr:Fr} {G0 G:Gh} {w0 w:World} {σ:St} (h:jO fr G0 w0 G w σ) {w':World} (hs:iY w w'):jO fr G0 w0 G w' σ := h.trans (Nxt.same h.wf h.fr hs)
theorem yI {a:Act} {nt d t:Nat} {u:Value} (hs:a.tmps.size=nt) (hd:d<nt):(a.put (some d) u).tmps.getD t undef=if t=d then u else a.tmps.getD t undef:=by
 simp only[Act.put,Array.getD_eq_getD_getElem?,Array.getElem?_setIfInBounds];by_cases h:d=t
 ·subst h;simp[hs,hd]
 ·rw[if_neg h,if_neg (fun e=>h e.symm)]
theorem put_defers {a:Act} {d:Option Nat} {u:Value}:(a.put d u).defers=a.defers:=by cases d<;>rfl
theorem aGA {a:Act} {d:Option Nat} {u:Value}:(a.put d u).tmps.size=a.tmps.size:=by cases d<;>simp[Act.put]
theorem aK2 {σ:St} {d:Option Nat} {v:AV} {t:Nat}:get (σ.put d v).env t=if d=some t then v else get σ.env t:=by
 cases d with
 |none=>simp[St.put]
 |some d =>
  simp only[St.put,get,zaA];by_cases h:d=t
  ·subst h;simp
  ·rw[if_neg h,if_neg (fun e=>h e.symm)]
theorem aAL {σ:St} {d:Option Nat} {v:AV}:(σ.put d v).hl=σ.hl:=by cases d<;>rfl
theorem aAM {σ:St} {d:Option Nat} {v:AV}:(σ.put d v).hb=σ.hb:=by cases d<;>rfl
theorem aGB {σ:St} {d:Option Nat} {v:AV}:(σ.put d v).n=σ.n:=by cases d<;>rfl
theorem a3I {G G':Gh} {fr:Fr} {w w':World} {σ τ:St} {a:Act} {nt:Nat} {d:Option Nat} {v:AV} {u:Value} (he:Env G w σ a) (hs:a.tmps.size=nt) (hd:∀ t,d=some t->t<nt) (hgo:jO fr G w G' w' τ) (henv:τ.env=σ.env) (hr:bS w' G'.F G'.ρ v u) :
  Env G' w' (τ.put d v) (a.put d u):=by
 intro t;rw[aK2];cases d with
 |none => rw[if_neg (by simp),henv];exact hgo.mono (he t)
 |some d =>
  rw[yI hs (hd d rfl)];by_cases h:d=t
  ·subst h;simpa using hr
  ·rw[if_neg (by simpa using h),if_neg (fun e=>h e.symm),henv];exact hgo.mono (he t)
theorem sG {α β:Type} {f:α->Option β} {x:α} {xs:List α} {r:List β} (h:(x::xs).mapM f=some r):∃ y ys,f x=some y/\xs.mapM f=some ys/\r=y::ys:=by
 rw[List.mapM_cons]at h;cases hx:f x with
 |none=>rw[hx]at h;cases h
 |some y =>
  rw[hx]at h;cases hxs:xs.mapM f with
  |none=>rw[hxs]at h;cases h
  |some ys => rw[hxs]at h;exact⟨y,ys,rfl,rfl,by simpa using h.symm⟩
theorem aGC {α β:Type} {f:α->Option β}:∀ {l:List α} {r:List β},l.mapM f=some r->∀(k:Nat) (x:α),l[k]? = some x->∃ y,r[k]? = some y/\f x=some y
 |[],r,h,k,x,hk=>by simp at hk
 |a::l,r,h,k,x,hk=>by
  obtain⟨y,ys,h1,h2,rfl⟩:=sG h;cases k with
  |zero => simp only[List.getElem?_cons_zero,zaA]at hk;subst hk;exact⟨y,rfl,h1⟩
  |succ k=>exact aGC h2 k x (by simpa using hk)
theorem wI {α β:Type} {f:α->Option β}:∀ {l:List α} {r:List β},l.mapM f=some r->r.length=l.length
 |[],r,h=>by simp at h;subst h;rfl
 |a::l,r,h=>by obtain⟨y,ys,h1,h2,rfl⟩:=sG h;simp[wI h2]
section
variable {P:Program} {z:ZM}
theorem gJ {nt:Nat} {ops:Array Oper} {o:Oper} {g:AG} (h:iX z P nt ops o=some g):TrO P o.op g.o/\trG ops o.guard=some g.g/\g.d=o.dst/\∀ t,o.dst=some t->t<nt:=by
 unfold iX at h;split at h
 ·rename_i ao g' h1 h2;cases hd:o.dst with
  |none => rw[hd]at h;simp only[if_true,zaA]at h;subst h;exact⟨aXM h1 z,h2,rfl,fun t ht=>by cases ht⟩
  |some d =>
   rw[hd]at h;simp only[zaK]at h;split at h
   ·rename_i h3;simp only[zaA]at h;subst h;refine⟨aXM h1 z,h2,rfl,fun t ht => ?_⟩;simp only[zaA]at ht;subst ht;exact h3
   ·cases h
 ·cases h
theorem Stp.env {C:Orc} {σ τ:St} {o:Op} {g:AG} {v:AV} (htr:TrO P o g.o) (h:Stp C σ g v τ):τ.env=σ.env:=by
 cases h with
 |op hp hs => obtain⟨c,rfl,_⟩:=htr.1 σ τ v hs;exact c.a9E σ
 |call hp hc=>rfl
 |n7 hp hx hc _=>rfl
 |lO hp hc=>rfl
 |skip hp=>rfl
theorem aK3 {P:Program} {z:ZM} {C:Orc} (hC:qD P C) {nt:Nat} {ops:Array Oper} {o:Oper} {g:AG} (htr:iX z P nt ops o=some g) {σ τ:St} {v:AV} (h:Stp C σ g v τ)
  {fr:Fr} {G:Gh} {w:World} {a:Act} (hw:Own fr G w σ) (hr:∀ t∈o.looksAt ops,bS w G.F G.ρ (get σ.env t) (a.tmps.getD t undef)) {K:Act->World->Prop} {Q:Exit->Act->World->Prop}
  (hK:∀ u w' G',jO fr G w G' w' τ->bS w' G'.F G'.ρ v u->K (a.put o.dst u) w') :
  if Region.wanted o (yielded ops a.tmps)=true then o.wp P a w K Q else K (a.put o.dst undef) w:=by
 obtain⟨h1,h2,h3,h4⟩:=gJ htr;obtain⟨d,ao,g'⟩:=g;simp only at h1 h2 h3;subst h3;exact aVN hC h1 h2 h hw hr hK
theorem aJM {C:Orc} (hC:qD P C) {nt:Nat} {ops:Array Oper} {fr:Fr} {G0:Gh} {w0:World} {KA:St->Prop} {Q:Exit->Act->World->Prop} (hQ:∀ σ a w,Sim fr G0 w0 nt σ a w->KA σ->Q .normal a w) :
  ∀(l:List Oper) (r:List AG),l.mapM (iX z P nt ops)=some r->∀(σ:St) (a:Act) (w:World),Sim fr G0 w0 nt σ a w->wpOps C r σ KA->wpList P ops Q l a w
 |[],r,hr,σ,a,w,hs,h=>by simp at hr;subst hr;exact hQ σ a w hs h
 |o::l,r,hr,σ,a,w,hs,h=>by
  obtain⟨g,gs,h1,h2,rfl⟩:=sG hr;obtain⟨v,τ,h3,h4⟩:=aF5 h;obtain⟨t1,t2,t3,t4⟩:=gJ h1;obtain⟨G,s1,s2,s3,s4⟩:=hs;have:=aK3 hC h1 h3 (a:=a) s1.own (fun t _=>s2 t) (K:=wpList P ops Q l) (Q:=Q) (fun u w' G' hgo hrel=>by
   refine aJM hC hQ l gs h2 (τ.put g.d v) _ w' ⟨G', ?_, ?_, ?_, ?_⟩ h4
   ·exact(s1.trans hgo).same aAL aAM aGB
   ·rw[t3];exact a3I s2 s4 t4 hgo (h3.env t1) hrel
   ·rw[put_defers];exact s3
   ·rw[aGA];exact s4)
  unfold wpList;split
  ·rename_i hw;rw[if_pos hw]at this;exact .inl this
  ·rename_i hw;rw[if_neg hw]at this;exact this
end
theorem aQK {q:Nat->Bool} {o:AOp} {σ τ:St} {v:AV} (he:o.eff q=false) (h:aX o σ=some (v,τ)):τ=σ:=by
 cases o<;>simp only[AOp.eff]at he<;>first|(cases he;done)|skip
 all_goals
  simp only[aX]at h
  repeat' split at h
  all_goals first
   |(cases h;done)
   |(simp only[zaA,zaJ]at h;exact h.2.symm)
theorem aXV {σ:St} {hl:List (Nat×Option AV)} {hb:Nat->Option AV} {n:Nat}:St.ev ⟨σ.env,hl,hb,n⟩=σ.ev:=by funext x;cases x<;>rfl
theorem aQL {q:Nat->Bool} {o:AOp} {σ τ:St} {v:AV} (he:o.aDG q=false) (h:aX o σ=some (v,τ)) (hl:List (Nat×Option AV)) (hb:Nat->Option AV) (n:Nat):aX o ⟨σ.env,hl,hb,n⟩=some (v,⟨σ.env,hl,hb,n⟩):=by
 cases o<;>simp only[AOp.aDG,AOp.eff,Bool.or_false,Bool.or_true,Bool.true_or,Bool.or_eq_false_iff]at he<;>first|(cases he;done)|(cases he.2;done)|skip
 all_goals
  simp only[aX,aXV]at h ⊢
  repeat' split at h
  all_goals first
   |(cases h;done)
   |(simp only[zaA,zaJ]at h;obtain⟨rfl,rfl⟩:=h;simp_all)
end Go.Ra
namespace Go.Ra
open Go.RowKit (Below)
set_option linter.unusedVariables false
set_option linter.unusedSimpArgs false
def n8 (q:Nat->Bool) (C:Orc):Prop:=(∀ f args σ v τ,C f args σ v τ->q f=true->τ.hl=σ.hl/\τ.hb=σ.hb/\τ.n=σ.n) /\
 (∀ f args σ v τ,C f args σ v τ->q (f+1000000)=true->(∀ i,i<σ.n->τ.H i=σ.H i)/\σ.n<=τ.n) /\
 ∀ f args σ v τ,C f args σ v τ->q f=true->∀(σ':St) (G:Gh) (w:World) (U:Nat->Prop),Wf G w σ'.H U->(∀ a∈args,aK1 a=true\/∃ u,bS w G.F G.ρ a u)->(∀ i,G.ρ i≠none->σ.H i=none\/σ'.H i=σ.H i)->C f args σ' v σ'
theorem Stp.heap {q:Nat->Bool} {C:Orc} (hq:n8 q C) {σ τ:St} {g:AG} {v:AV} (he:g.o.eff q=false) (h:Stp C σ g v τ):τ.hl=σ.hl/\τ.hb=σ.hb/\τ.n=σ.n:=by
 cases h with
 |op hp hs=>rw[aQK he hs];exact⟨rfl,rfl,rfl⟩
 |call hp hc => simp only[AOp.eff,Bool.not_eq_false']at he;have:=hq.1 _ _ _ _ _ hc he;exact this
 |n7 hp hx hc h=>exact h
 |lO hp hc=>exact⟨rfl,rfl,rfl⟩
 |skip hp=>exact⟨rfl,rfl,rfl⟩
theorem Pass.env {σ τ:St} (h:τ.env=σ.env) {g:Option (Nat×Bool)} {y:Bool} (hp:Pass σ g y):Pass τ g y:=by unfold Pass at *;rw[h];exact hp
theorem Stp.pure {q:Nat->Bool} {C:Orc} {σ τ:St} {g:AG} {v:AV} (he:g.o.aDG q=false) (h:Stp C σ g v τ) (hl:List (Nat×Option AV)) (hb:Nat->Option AV) (n:Nat):Stp C ⟨σ.env,hl,hb,n⟩ g v ⟨σ.env,hl,hb,n⟩:=by
 cases h with
 |op hp hs=>exact .op (Pass.env rfl hp) (aQL he hs hl hb n)
 |call hp hc=>simp[AOp.aDG,AOp.eff]at he
 |n7 hp hx hc _=>simp[AOp.aDG,AOp.eff]at he
 |lO hp hc=>simp[AOp.aDG,AOp.eff]at he
 |skip hp=>exact .skip (Pass.env rfl hp)
structure Trail (C:Orc) (l:List AG) (σ:St) (S:Nat->St) (V:Nat->AV) (T:Nat->St):Prop where
 zero:S 0=σ
 step:∀ k g,l[k]? = some g->Stp C (S k) g (V k) (T k)/\S (k+1)=(T k).put g.d (V k)
theorem aNP {C:Orc} {K:St->Prop}:∀ {l:List AG} {σ:St},wpOps C l σ K->∃ S V T,Trail C l σ S V T/\K (S l.length)
 |[],σ,h=>⟨fun _=>σ,fun _=>.unk,fun _=>σ,⟨rfl,fun k g hk=>by simp at hk⟩,h⟩
 |ag::l,σ,h=>by
  obtain⟨v,τ,h1,h2⟩:=aF5 h;obtain⟨S,V,T,ht,hK⟩:=aNP h2;refine⟨fun k=>match k with|0=>σ|k+1=>S k,fun k=>match k with|0=>v|k+1=>V k,fun k=>match k with|0=>τ|k+1=>T k,⟨rfl,fun k g hk => ?_⟩,hK⟩;cases k with
  |zero => simp only[List.getElem?_cons_zero,zaA]at hk;subst hk;exact⟨h1,ht.zero⟩
  |succ k=>exact ht.step k g (by simpa using hk)
theorem aSL {es b:Nat} {s x:AX} {σ τ:St} {v:AV} (h:aX (.app es b s x) σ=some (v,τ)):(∃ t,τ=σ.new t)\/∃ t id p o k n m,σ.ev s=.sl id p o k n m/\τ=(σ.rB id none).new t:=by
 simp only[aX]at h;split at h
 ·unfold aVB at h;split at h
  ·split at h
   ·simp only[zaA,zaJ]at h;exact .inl ⟨_,h.2.symm⟩
   ·cases h
  ·rename_i hev;split at h
   ·split at h
    ·simp only[zaA,zaJ]at h;exact .inr ⟨_,_,_,_,_,_,_,hev,h.2.symm⟩
    ·cases h
   ·cases h
  ·cases h
 ·cases h
theorem aQM {σ:St} {k i:Nat} {t:Option AV} (h:i≠k):(σ.rB k t).H i=σ.H i:=by show look (aA4 σ.hl k t) σ.hb i=look σ.hl σ.hb i;rw[yG,bZ _ _ h]
theorem a7D {σ:St} {i:Nat} {t:AV} (h:i<σ.n):(σ.new t).H i=σ.H i:=by show look ((σ.n,some t)::σ.hl) σ.hb i=look σ.hl σ.hb i;simp only[look];rw[if_neg (by omega)]
theorem Stp.apart {C:Orc} {σ τ:St} {g:AG} {v:AV} {t i:Nat} (h:Stp C σ g v τ) (he:efN g=some t) (hne:rC (get σ.env t)≠some i) (hi:i<σ.n):τ.H i=σ.H i/\σ.n<=τ.n:=by
 cases h with
 |skip hp=>exact⟨rfl,zaF _⟩
 |call hp hc=>simp[efN]at he
 |n7 hp hx hc h=>simp[efN]at he
 |lO hp hc=>simp[efN]at he
 |op hp hs =>
  unfold efN at he;split at he
  ·rename_i n u x e;simp only at e;simp only[zaA]at he;subst e he;simp only[aX,show σ.ev (.t u)=get σ.env u from rfl]at hs;generalize get σ.env u=a at hs hne;generalize σ.ev x=y at hs;cases a<;>try (cases hs;done)
   simp only at hs;split at hs
   ·split at hs
    ·split at hs
     ·simp only[zaA,zaJ]at hs;obtain⟨_,rfl⟩:=hs;exact⟨aQM fun h=>hne (by rw[h];rfl),zaF _⟩
     ·cases hs
    ·cases hs
   ·cases hs
  ·rename_i es b u x e;simp only at e;simp only[zaA]at he;subst e he;rcases aSL hs with⟨t,rfl⟩|⟨t,id,p,o,k,n,m,he2,rfl⟩
   ·exact⟨a7D hi,Nat.le_succ _⟩
   ·simp only[St.ev]at he2;rw[he2]at hne;refine⟨?_,Nat.le_succ _⟩;rw[a7D (σ:=σ.rB id none) hi];exact aQM fun h=>hne (by rw[h];rfl)
  ·rename_i es u x e;simp only at e;simp only[zaA]at he;subst e he;simp only[aX,show σ.ev (.t u)=get σ.env u from rfl]at hs;generalize get σ.env u=a at hs hne;generalize σ.row es (σ.ev x)=y at hs;cases a<;>try (cases hs;done)
   split at hs
   ·rename_i hev;simp only[AV.sl.injEq]at hev;obtain⟨rfl,_⟩:=hev;split at hs
    ·split at hs
     ·simp only[zaA,zaJ]at hs;obtain⟨_,rfl⟩:=hs;exact⟨aQM fun h=>hne (by rw[h];rfl),zaF _⟩
     ·cases hs
    ·cases hs
   ·cases hs
  ·cases he
section
variable {P:Program} {z:ZM} {q:Nat->Bool} {C:Orc} {nt:Nat} {ops:Array Oper} {l:List AG} {σ:St} {S:Nat->St} {V:Nat->AV} {T:Nat->St}
theorem aSM (hm:ops.toList.mapM (iX z P nt ops)=some l) {k:Nat} {o:Oper} (hk:ops[k]? = some o):∃ g,l[k]? = some g/\iX z P nt ops o=some g := aGC hm k o (by simpa using hk)
theorem aEG (hm:ops.toList.mapM (iX z P nt ops)=some l) {k:Nat} {g:AG} (hk:l[k]? = some g):∃ o,ops[k]? = some o/\iX z P nt ops o=some g:=by
 have hlt:=(List.getElem?_eq_some_iff.1 hk).1;rw[wI hm]at hlt;have hlt':k<ops.size:=by simpa using hlt
 obtain⟨g',h1,h2⟩:=aSM hm (Array.getElem?_eq_getElem hlt');rw[hk]at h1;simp only[zaA]at h1;subst h1;exact⟨_,Array.getElem?_eq_getElem hlt',h2⟩
theorem Trail.heap (hq:n8 q C) (ht:Trail C l σ S V T) {a:Nat}:∀ {b:Nat},a<=b->b<=l.length->(∀ j g,a<=j->j<b->l[j]? = some g->g.o.eff q=false)->(S b).hl=(S a).hl/\(S b).hb=(S a).hb/\(S b).n=(S a).n:=by
 intro b
 induction b with
 |zero =>
      intro h _ _;have:a=0:=by omega
      subst this;exact⟨rfl,rfl,rfl⟩
 |succ b ih =>
  intro h hb he;by_cases hab:a=b+1
  ·subst hab;exact⟨rfl,rfl,rfl⟩
  ·obtain⟨i1,i2,i3⟩:=ih (by omega) (by omega) fun j g h1 h2=>he j g h1 (by omega)
   have hlt:b<l.length:=by omega
   obtain⟨h1,h2⟩:=ht.step b _ (List.getElem?_eq_getElem hlt);obtain⟨j1,j2,j3⟩:=h1.heap hq (he b _ (by omega) (by omega) (List.getElem?_eq_getElem hlt));rw[h2,aAL,aAM,aGB];exact⟨j1.trans i1,j2.trans i2,j3.trans i3⟩
theorem Trail.grow (hq:n8 q C) (ht:Trail C l σ S V T) {a:Nat}:∀ {b:Nat},a<=b->b<=l.length->(∀ j g,a<=j->j<b->l[j]? = some g->g.o.eff q=true->alC q g=true)->(∀ i,i<(S a).n->(S b).H i=(S a).H i)/\(S a).n<=(S b).n:=by
 intro b
 induction b with
 |zero =>
      intro h _ _;have:a=0:=by omega
      subst this;exact⟨fun _ _=>rfl,zaF _⟩
 |succ b ih =>
  intro h hb he;by_cases hab:a=b+1
  ·subst hab;exact⟨fun _ _=>rfl,zaF _⟩
  ·obtain⟨i1,i2⟩:=ih (by omega) (by omega) fun j g h1 h2=>he j g h1 (by omega)
   have hlt:b<l.length:=by omega
   have hgb:=List.getElem?_eq_getElem hlt;obtain⟨h1,h2⟩:=ht.step b _ hgb;have hH:∀(τ:St) (d:Option Nat) (v:AV),(τ.put d v).H=τ.H:=fun τ d v=>by unfold St.H;rw[aAL,aAM]
   have hstep:(∀ i,i<(S b).n->(T b).H i=(S b).H i)/\(S b).n<=(T b).n:=by
    cases hej:l[b].o.eff q with
    |false => obtain⟨j1,j2,j3⟩:=h1.heap hq hej;exact⟨fun i _=>by unfold St.H;rw[j1,j2],by rw[j3];exact zaF _⟩
    |true =>
     have hal:=he b _ (by omega) (by omega) hgb hej;generalize l[b]=g at *;generalize T b=τb at *;generalize V b=vb at *;clear h2;obtain⟨d,ao,gd⟩:=g;have hnew:∀(t:AV) (i:Nat),i<(S b).n->((S b).new t).H i=(S b).H i:=fun t i hi=>by show look (((S b).n,some t)::(S b).hl) (S b).hb i=look (S b).hl (S b).hb i;simp only[look];rw[if_neg (by omega)]
     unfold alC at hal;split at hal
     ·rename_i x e;simp only at e;subst e;cases h1 with
      |op hp hs =>
       simp only[aX]at hs;split at hs
       ·simp only[zaA,zaJ]at hs;obtain⟨_,rfl⟩:=hs;exact⟨hnew _,Nat.le_succ _⟩
       ·cases hs
      |skip hp=>exact⟨fun _ _=>rfl,zaF _⟩
     ·rename_i e;simp only at e;subst e;cases h1 with
      |op hp hs =>
       simp only[aX]at hs;split at hs
       ·split at hs
        ·simp only[zaA,zaJ]at hs;obtain⟨_,rfl⟩:=hs;exact⟨hnew _,Nat.le_succ _⟩
        ·cases hs
       ·cases hs
      |skip hp=>exact⟨fun _ _=>rfl,zaF _⟩
     ·rename_i e;simp only at e;subst e;cases h1 with
      |op hp hs =>
       rcases aSL hs with⟨t,rfl⟩|⟨t,id,p,o,k,n,m,he2,rfl⟩
       ·exact⟨hnew _,Nat.le_succ _⟩
       ·cases he2
      |skip hp=>exact⟨fun _ _=>rfl,zaF _⟩
     ·rename_i f args e;simp only at e;subst e;cases h1 with
      |op hp hs=>simp[aX]at hs
      |call hp hc => have:=hq.2.1 _ _ _ _ _ hc hal;exact this
      |skip hp=>exact⟨fun _ _=>rfl,zaF _⟩
     ·cases hal
   rw[h2,aGB];refine⟨fun i hi => ?_,by omega⟩;rw[hH,hstep.1 i (by omega)];exact i1 i hi
theorem Trail.wJ (hq:n8 q C) (ht:Trail C l σ S V T) {a i:Nat} (hi:i<(S a).n):∀ {b:Nat},a<=b->b<=l.length->(∀ j g,a<=j->j<b->l[j]? = some g->g.o.eff q=true->alC q g=true\/∃ t,efN g=some t/\rC (get (S j).env t)≠some i)->(S b).H i=(S a).H i/\(S a).n<=(S b).n:=by
 intro b
 induction b with
 |zero =>
      intro h _ _;have:a=0:=by omega
      subst this;exact⟨rfl,zaF _⟩
 |succ b ih =>
  intro h hb he;by_cases hab:a=b+1
  ·subst hab;exact⟨rfl,zaF _⟩
  ·obtain⟨i1,i2⟩:=ih (by omega) (by omega) fun j g h1 h2=>he j g h1 (by omega)
   have hlt:b<l.length:=by omega
   have hgb:=List.getElem?_eq_getElem hlt;have hone:(S (b+1)).H i=(S b).H i/\(S b).n<=(S (b+1)).n:=by
    cases hej:l[b].o.eff q with
    |false =>
     have:=ht.heap hq (a:=b) (b:=b+1) (by omega) hb fun j g h1 h2 h3=>by
      have:j=b:=by omega
      subst this;rw[hgb]at h3;simp only[zaA]at h3;subst h3;exact hej
     exact⟨by unfold St.H;rw[this.1,this.2.1],by rw[this.2.2];exact zaF _⟩
    |true =>
     rcases he b _ (by omega) (by omega) hgb hej with hal|⟨t,h1,h2⟩
     ·have:=ht.grow hq (a:=b) (b:=b+1) (by omega) hb fun j g h1 h2 h3 _=>by
       have:j=b:=by omega
       subst this;rw[hgb]at h3;simp only[zaA]at h3;subst h3;exact hal
      exact⟨this.1 i (by omega),this.2⟩
     ·obtain⟨h3,h4⟩:=ht.step b _ hgb;obtain⟨h5,h6⟩:=h3.apart h1 h2 (by omega);rw[h4,aGB];exact⟨by unfold St.H;rw[aAL,aAM];exact h5,h6⟩
   exact⟨hone.1.trans i1,Nat.le_trans i2 hone.2⟩
theorem Trail.stay (hm:ops.toList.mapM (iX z P nt ops)=some l) (ht:Trail C l σ S V T) {k t:Nat} (hs:stays ops k t=true):∀ {b:Nat},k<=b->b<=l.length->get (S b).env t=get (S k).env t:=by
 intro b
 induction b with
 |zero =>
      intro h _;have:k=0:=by omega
      subst this;rfl
 |succ b ih =>
  intro h hb;by_cases hab:k=b+1
  ·subst hab;rfl
  ·have hlt:b<l.length:=by omega
   have hgb:=List.getElem?_eq_getElem hlt;obtain⟨h1,h2⟩:=ht.step b _ hgb;obtain⟨o,ho,htr⟩:=aEG hm hgb;rw[h2,aK2,h1.env (gJ htr).1,ih (by omega) (by omega)];rw[if_neg];intro hd;have:=oF hs b (Array.getElem?_eq_some_iff.1 ho).1;rw[ho]at this;simp only[zaV,zaK,Bool.not_eq_true']at this;rcases this with h3|h3
   ·omega
   ·rw[<-(gJ htr).2.2.1,hd]at h3;simp[aEF]at h3
theorem Trail.env (hm:ops.toList.mapM (iX z P nt ops)=some l) (ht:Trail C l σ S V T) (t:Nat):∀ {k:Nat},k<=l.length->(∃ j g,j<k/\l[j]? = some g/\g.d=some t/\get (S k).env t=V j) \/
  ((∀ j g,j<k->l[j]? = some g->g.d≠some t)/\get (S k).env t=get σ.env t):=by
 intro k
 induction k with
 |zero=>intro _;exact .inr ⟨fun j g h=>by omega,by rw[ht.zero]⟩
 |succ k ih =>
  intro hk;have hlt:k<l.length:=by omega
  have hg:=List.getElem?_eq_getElem hlt;obtain⟨h1,h2⟩:=ht.step k _ hg;obtain⟨o,ho,htr⟩:=aEG hm hg;have henv:=h1.env (gJ htr).1;rw[h2,aK2];by_cases hd:l[k].d=some t
  ·rw[if_pos hd];exact .inl ⟨k,_,by omega,hg,hd,rfl⟩
  ·rw[if_neg hd,henv];rcases ih (by omega)with⟨j,g,h3,h4,h5,h6⟩|⟨h3,h4⟩
   ·exact .inl ⟨j,g,by omega,h4,h5,h6⟩
   ·refine .inr ⟨fun j g hj hjg => ?_,h4⟩;by_cases hjk:j=k
    ·subst hjk;rw[hg]at hjg;simp only[zaA]at hjg;subst hjg;exact hd
    ·exact h3 j g (by omega) hjg
def DyP (ops:Array Oper) (l:List AG) (ps:List (Nat×Nat)) (r e:Nat):Prop := ∃ x g y h p,ops[r]? = some x/\l[r]? = some g/\ops[e]? = some y/\l[e]? = some h/\aNO ops r x g e y h=some p/\p∈ps
section
variable {fr:Fr} {G:Gh} {w:World}
theorem Nxt.below {H:Nat->Option AV} {U:Nat->Prop} {w':World} (hw:Wf G w H U) (hf:wE fr G w H) (hb:Below w.heap.size w w') {F':Nat->Prop} (h1:∀ b,G.F b->F' b) (h2:∀ b,F' b->(G.F b\/w.heap.size<=b)/\b<w'.heap.size) :
  Nxt fr G w ⟨G.ρ,F'⟩ w' H U:=by
 have hx:Ext G.F w w':=⟨fun b hF=>hb.block b (hw.fsz b hF),fun b cur e h=>⟨cur,by rw[hb.block b (lt_of_block h)];exact h,rfl⟩⟩;have hs:=hf.size;refine⟨⟨hw.free,fun b h=>(h2 b h).2,fun i t hi => ?_,hw.dis⟩,⟨hb.os.trans hf.os,hb.tape.trans hf.tape,hb.output.trans hf.output,Nat.le_trans hs hb.size,fun b hb1 hS => ?_,hf.ext.trans hx hf.f0,fun b h=>h1 b (hf.f0 b h),fun b h => ?_,hf.loc⟩,hx,h1,fun _ _ h=>h⟩
 ·rcases hw.blk i t hi with⟨b,o,cs,cur,e,h3,h4,h5,h6,h7⟩|h3
  ·have hlt:=lt_of_block h5;refine .inl ⟨b,o,cs,cur,e,h3,h4.mono hx h1 (fun _ _ h=>h),by rw[hb.block b hlt];exact h5,h6.sO (hb.block b hlt),fun h => ?_⟩;rcases(h2 b h).1 with h|h
   ·exact h7 h
   ·omega
  ·exact .inr h3
 ·rw[hb.block b (by omega)];exact hf.same b hb1 hS
 ·rcases(h2 b h).1 with h|h
  ·exact hf.v9 b h
  ·exact .inr (.inr (by omega))
end
def FlP (q:Nat->Bool) (ops:Array Oper) (l:List AG) (B:Nat->Nat->Prop) (k:Nat):Prop := ∃ o d z,ops[k]? = some o/\l[k]? = some ⟨d,.box (.c z),none⟩/\z.flat=true/\fH o=[]/\o.looksAt ops=[]/\∀ m x,ops[m]? = some x->k∈fH x->∀ j g,j<k->l[j]? = some g->g.o.eff q=true->B m j
structure OkR (q:Nat->Bool) (ops:Array Oper) (l:List AG) (ps:List (Nat×Nat)) (B:Nat->Nat->Prop) (f0:Option Nat):Prop where
 flo:∀ k,f0=some k->FlP q ops l B k
 a3J:∀(k:Nat) (o:Oper),ops[k]? = some o->∀ e∈fH o,e<k
 bits:∀(k j:Nat) (y:Oper),ops[k]? = some y->j<k->B k j->∃ e∈fH y,e=j\/(j<e/\B e j)
 lQ:∀(k j:Nat) (x y:Oper),ops[k]? = some y->ops[j]? = some x->j<k->aF7 ops x y=true->B k j
 mem:∀(k j:Nat) (x y:Oper) (g h:AG),ops[k]? = some y->l[k]? = some h->ops[j]? = some x->l[j]? = some g->j<k->aF8 q ops x g y h=true->(B k j\/(f0=some k/\g.o.eff q=true))\/DyP ops l ps j k\/DyP ops l ps k j
 apart:∀(k j:Nat) (x y:Oper),ops[k]? = some y->ops[j]? = some x->j<k->uL x.dst y.dst=true
theorem aXW {ps:List (Nat×Nat)} (h:okR q ops l=some ps):∃ B f0,OkR q ops l ps B f0:=by
 refine⟨fun k j=>((Region.before ops).getD k 0).testBit j=true,aVO (aSK q ops l (Region.before ops)) ops.size, ?_⟩;unfold okR at h;simp only at h;split at h
 ·rename_i hall;generalize hf0:aVO (aSK q ops l (Region.before ops)) ops.size=f0 at h;have h1:∀ k,k<ops.size->∀ j,j<k->∃ a,aQJ q ops l (Region.before ops) f0 k j=some a/\∀ x∈a,x∈ps:=fun k hk j hj=>by
   obtain⟨a,h1,h2⟩:=aDH h k hk;obtain⟨b,h3,h4⟩:=aDH h1 j hj;exact⟨b,h3,fun x hx=>h2 x (h4 x hx)⟩
  have h2:∀(k j:Nat) (y:Oper),ops[k]? = some y->j<k->∃ h x g,l[k]? = some h/\ops[j]? = some x/\l[j]? = some g /\
    (((Region.before ops).getD k 0).testBit j=true->∃ e∈fH y,e=j\/(j<e/\((Region.before ops).getD e 0).testBit j=true))/\(aF7 ops x y=true->((Region.before ops).getD k 0).testBit j=true) /\
    (aF8 q ops x g y h=true->(((Region.before ops).getD k 0).testBit j=true\/(f0=some k/\g.o.eff q=true))\/DyP ops l ps j k\/DyP ops l ps k j)/\uL x.dst y.dst=true:=fun k j y hy hj=>by
   have hk:k<ops.size:=(Array.getElem?_eq_some_iff.1 hy).1;obtain⟨pl,h3,hps⟩:=h1 k hk j hj;unfold aQJ at h3;split at h3
   ·rename_i y' h' x g' e1 e2 e3 e4;rw[hy]at e1;simp only[zaA]at e1;subst e1;split at h3
    ·rename_i hc;simp only[zaG,zaV,Bool.not_eq_true',List.any_eq_true,beq_iff_eq,zaK]at hc;obtain⟨⟨h4,h5⟩,h6⟩:=hc;refine⟨h',x,g',e2,e3,e4,fun hb => ?_,fun hn => ?_,fun hn => ?_,h6⟩
     ·rcases h4 with h4|h4
      ·rw[hb]at h4;cases h4
      ·exact h4
     ·rcases h5 with h5|h5
      ·exact h5
      ·rw[hn]at h5;cases h5
     ·split at h3
      ·rename_i hb;simp only[zaV,Bool.not_eq_true',zaG,beq_iff_eq]at hb;rcases hb with(hb|hb)|hb
       ·exact .inl (.inl hb)
       ·rw[hn]at hb;cases hb
       ·exact .inl (.inr hb)
      ·split at h3
       ·rename_i p hd;simp only[zaA]at h3;exact .inr (.inl ⟨_,_,_,_,p,e3,e4,hy,e2,hd,hps p (by rw[<-h3];simp)⟩)
       ·rename_i p hd _;simp only[zaA]at h3;exact .inr (.inr ⟨_,_,_,_,p,hy,e2,e3,e4,hd,hps p (by rw[<-h3];simp)⟩)
       ·cases h3
    ·cases h3
   ·cases h3
  refine⟨fun k hk => ?_,fun k o ho e he => ?_,fun k j y hy hj hb => ?_,fun k j x y hy hx hj hn => ?_,fun k j x y g h hy hh hx hg hj hn => ?_,fun k j x y hy hx hj => ?_⟩
  ·have h3:=aJL (hf0.trans hk);unfold aSK at h3;split at h3
   ·rename_i o d z e1 e2;simp only[zaG,List.isEmpty_iff]at h3;refine⟨o,d,z,e1,e2,h3.1.1.1,h3.1.1.2,h3.1.2,fun m x hx hm j g hj hg he => ?_⟩;have h4:=oF h3.2 m (Array.getElem?_eq_some_iff.1 hx).1;rw[hx]at h4;simp only[zaV,Bool.not_eq_true',List.contains_eq_mem,zaP]at h4;have h5:=oF (h4.resolve_left (fun h=>h hm)) j hj;rw[hg]at h5;simp only[he,zaI,Bool.false_or]at h5;exact h5
   ·cases h3
  ·have hk:k<ops.size:=(Array.getElem?_eq_some_iff.1 ho).1;have:=oF hall k hk;rw[ho]at this;simp only[List.all_eq_true,zaK]at this;exact this e he
  ·obtain⟨_,_,_,_,_,_,h3,_⟩:=h2 k j y hy hj;exact h3 hb
  ·obtain⟨_,_,_,_,e2,_,_,h4,_,_⟩:=h2 k j y hy hj;rw[hx]at e2;simp only[zaA]at e2;subst e2;exact h4 hn
  ·obtain⟨h',x',g',e1,e2,e3,_,_,h4,_⟩:=h2 k j y hy hj;rw[hh]at e1;rw[hx]at e2;rw[hg]at e3;simp only[zaA]at e1 e2 e3;subst e1 e2 e3;exact h4 hn
  ·obtain⟨h',x',g',e1,e2,e3,_,_,_,h4⟩:=h2 k j y hy hj;rw[hx]at e2;simp only[zaA]at e2;subst e2;exact h4
 ·cases h
theorem aGD {σ:St}:∀ {ps:List (Nat×Nat)} {p:Nat×Nat},uB σ ps->p∈ps->a23 (get σ.env p.1) (get σ.env p.2)
 |(t,u)::r,p,h,hp=>by
  rcases List.mem_cons.1 hp with rfl|hp
  ·exact h.1
  ·exact aGD h.2 hp
structure Mid (X:Nat->Prop) (xv:Value) (Z:Nat->Prop) (zc:Nat->Option Obj) (fr:Fr) (G0:Gh) (w0:World) (nt:Nat) (q:Nat->Bool) (ops:Array Oper) (l:List AG) (σ:St) (S:Nat->St) (V:Nat->AV) (D:Nat->Prop) (a:Act) (w:World):Prop where
 mem:∃ G c,c<=l.length/\(∀ j,j<=c->∀ i,(S j).n<=i->(S j).H i=none)/\(∀ j g,l[j]? = some g->g.o.eff q=true->(D j↔j<c))/\jO fr G0 w0 G w (S c)/\(∀ k g t,l[k]? = some g->D k->g.d=some t->bS w G.F G.ρ (V k) (a.tmps.getD t undef)) /\
  (∀ t,¬X t->(∀ k g,l[k]? = some g->D k->g.d≠some t)->bS w G.F G.ρ (get σ.env t) (a.tmps.getD t undef)) /\
  ∀ b,Z b->b<w.heap.size/\w.heap[b]? = zc b/\¬G.F b/\∀ i o,(S c).H i≠none->G.ρ i≠some (b,o)
 closed:∀ k o,ops[k]? = some o->D k->∀ e∈fH o,D e
 dfr:a.defers=[]
 tsz:a.tmps.size=nt
 kept:∀ t,X t->a.tmps.getD t undef=xv
theorem sS {ps:List (Nat×Nat)} {B:Nat->Nat->Prop} {f0:Option Nat} (hok:OkR q ops l ps B f0) {D:Nat->Prop} (hcl:∀ k o,ops[k]? = some o->D k->∀ e∈fH o,D e):∀(k:Nat) (o:Oper),ops[k]? = some o->(∀ e∈fH o,D e)->∀ j,j<k->B k j->D j:=by
 intro k
 induction k using Nat.strongRecOn with
 |_ k ih =>
  intro o ho he j hj hb;obtain⟨e,h1,h2⟩:=hok.bits k j o ho hj hb;have hlt:=hok.a3J k o ho e h1;rcases h2 with rfl|⟨hje,h2⟩
  ·exact he _ h1
  ·have hk:k<ops.size:=(Array.getElem?_eq_some_iff.1 ho).1;have hoe:ops[e]? = some ops[e]:=Array.getElem?_eq_getElem (by omega);exact ih e hlt _ hoe (hcl e _ hoe (he e h1)) j hje h2
def a3K (nt:Nat) (G:Gh) (w:World) (H:Nat->Option AV):Fr:=⟨w,fun b=>∃ i o,H i≠none/\G.ρ i=some (b,o),G.F,nt⟩
theorem Own.a9F {fr:Fr} {G:Gh} {w:World} {σ:St} (h:Own fr G w σ):Own (a3K fr.nt G w σ.H) G w σ := ⟨h.1,⟨rfl,rfl,rfl,zaF _,fun _ _ _=>rfl,Ext.refl _ _,fun _ h=>h,fun b hb=>.inl hb,fun i b o hi hr=>.inl ⟨i,o,hi,hr⟩⟩⟩
theorem jO.a9F {fr:Fr} {G G':Gh} {w w':World} {σ τ:St} (h:Own fr G w σ) (k:jO (a3K fr.nt G w σ.H) G w G' w' τ):jO fr G w G' w' τ:=by
 have hsz:=h.2.size;refine⟨k.wf,⟨k.fr.os.trans h.2.os,k.fr.tape.trans h.2.tape,k.fr.output.trans h.2.output,Nat.le_trans hsz k.fr.size,fun b hb hS => ?_,h.2.ext.trans k.ext h.2.f0,fun b hb=>k.leF b (h.2.f0 b hb),fun b hb => ?_,fun i b o hi hr => ?_⟩,k.ext,k.leF,k.leR⟩
 ·refine(k.fr.same b (Nat.lt_of_lt_of_le hb hsz) (fun⟨i,o,hi,hr⟩ => ?_)).trans (h.2.same b hb hS);rcases h.2.loc i b o hi hr with h1|h1
  ·exact hS h1
  ·omega
 ·rcases k.fr.v9 b hb with h1|⟨i,o,hi,hr⟩|h1
  ·exact h.2.v9 b h1
  ·exact(h.2.loc i b o hi hr).elim (fun h=>.inr (.inl h)) fun h=>.inr (.inr h)
  ·exact .inr (.inr (Nat.le_trans hsz h1))
 ·rcases k.fr.loc i b o hi hr with⟨i',o',hi',hr'⟩|h1
  ·exact h.2.loc i' b o' hi' hr'
  ·exact .inr (Nat.le_trans hsz h1)
theorem jO.kept {nt:Nat} {G G':Gh} {w w':World} {H:Nat->Option AV} {τ:St} (k:jO (a3K nt G w H) G w G' w' τ) {b:Nat} {ob:Option Obj} (h:b<w.heap.size/\w.heap[b]? = ob/\¬G.F b/\∀ i o,H i≠none->G.ρ i≠some (b,o)) :
  b<w'.heap.size/\w'.heap[b]? = ob/\¬G'.F b/\∀ i o,τ.H i≠none->G'.ρ i≠some (b,o):=by
 obtain⟨h1,h2,h3,h4⟩:=h;have hS:¬(a3K nt G w H).S b:=fun⟨i,o,hi,hr⟩=>h4 i o hi hr
 refine⟨Nat.lt_of_lt_of_le h1 k.fr.size,(k.fr.same b h1 hS).trans h2,fun hf => ?_,fun i o hi hr => ?_⟩
 ·rcases k.fr.v9 b hf with h5|h5|h5
  ·exact h3 h5
  ·exact hS h5
  ·have h5:w.heap.size<=b:=h5;omega
 ·rcases k.fr.loc i b o hi hr with h5|h5
  ·exact hS h5
  ·have h5:w.heap.size<=b:=h5;omega
theorem Mid.step {ps:List (Nat×Nat)} {B:Nat->Nat->Prop} {f0:Option Nat} {X Z:Nat->Prop} {xv:Value} {zc:Nat->Option Obj} (hC:qD P C) (hq:n8 q C) (hm:ops.toList.mapM (iX z P nt ops)=some l) (hok:OkR q ops l ps B f0) (ht:Trail C l σ S V T) (hsep:uB (S l.length) ps) {fr:Fr} {G0:Gh} {w0:World} {D:Nat->Prop} {a:Act} {w:World}
  (h:Mid X xv Z zc fr G0 w0 nt q ops l σ S V D a w) {k:Nat} {o:Oper} (ho:ops[k]? = some o) (hD:¬D k) (he:∀ e∈fH o,D e) (hD1:∀ j,D j->j<ops.size) (hX1:∀ t∈o.looksAt ops,¬X t) (hX2:∀ d,o.dst=some d->¬X d)
  (hord:∀ j g,f0=some k->l[j]? = some g->j<k->g.o.eff q=true->D j) {K:Act->World->Prop} {Q:Exit->Act->World->Prop}
  (hK:∀ a' w',Mid X xv Z zc fr G0 w0 nt q ops l σ S V (fun j=>D j\/j=k) a' w'->K a' w') :
  if Region.wanted o (yielded ops a.tmps)=true then o.wp P a w K Q else K (a.put o.dst undef) w:=by
 obtain⟨G,c,hc,hfr,hce,hgo,hv,hold,hZ⟩:=h.mem;obtain⟨g,hg,htr⟩:=aSM hm ho;obtain⟨t1,t2,t3,t4⟩:=gJ htr;have hkl:k<l.length:=(List.getElem?_eq_some_iff.1 hg).1;have hbits:=sS hok h.closed k o ho he;have hnames:∀ t∈o.looksAt ops,bS w G.F G.ρ (get (S k).env t) (a.tmps.getD t undef):=by
  intro t hto;rcases ht.env hm t (k:=k) (by omega)with⟨j,gj,hj,hgj,hd,hval⟩|⟨hno,hval⟩
  ·obtain⟨oj,hoj,htrj⟩:=aEG hm hgj;have hdj:=(gJ htrj).2.2.1;rw[hval];refine hv j gj t hgj (hbits j hj (hok.lQ k j oj o ho hoj hj ?_)) hd;simp only[aF7,zaV];refine .inl ?_;rw[<-hdj,hd];simpa [aEF]using hto
  ·rw[hval];refine hold t (hX1 t hto) fun j gj hgj hDj hdj => ?_
   by_cases hjk:j<k
   ·exact hno j gj hjk hgj hdj
   ·by_cases hjk2:j=k
    ·subst hjk2;exact hD hDj
    ·obtain⟨oj,hoj,htrj⟩:=aEG hm hgj;have hdj2:=(gJ htrj).2.2.1;have hb:=hok.lQ j k o oj hoj ho (by omega) (by
      simp only[aF7,zaV];refine .inr ?_;rw[<-hdj2,hdj];simpa [aEF]using hto)
     exact hD (sS hok h.closed j oj hoj (h.closed j oj hoj hDj) k (by omega) hb)
 have hsole:∀ j gj t,l[j]? = some gj->gj.d=some t->g.d=some t->j=k:=by
  intro j gj t hgj hdj hdk;obtain⟨oj,hoj,htrj⟩:=aEG hm hgj;have hdj2:=(gJ htrj).2.2.1;rcases Nat.lt_trichotomy j k with hjk|hjk|hjk
  ·have:=hok.apart k j oj o ho hoj hjk;rw[<-hdj2,hdj,<-t3,hdk]at this;simp[uL]at this
  ·exact hjk
  ·have:=hok.apart j k o oj hoj ho hjk;rw[<-hdj2,hdj,<-t3,hdk]at this;simp[uL]at this
 obtain⟨hstp,hnext⟩:=ht.step k g hg;have key:∀(σ1 τ1:St) (c1:Nat),Stp C σ1 g (V k) τ1->σ1.env=(S k).env->σ1.hl=(S c).hl->σ1.hb=(S c).hb->σ1.n=(S c).n->c1<=l.length ->
   τ1.hl=(S c1).hl->τ1.hb=(S c1).hb->τ1.n=(S c1).n->(∀ j,j<=c1->j<=c\/((S j).H=(S c).H/\(S j).n=(S c).n)\/((S j).H=τ1.H/\(S j).n=τ1.n))->(∀ j g,l[j]? = some g->g.o.eff q=true->((D j\/j=k)↔j<c1)) ->
   if Region.wanted o (yielded ops a.tmps)=true then o.wp P a w K Q else K (a.put o.dst undef) w:=by
  intro σ1 τ1 c1 hs1 he1 hh1 hh2 hh3 hc1 hk1 hk2 hk3 hfr1 hce1;have hown1:=(hgo.same hh1 hh2 hh3).own;refine aK3 hC htr hs1 (a:=a) hown1.a9F (fun t ht2=>by rw[he1];exact hnames t ht2) fun u w' G' hgof hrel => ?_
  have hgo1:=jO.a9F hown1 hgof;refine hK _ _ ⟨⟨G',c1,hc1,fun j hj i hi => ?_,hce1, ?_, ?_, ?_,fun b hb => ?_⟩, ?_, ?_, ?_,fun t hXt => ?_⟩
  ·rcases hfr1 j hj with h1|⟨h1,h2⟩|⟨h1,h2⟩
   ·exact hfr j h1 i hi
   ·rw[h1];exact hfr c (zaF _) i (by rw[<-h2];exact hi)
   ·rw[h1];exact(hgo1.wf.free i (by rw[<-h2];exact hi)).1
  ·exact(hgo.trans hgo1).same hk1.symm hk2.symm hk3.symm
  ·intro j gj t hgj hDj hdj;by_cases hjk:j=k
   ·subst hjk;rw[hg]at hgj;simp only[zaA]at hgj;subst hgj;rw[<-t3,hdj,yI h.tsz (t4 t (by rw[<-t3];exact hdj)),if_pos rfl];exact hrel
   ·rcases hDj with hDj|hDj
    ·have hne:g.d≠some t:=fun hd=>hjk (hsole j gj t hgj hdj hd)
     have hold2:=hgo1.mono (hv j gj t hgj hDj hdj);cases hgd:o.dst with
     |none=>exact hold2
     |some d => rw[yI h.tsz (t4 d hgd),if_neg (fun e=>hne (by rw[t3,hgd,e]))];exact hold2
    ·exact absurd hDj hjk
  ·intro t hXt hno;have hne:g.d≠some t:=hno k g hg (.inr rfl);have hold2:=hgo1.mono (hold t hXt fun j gj hgj hDj=>hno j gj hgj (.inl hDj));cases hgd:o.dst with
   |none=>exact hold2
   |some d => rw[yI h.tsz (t4 d hgd),if_neg (fun e=>hne (by rw[t3,hgd,e]))];exact hold2
  ·have hH1:σ1.H=(S c).H:=by unfold St.H;rw[hh1,hh2]
   have hH2:τ1.H=(S c1).H:=by unfold St.H;rw[hk1,hk2]
   have hz:=jO.kept hgof (b:=b) (ob:=zc b) (by rw[hH1];exact hZ b hb);rw[hH2]at hz;exact hz
  ·intro j oj hoj hDj e hej;rcases hDj with hDj|rfl
   ·exact .inl (h.closed j oj hoj hDj e hej)
   ·rw[ho]at hoj;simp only[zaA]at hoj;subst hoj;exact .inl (he e hej)
  ·rw[put_defers];exact h.dfr
  ·rw[aGA];exact h.tsz
  ·cases hgd:o.dst with
   |none=>exact h.kept t hXt
   |some d => rw[yI h.tsz (t4 d hgd),if_neg (fun e=>hX2 d hgd (by rw[<-e];exact hXt))];exact h.kept t hXt
 have hnoal:∀ oj gj,AOp.eff q (AG.o gj)=true->rdC q ops oj gj=false:=by
  intro oj gj hej;unfold rdC;split
  ·rename_i e;rw[e]at hej;cases hej
  ·rename_i f args e;rw[e]at hej;simp only[AOp.eff,Bool.not_eq_true']at hej;rw[hej];rfl
  ·rename_i e;rw[e]at hej;cases hej
  ·rfl
 by_cases hld:rdC q ops o g=true
 ·
  have heff':g.o.eff q=false:=by
   cases h:g.o.eff q
   ·rfl
   ·rw[hnoal o g h]at hld;cases hld
  have hsens:g.o.aDG q=true:=by
   unfold rdC at hld;split at hld
   ·rename_i e;rw[e];rfl
   ·rename_i e;rw[e];simp[AOp.aDG]
   ·rename_i e;rw[e];rfl
   ·cases hld
  have hkeff:efN g=none:=by
   cases he:efN g with
   |none=>rfl
   |some t => unfold efN at he;split at he<;>first|(cases he;done)|(rename_i e;rw[e]at heff';cases heff')
  have hside:∀ j gj,l[j]? = some gj->gj.o.eff q=true->alC q gj=false->¬DyP ops l ps k j->(j<c↔j<k):=by
   intro j gj hgj hej hal hndy;obtain⟨oj,hoj,htrj⟩:=aEG hm hgj;have hgld:=hnoal oj gj hej;have hndy2:¬DyP ops l ps j k:=by
    rintro ⟨x,g1,y,h1,p,e1,e2,e3,e4,e5,_⟩;rw[hg]at e4;simp only[zaA]at e4;subst e4;unfold aNO at e5;rw[hkeff]at e5;split at e5
    ·rename_i e6;cases e6
    ·cases e5
   rw[<-hce j gj hgj hej];constructor
   ·intro hDj;rcases Nat.lt_trichotomy j k with hjk|hjk|hjk
    ·exact hjk
    ·subst hjk;exact absurd hDj hD
    ·have hb:=((hok.mem j k o oj g gj hoj hgj ho hg hjk (by simp[aF8,hej,hsens,yH,hal,hgld])).resolve_right (by
      rintro (h|h)
      ·exact hndy h
      ·exact hndy2 h)).resolve_right (fun h=>by rw[heff']at h;cases h.2)
     exact absurd (sS hok h.closed j oj hoj (h.closed j oj hoj hDj) k hjk hb) hD
   ·intro hjk;rcases(hok.mem k j oj o gj g ho hg hoj hgj hjk (by simp[aF8,hej,hsens,yH,hal,hgld])).resolve_right (by
      rintro (h|h)
      ·exact hndy2 h
      ·exact hndy h)with h|h
    ·exact hbits j hjk h
    ·exact hord j gj h.1 hgj hjk h.2
  have hal:∀ j gj,l[j]? = some gj->gj.o.eff q=true->(c<=j/\j<k)\/(k<=j/\j<c)->alC q gj=true\/DyP ops l ps k j:=by
   intro j gj hgj hej hj;cases hal:alC q gj
   ·by_cases hdy:DyP ops l ps k j
    ·exact .inr hdy
    ·have:=hside j gj hgj hej hal hdy;omega
   ·exact .inl rfl
  have hsame1:∀ i,G.ρ i≠none->(∀ j,DyP ops l ps k j->∃ gj t,l[j]? = some gj/\efN gj=some t/\rC (get (S j).env t)≠some i)->(S k).H i=none\/(S c).H i=(S k).H i:=by
   intro i hi hdy;have hcase:∀ j gj,l[j]? = some gj->alC q gj=true\/DyP ops l ps k j->alC q gj=true\/∃ t,efN gj=some t/\rC (get (S j).env t)≠some i:=by
    intro j gj hgj h1;refine h1.imp id fun h1 => ?_
    obtain⟨gj',t,h2,h3,h4⟩:=hdy j h1;rw[hgj]at h2;simp only[zaA]at h2;subst h2;exact⟨t,h3,h4⟩
   have hic:i<(S c).n:=by
    rcases Nat.lt_or_ge i (S c).n with h6|h6
    ·exact h6
    ·exact absurd (hgo.wf.free i h6).2 hi
   rcases Nat.le_total c k with hck|hck
   ·exact .inr (ht.wJ hq hic hck (by omega) fun j gj h1 h2 h3 h4=>hcase j gj h3 (hal j gj h3 h4 (.inl ⟨h1,h2⟩))).1.symm
   ·rcases Nat.lt_or_ge i (S k).n with h8|h8
    ·exact .inr (ht.wJ hq h8 hck hc fun j gj h1 h2 h3 h4=>hcase j gj h3 (hal j gj h3 h4 (.inr ⟨h1,h2⟩))).1
    ·exact .inl (hfr k hck i h8)
  have hnody:ldN g=none->∀ j,¬DyP ops l ps k j:=by
   rintro hld2 j ⟨x,g1,y,h1,p,e1,e2,e3,e4,e5,_⟩;rw[hg]at e2;simp only[zaA]at e2;subst e2;unfold aNO at e5;rw[hld2]at e5;split at e5
   ·rename_i e6 _;cases e6
   ·cases e5
  have hkk:Stp C ⟨(S k).env,(S c).hl,(S c).hb,(S c).n⟩ g (V k) ⟨(S k).env,(S c).hl,(S c).hb,(S c).n⟩:=by
   obtain⟨d,ao,gd⟩:=g;unfold rdC at hld;split at hld
   ·rename_i ag n i e;simp only at e;subst e;generalize V k=vk at *;generalize T k=τk at *;clear hnext;cases hstp with
    |op hp hs =>
     refine .op (Pass.env rfl hp) ?_;have hi:=hnames i (by simpa using hld);simp only[aX,St.ev]at hs ⊢;generalize hgk:get (S k).env i=a at hs hi ⊢;have hload:∀ u,(S k).oQ a=some u->St.oQ ⟨(S k).env,(S c).hl,(S c).hb,(S c).n⟩ a=some u:=by
      intro u hu;cases a<;>try exact hu
      rename_i id path off;obtain⟨b',o',h4,h5⟩:=hi.oL;have hapart:∀ j,DyP ops l ps k j->∃ gj t,l[j]? = some gj/\efN gj=some t/\rC (get (S j).env t)≠some id:=by
       rintro j ⟨x,g1,y,h1,p,e1,e2,e3,e4,e5,e6⟩;rw[hg]at e2;simp only[zaA]at e2;subst e2;unfold aNO at e5;split at e5
       ·rename_i i' a' hl1 hl2;simp only[ldN,zaA]at hl1;subst hl1;split at e5
        ·rename_i hcnd;simp only[zaG]at hcnd;simp only[zaA]at e5;subst e5;refine⟨h1,a',e4,hl2, ?_⟩;have hs1:=aGD hsep e6;have hjl:j<=l.length:=Nat.le_of_lt (List.getElem?_eq_some_iff.1 e4).1;rw[ht.stay hm hcnd.1.2 (Nat.le_of_lt hkl) (zaF _),ht.stay hm hcnd.2 hjl (zaF _),hgk]at hs1;exact hs1 id rfl
        ·cases e5
       ·cases e5
      rcases hsame1 id (by rw[h4];simp) hapart with h6|h6
      ·simp only[St.oQ,h6]at hu;cases hu
      ·show(match (S c).H id with|some t=>_|none=>_)=_;rw[h6];exact hu
     cases hl:(S k).oQ a with
     |none=>rw[hl]at hs;cases hs
     |some u =>
      rw[hl]at hs;rw[hload u hl];simp only at hs ⊢;split at hs
      ·rename_i hc;simp only[zaA,zaJ]at hs;rw[if_pos hc,hs.1]
      ·cases hs
    |skip hp=>exact .skip (Pass.env rfl hp)
   ·rename_i f args e;simp only at e;subst e;simp only[zaG,List.all_eq_true]at hld;generalize V k=vk at *;generalize T k=τk at *;clear hnext;cases hstp with
    |op hp hs=>simp[aX]at hs
    |call hp hc2 =>
     have h7:=hq.2.2 f _ _ _ _ hc2 hld.1 ⟨(S k).env,(S c).hl,(S c).hb,(S c).n⟩ G w _ hgo.wf (fun a ha => ?_) (fun i hi=>hsame1 i hi fun j hj=>absurd hj (hnody rfl j))
     ·rw[<-aXV (σ:=S k) (hl:=(S c).hl) (hb:=(S c).hb) (n:=(S c).n)]at h7;exact .call (σ:=⟨(S k).env,(S c).hl,(S c).hb,(S c).n⟩) (τ:=⟨(S k).env,(S c).hl,(S c).hb,(S c).n⟩) (Pass.env rfl hp) h7
     ·obtain⟨y,hy,rfl⟩:=List.mem_map.1 ha;have h8:=hld.2 y hy;cases y with
      |t i=>exact .inr ⟨_,hnames i (by simpa using h8)⟩
      |c v=>exact .inl h8
    |skip hp=>exact .skip (Pass.env rfl hp)
   ·rename_i f args e;simp only at e;subst e;generalize V k=vk at *;generalize T k=τk at *;clear hnext;cases hstp with
    |op hp hs=>simp[aX]at hs
    |lO hp hc2=>exact .lO (σ:=⟨(S k).env,(S c).hl,(S c).hb,(S c).n⟩) (Pass.env rfl hp) hc2
    |skip hp=>exact .skip (Pass.env rfl hp)
   ·cases hld
  refine key ⟨(S k).env,(S c).hl,(S c).hb,(S c).n⟩ ⟨(S k).env,(S c).hl,(S c).hb,(S c).n⟩ c hkk rfl rfl rfl rfl hc rfl rfl rfl (fun j hj=>.inl hj) fun j gj hgj hej => ?_
  rw[<-hce j gj hgj hej];constructor
  ·rintro (h1|rfl)
   ·exact h1
   ·rw[hg]at hgj;simp only[zaA]at hgj;subst hgj;rw[heff']at hej;cases hej
  ·exact .inl
 by_cases hsens:g.o.aDG q=true
 ·
  have hld':rdC q ops o g=false:=by simpa using hld
  have hexc:∀ oj gj,AOp.eff q (AG.o gj)=true->yH q ops o g oj gj=false/\yH q ops oj gj o g=false:=by intro oj gj hej;simp[yH,hld',hnoal oj gj hej]
  have hnodyA:∀ j gj oj,l[j]? = some gj->ops[j]? = some oj->gj.o.eff q=true->¬(DyP ops l ps k j\/DyP ops l ps j k):=by
   rintro j gj oj hgj hoj hej (⟨x,g1,y,h1,p,e1,e2,e3,e4,e5,_⟩|⟨x,g1,y,h1,p,e1,e2,e3,e4,e5,_⟩)
   ·rw[hg]at e2;rw[ho]at e1;simp only[zaA]at e1 e2;subst e1 e2;unfold aNO at e5;split at e5
    ·rename_i i' a' hl1 hl2;split at e5
     ·rename_i hcnd;simp only[zaG]at hcnd;unfold ldN at hl1;split at hl1
      ·rename_i hg2;simp only[zaA]at hl1;subst hl1;unfold rdC at hld';rw[hg2]at hld';simp only at hld';rw[hcnd.1.1.1]at hld';cases hld'
      ·cases hl1
     ·cases e5
    ·cases e5
   ·rw[hgj]at e2;simp only[zaA]at e2;subst e2;unfold aNO at e5;split at e5
    ·rename_i i' a' hl1 hl2;unfold ldN at hl1;split at hl1
     ·rename_i hg2;rw[hg2]at hej;cases hej
     ·cases hl1
    ·cases e5
  have hside:∀ j gj,l[j]? = some gj->gj.o.eff q=true->(j<c↔j<k):=by
   intro j gj hgj hej;obtain⟨oj,hoj,htrj⟩:=aEG hm hgj;rw[<-hce j gj hgj hej];constructor
   ·intro hDj;rcases Nat.lt_trichotomy j k with hjk|hjk|hjk
    ·exact hjk
    ·subst hjk;exact absurd hDj hD
    ·rcases(hok.mem j k o oj g gj hoj hgj ho hg hjk (by simp[aF8,hej,hsens,hexc oj gj hej])).resolve_right (hnodyA j gj oj hgj hoj hej)with hb|hb
     ·exact absurd (sS hok h.closed j oj hoj (h.closed j oj hoj hDj) k hjk hb) hD
     ·have h1:=(hce j gj hgj hej).1 hDj;exact absurd ((hce k g hg hb.2).2 (by omega)) hD
   ·intro hjk;rcases(hok.mem k j oj o gj g ho hg hoj hgj hjk (by simp[aF8,hej,hsens,hexc oj gj hej])).resolve_right (fun h=>hnodyA j gj oj hgj hoj hej h.symm)with hb|hb
    ·exact hbits j hjk hb
    ·exact hord j gj hb.1 hgj hjk hb.2
  have hsame:(S k).hl=(S c).hl/\(S k).hb=(S c).hb/\(S k).n=(S c).n:=by
   rcases Nat.le_total c k with hck|hck
   ·exact ht.heap hq hck (by omega) fun j gj h1 h2 h3=>by
     cases hej:gj.o.eff q
     ·rfl
     ·have:=(hside j gj h3 hej).2 h2;omega
   ·obtain⟨i1,i2,i3⟩:=ht.heap hq hck hc fun j gj h1 h2 h3=>by
     cases hej:gj.o.eff q
     ·rfl
     ·have:=(hside j gj h3 hej).1 h2;omega
    exact⟨i1.symm,i2.symm,i3.symm⟩
  by_cases heff:g.o.eff q=true
  ·have hck:c<=k:=by
    have:=hce k g hg heff;have h2:¬k<c:=fun h=>hD (this.2 h)
    omega
   refine key (S k) (T k) (k+1) hstp rfl hsame.1 hsame.2.1 hsame.2.2 (by omega) ?_ ?_ ?_ ?_ ?_
   ·rw[hnext,aAL]
   ·rw[hnext,aAM]
   ·rw[hnext,aGB]
   ·intro j hj;by_cases hjc:j<=c
    ·exact .inl hjc
    ·by_cases hjk:j=k+1
     ·subst hjk;refine .inr (.inr ⟨?_,by rw[hnext,aGB]⟩);rw[hnext];unfold St.H;rw[aAL,aAM]
     ·have:=ht.heap hq (a:=c) (b:=j) (by omega) (by omega) fun j' gj' h1 h2 h3=>by
       cases hej:gj'.o.eff q
       ·rfl
       ·have:=(hside j' gj' h3 hej).2 (by omega);omega
      exact .inr (.inl ⟨by unfold St.H;rw[this.1,this.2.1],this.2.2⟩)
   ·intro j gj hgj hej;rw[hce j gj hgj hej,hside j gj hgj hej];omega
  ·have heff':g.o.eff q=false:=by simpa using heff
   obtain⟨i1,i2,i3⟩:=hstp.heap hq heff';refine key (S k) (T k) c hstp rfl hsame.1 hsame.2.1 hsame.2.2 hc (i1.trans hsame.1) (i2.trans hsame.2.1) (i3.trans hsame.2.2) (fun j hj=>.inl hj) fun j gj hgj hej => ?_
   rw[<-hce j gj hgj hej];constructor
   ·rintro (h1|rfl)
    ·exact h1
    ·rw[hg]at hgj;simp only[zaA]at hgj;subst hgj;exact absurd hej heff
   ·exact .inl
 ·have hsens':g.o.aDG q=false:=by simpa using hsens
  have heff':g.o.eff q=false:=by simp only[AOp.aDG,Bool.or_eq_false_iff]at hsens';exact hsens'.1
  refine key ⟨(S k).env,(S c).hl,(S c).hb,(S c).n⟩ ⟨(S k).env,(S c).hl,(S c).hb,(S c).n⟩ c (hstp.pure hsens' _ _ _) rfl rfl rfl rfl hc rfl rfl rfl (fun j hj=>.inl hj) fun j gj hgj hej => ?_
  rw[<-hce j gj hgj hej];constructor
  ·rintro (h1|rfl)
   ·exact h1
   ·rw[hg]at hgj;simp only[zaA]at hgj;subst hgj;rw[heff']at hej;cases hej
  ·exact .inl
mutual
theorem bR.flat {w w':World} {F F':Nat->Prop} {ρ ρ':Nat->Option Loc}:∀ {t:AV} {cs:List Value},t.flat=true->bR w F ρ t cs->bR w' F' ρ' t cs
 |.sc _,_,_,.sc h=>.sc h
 |.agg _ _,_,hf,.agg h hn=>.agg (dU.flat (by simpa [AV.flat]using hf) h) hn
 |.arr _ _ _,_,hf,.arr h hn=>.arr (eH.flat (by simpa [AV.flat]using hf) h) hn
 |.fro _ _ [],_,_,.iV h=>.iV h
 |.fro _ _ [],_,_,.fro h1 h2 h3 h4 h5=>by cases h1;exact .iV fun h=>h4 h
theorem dU.flat {w w':World} {F F':Nat->Prop} {ρ ρ':Nat->Option Loc}:∀ {ts:List AV} {cs:List Value},AV.aF9 ts=true->dU w F ρ ts cs->dU w' F' ρ' ts cs
 |[],_,_,.nil=>.nil
 |t::ts,_,hf,.cons h1 h2=>by simp only[AV.aF9,zaG]at hf;exact .cons (bR.flat hf.1 h1) (dU.flat hf.2 h2)
theorem eH.flat {w w':World} {F F':Nat->Prop} {es:Nat}:∀ {ts:List AV} {cs:List Value},AV.aF9 ts=true->eH w F es ts cs->eH w' F' es ts cs
 |[],_,_,.nil=>.nil
 |t::ts,_,hf,.cons h1 h2 h3=>by simp only[AV.aF9,zaG]at hf;exact .cons (bR.flat hf.1 h1) h2 (eH.flat hf.2 h3)
end
structure Early (fr:Fr) (b o0:Nat) (z:AV) (ob:Option Obj):Prop where
 new:fr.w0.heap.size<=b
 cells:∃(w1:World) (F1:Nat->Prop) (cs:List Value) (cur:Array Value) (e:TypeId),w1.heap[b]? = ob/\ob=some (Obj.cells cur e (0,0))/\Reads w1 b o0 cs/\bR w1 F1 gF z cs
theorem Mid.early {ps:List (Nat×Nat)} {B:Nat->Nat->Prop} {f0:Option Nat} (hC:qD P C) (hm:ops.toList.mapM (iX z P nt ops)=some l) (hok:OkR q ops l ps B f0) (ht:Trail C l σ S V T) {fr:Fr} {G0:Gh} {w0:World} {D:Nat->Prop} {a:Act} {w:World}
  (h:Mid (fun _=>False) undef (fun _=>False) (fun _=>none) fr G0 w0 nt q ops l σ S V D a w) {k:Nat} {o:Oper} {d:Option Nat} {zv:AV} (ho:ops[k]? = some o) (hg:l[k]? = some ⟨d,.box (.c zv),none⟩) (hflat:zv.flat=true) (hlook:o.looksAt ops=[]) (hD:¬D k) {K:Act->World->Prop} {Q:Exit->Act->World->Prop}
  (hK:∀ a' w' b o0 ob,Early fr b o0 zv ob->Mid (fun t=>d=some t) (.pointer (some ⟨b,o0,none⟩)) (fun b'=>b'=b) (fun _=>ob) fr G0 w0 nt q ops l σ S V D a' w'->K a' w') :
  if Region.wanted o (yielded ops a.tmps)=true then o.wp P a w K Q else K (a.put o.dst undef) w:=by
 obtain⟨G,c,hc,hfr,hce,hgo,hv,hold,_⟩:=h.mem;obtain⟨g',hg',htr⟩:=aSM hm ho;rw[hg]at hg';simp only[zaA]at hg';subst hg';obtain⟨t1,t2,t3,t4⟩:=gJ htr;simp only at t3;obtain⟨hstp,hnext⟩:=ht.step k _ hg;have hst:zv.storable=true:=by
  generalize V k=vk at hstp;generalize T k=τk at hstp;cases hstp with
  |op hp hs =>
   simp only[aX]at hs;split at hs
   ·rename_i h1;exact h1
   ·cases hs
  |skip hp=>simp[Pass]at hp
 have hs1:Stp C (S c) ⟨d,.box (.c zv),none⟩ (.ptr (S c).n [] 0) ((S c).new zv):=.op (by simp[Pass]) (by simp only[aX];rw[if_pos (show((S c).ev (.c zv)).storable=true from hst)];rfl);have hsole:∀ j gj t,l[j]? = some gj->gj.d=some t->d=some t->j=k:=by
  intro j gj t hgj hdj hdk;obtain⟨oj,hoj,htrj⟩:=aEG hm hgj;have hdj2:=(gJ htrj).2.2.1;rcases Nat.lt_trichotomy j k with hjk|hjk|hjk
  ·have:=hok.apart k j oj o ho hoj hjk;rw[<-hdj2,hdj,<-t3,hdk]at this;simp[uL]at this
  ·exact hjk
  ·have:=hok.apart j k o oj hoj ho hjk;rw[<-hdj2,hdj,<-t3,hdk]at this;simp[uL]at this
 have hown:=hgo.own
 let frE:Fr:=⟨w,fun _=>False,G.F,fr.nt⟩
 let σE:St:=⟨(S c).env,[],fun _=>none,(S c).n⟩
 have hownE:Own frE G w σE:=⟨⟨fun i hi=>⟨rfl,(hgo.wf.free i hi).2⟩,hgo.wf.fsz,fun i t hi=>(by cases hi),fun i j b o o' hi=>absurd rfl hi⟩,⟨rfl,rfl,rfl,zaF _,fun _ _ _=>rfl,Ext.refl _ _,fun _ h=>h,fun b hb=>.inl hb,fun i b o hi=>absurd rfl hi⟩⟩;have hsE:Stp C σE ⟨d,.box (.c zv),none⟩ (.ptr (S c).n [] 0) (σE.new zv):=.op (by simp[Pass]) (by simp only[aX];rw[if_pos (show(σE.ev (.c zv)).storable=true from hst)];rfl);refine aK3 hC htr hsE (a:=a) hownE (fun t ht2=>by rw[hlook]at ht2;cases ht2) fun u w' G' hgo1 hrel => ?_
 obtain⟨b,o0,hρ,rfl⟩:=hrel.oL;have hH:(σE.new zv).H (S c).n=some zv:=by show look (((S c).n,some zv)::[]) _ _=_;simp[look]
 rcases hgo1.wf.blk (S c).n zv hH with⟨b',o',cs,cur,e,g1,g2,g3,g4,g5⟩|g1
 case inr=>rw[hρ]at g1;cases g1.1
 rw[hρ]at g1;simp only[zaA,zaJ]at g1;obtain⟨rfl,rfl⟩:=g1;have hbn:w.heap.size<=b:=(hgo1.fr.loc (S c).n b o0 (by rw[hH];simp) hρ).resolve_left (fun h=>h);have hbel:Below w.heap.size w w':=⟨hgo1.fr.os,hgo1.fr.tape,hgo1.fr.output,hgo1.fr.size,fun k hk=>hgo1.fr.same k hk (fun h=>h)⟩;have hnx:jO fr G w ⟨G.ρ,G.F⟩ w' (S c):=Nxt.below hown.1 hown.2 hbel (fun _ h=>h) fun b hb=>⟨.inl hb,Nat.lt_of_lt_of_le (hown.1.fsz b hb) hgo1.fr.size⟩
 have rB:∀ t,(a.put o.dst (.pointer (some ⟨b,o0+0,none⟩))).tmps.getD t undef=if d=some t then .pointer (some ⟨b,o0+0,none⟩)else a.tmps.getD t undef:=fun t=>by
  rw[<-t3];cases hd:d with
  |none=>simp[Act.put]
  |some d' =>
   rw[yI h.tsz (t4 d' (by rw[<-t3,hd]))];by_cases e:t=d'
   ·subst e;simp
   ·rw[if_neg e,if_neg (fun h=>e (by simpa using h.symm))]
 refine hK _ _ b o0 _ ⟨Nat.le_trans hown.2.size hbn,w',G'.F,cs,cur,e,rfl,g3,g4,g2.flat hflat⟩ ⟨⟨G,c,hc,hfr,hce,hgo.trans hnx,fun k' g' t hg' hD' hd' => ?_,fun t hX hno => ?_,fun b2 hb2 => ?_⟩,h.closed,by rw[put_defers];exact h.dfr,by rw[aGA];exact h.tsz,fun t hX=>by rw[rB,if_pos hX];rfl⟩
 ·rw[rB,if_neg (fun e=>hD (by rw[<-hsole k' g' t hg' hd' e];exact hD'))];exact hnx.mono (hv k' g' t hg' hD' hd')
 ·rw[rB,if_neg hX];exact hnx.mono (hold t (fun h=>h) hno)
 ·subst hb2;refine⟨lt_of_block g3,rfl,fun hF => ?_,fun i o hi hr => ?_⟩
  ·have:=hown.1.fsz b2 hF;omega
  ·rcases hown.1.blk i _ (Option.ne_none_iff_exists'.1 hi).choose_spec with⟨b3,o3,cs3,cur3,e3,k1,k2,k3,k4⟩|⟨k1,_⟩
   ·rw[hr]at k1;simp only[zaA,zaJ]at k1;have:=lt_of_block k3;omega
   ·rw[hr]at k1;cases k1
theorem Mid.bHV {ps:List (Nat×Nat)} {B:Nat->Nat->Prop} {f0:Option Nat} (hq:n8 q C) (hm:ops.toList.mapM (iX z P nt ops)=some l) (hok:OkR q ops l ps B f0) (ht:Trail C l σ S V T) {fr:Fr} {G0:Gh} {w0:World} {D:Nat->Prop} {a:Act} {w:World} {b o0:Nat} {ob:Option Obj} {k:Nat} {o:Oper} {d:Option Nat} {zv:AV}
  (h:Mid (fun t=>d=some t) (.pointer (some ⟨b,o0,none⟩)) (fun b'=>b'=b) (fun _=>ob) fr G0 w0 nt q ops l σ S V D a w) (he:Early fr b o0 zv ob) (ho:ops[k]? = some o) (hg:l[k]? = some ⟨d,.box (.c zv),none⟩) (hflat:zv.flat=true) (hedge:fH o=[]) (hD:¬D k)
  (hall:∀ j g,j<k->l[j]? = some g->g.o.eff q=true->D j):Mid (fun _=>False) undef (fun _=>False) (fun _=>none) fr G0 w0 nt q ops l σ S V (fun j=>D j\/j=k) a w:=by
 obtain⟨G,c,hc,hfr,hce,hgo,hv,hold,hZ⟩:=h.mem;obtain⟨z1,z2,z3,z4⟩:=hZ b rfl;have hkl:k<l.length:=(List.getElem?_eq_some_iff.1 hg).1;have hck:c<=k:=by
  have:=hce k _ hg rfl;have h2:¬k<c:=fun h=>hD (this.2 h)
  omega
 have hheap:∀ j,c<=j->j<=k->(S j).hl=(S c).hl/\(S j).hb=(S c).hb/\(S j).n=(S c).n:=fun j h1 h2 =>
  ht.heap hq h1 (by omega) fun j' gj h3 h4 h5=>by
   cases hej:gj.o.eff q
   ·rfl
   ·have:=(hce j' gj h5 hej).1 (hall j' gj (by omega) h5 hej);omega
 obtain⟨hk1,hk2,hk3⟩:=hheap k hck (zaF _);have hkH:(S k).H=(S c).H:=by unfold St.H;rw[hk1,hk2]
 obtain⟨hstp,hnext⟩:=ht.step k _ hg;have hVT:V k=.ptr (S k).n [] 0/\T k=(S k).new zv:=by
  generalize V k=vk at hstp;generalize T k=τk at hstp;cases hstp with
  |op hp hs =>
   simp only[aX]at hs;split at hs
   ·simp only[zaA,zaJ]at hs;exact⟨hs.1.symm,hs.2.symm⟩
   ·cases hs
  |skip hp=>simp[Pass]at hp
 have hn:=hgo.wf.free (S c).n (zaF _);have hSn:(S (k+1)).n=(S c).n+1:=by rw[hnext,aGB,hVT.2];show(S k).n+1=_;rw[hk3]
 have hSH:(S (k+1)).H=upd (S c).H (S c).n (some zv):=by
  rw[hnext];have:((T k).put d (V k)).H=(T k).H:=by unfold St.H;rw[aAL,aAM]
  rw[this,hVT.2];funext j;show look (((S k).n,some zv)::(S k).hl) (S k).hb j=_;simp only[look,upd,hk3];by_cases hj:j=(S c).n
  ·rw[if_pos hj,if_pos hj]
  ·rw[if_neg hj,if_neg hj];show(S k).H j=_;rw[hkH]
 have hle:∀ i l,G.ρ i=some l->upd G.ρ (S c).n (some (b,o0)) i=some l:=fun i l hi=>by rw[bZ _ _ (fun e=>by rw[e,hn.2]at hi;cases hi)];exact hi
 obtain⟨w1,F1,cs,cur,e,e1,e2,e3,e4⟩:=he.cells;have hwb:w.heap[b]? = some (Obj.cells cur e (0,0)):=z2.trans e2;have hgo2:jO fr G w ⟨upd G.ρ (S c).n (some (b,o0)),G.F⟩ w (S (k+1)):=by
  unfold jO;rw[hSH];refine⟨⟨fun i hi => ?_,hgo.wf.fsz,fun i t hi => ?_,fun i j b1 o1 o2 hi hj hri hrj => ?_⟩,⟨hgo.fr.os,hgo.fr.tape,hgo.fr.output,hgo.fr.size,hgo.fr.same,hgo.fr.ext,hgo.fr.f0,hgo.fr.v9,fun i b1 o1 hi hri => ?_⟩,Ext.refl _ _,fun _ h=>h,hle⟩
  ·have hi:(S (k+1)).n<=i:=hi;rw[hSn]at hi;have hne:i≠(S c).n:=by omega
   have:=hgo.wf.free i (by show(S c).n<=i;omega);rw[bZ _ _ hne];exact⟨this.1,by show upd G.ρ _ _ i=none;rw[bZ _ _ hne];exact this.2⟩
  ·by_cases hin:i=(S c).n
   ·subst hin;rw[bU]at hi;simp only[zaA]at hi;subst hi;exact .inl ⟨b,o0,cs,cur,e,by show upd G.ρ _ _ _=_;rw[bU],e4.flat hflat,hwb,e3.sO (by rw[hwb,e1,e2]),z3⟩
   ·rw[bZ _ _ hin]at hi;rcases hgo.wf.blk i t hi with⟨b1,o1,cs1,cur1,e1',k1,k2,k3,k4,k5⟩|k1
    ·exact .inl ⟨b1,o1,cs1,cur1,e1',hle _ _ k1,k2.mono (Ext.refl _ _) (fun _ h=>h) hle,k3,k4,k5⟩
    ·exact .inr ⟨by show upd G.ρ _ _ _=_;rw[bZ _ _ hin];exact k1.1,k1.2⟩
  ·change upd G.ρ _ _ i=_ at hri;change upd G.ρ _ _ j=_ at hrj;by_cases hin:i=(S c).n
   ·by_cases hjn:j=(S c).n
    ·rw[hin,hjn]
    ·rw[hin,bU]at hri;rw[bZ _ _ hjn]at hrj hj;simp only[zaA,zaJ]at hri;rw[<-hri.1]at hrj;exact absurd hrj (z4 j o2 hj)
   ·rw[bZ _ _ hin]at hri hi;by_cases hjn:j=(S c).n
    ·rw[hjn,bU]at hrj;simp only[zaA,zaJ]at hrj;rw[<-hrj.1]at hri;exact absurd hri (z4 i o1 hi)
    ·rw[bZ _ _ hjn]at hrj hj;exact hgo.wf.dis i j b1 o1 o2 hi hj hri hrj
  ·change upd G.ρ _ _ i=_ at hri;by_cases hin:i=(S c).n
   ·rw[hin,bU]at hri;simp only[zaA,zaJ]at hri;rw[<-hri.1];exact .inr he.new
   ·rw[bZ _ _ hin]at hri hi;exact hgo.fr.loc i b1 o1 hi hri
 refine⟨⟨_,k+1,hkl,fun j hj i hi => ?_,fun j gj hgj hej => ?_,hgo.trans hgo2,fun k' g' t hg' hD' hd' => ?_,fun t _ hno => ?_,fun b hb=>hb.elim⟩,fun k' o' ho' hD' e' he' => ?_,h.dfr,h.tsz,fun t ht=>ht.elim⟩
 ·by_cases hjc:j<=c
  ·exact hfr j hjc i hi
  ·by_cases hjk:j=k+1
   ·subst hjk;exact(hgo2.wf.free i hi).1
   ·have:=hheap j (by omega) (by omega);have hH:(S j).H=(S c).H:=by unfold St.H;rw[this.1,this.2.1]
    rw[hH];exact hfr c (zaF _) i (by rw[<-this.2.2];exact hi)
 ·constructor
  ·rintro (h1|rfl)
   ·have:=(hce j gj hgj hej).1 h1;omega
   ·omega
  ·intro h1;by_cases hjk:j=k
   ·exact .inr hjk
   ·exact .inl (hall j gj (by omega) hgj hej)
 ·rcases hD' with hD'|rfl
  ·exact hgo2.mono (hv k' g' t hg' hD' hd')
  ·rw[hg]at hg';simp only[zaA]at hg';subst hg';rw[hVT.1,h.kept t hd',hk3];exact .one (.ptr (o:=o0) (by show upd G.ρ _ _ _=_;rw[bU])) rfl
 ·exact hgo2.mono (hold t (fun hX=>hno k _ hg (.inr rfl) hX) fun j gj hgj hDj=>hno j gj hgj (.inl hDj))
 ·rcases hD' with hD'|rfl
  ·exact .inl (h.closed k' o' ho' hD' e' he')
  ·rw[ho]at ho';simp only[zaA]at ho';subst ho';rw[hedge]at he';cases he'
theorem Mid.done (hq:n8 q C) (hm:ops.toList.mapM (iX z P nt ops)=some l) (ht:Trail C l σ S V T) {fr:Fr} {G0:Gh} {w0:World} {D:Nat->Prop} {a:Act} {w:World}
  {X Z:Nat->Prop} {xv:Value} {zc:Nat->Option Obj} (hX:∀ t,¬X t) (h:Mid X xv Z zc fr G0 w0 nt q ops l σ S V D a w) (hall:∀ k,k<ops.size->D k):Sim fr G0 w0 nt (S l.length) a w:=by
 obtain⟨G,c,hc,_,hce,hgo,hv,hold,_⟩:=h.mem;have hll:l.length=ops.size:=by rw[wI hm];simp
 obtain⟨i1,i2,i3⟩:=ht.heap hq hc (zaF _) fun j gj h1 h2 h3=>by
  cases hej:gj.o.eff q
  ·rfl
  ·have:=(hce j gj h3 hej).1 (hall j (by omega));omega
 refine⟨G,hgo.same i1 i2 i3,fun t => ?_,h.dfr,h.tsz⟩;rcases ht.env hm t (k:=l.length) (zaF _)with⟨j,gj,hj,hgj,hd,hval⟩|⟨hno,hval⟩
 ·rw[hval];exact hv j gj t hgj (hall j (by omega)) hd
 ·rw[hval];exact hold t (hX t) fun j gj hgj _ hd=>hno j gj (List.getElem?_eq_some_iff.1 hgj).1 hgj hd
end
end Go.Ra
