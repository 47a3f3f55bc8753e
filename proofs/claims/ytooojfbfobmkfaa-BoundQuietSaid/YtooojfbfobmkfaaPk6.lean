/- Texts put together. -/
import Derived.Test.YtooojfbfobmkfaaPk5
noncomputable section
namespace Go.Proofs.Ytooojfbfobmkfaa
open Go.Ra
set_option linter.unusedVariables false
set_option linter.unusedSimpArgs false
theorem aJ2 {t : Int} {l r : List Slot} : opn t (l ++ r) = opn t l + opn t r:=List.countP_append
theorem aJ3 {t a : Int} : opn t [(⟨a,false,0⟩ : Slot)] = if a = t then 1 else 0:=by
 unfold opn xO
 by_cases h : a = t <;> simp [h]
theorem a3C {t : Int} {q : Req} : pnd t [q] = if aAX t q then 1 else 0:=by
 unfold pnd
 cases h : aAX t q <;> simp [h]
theorem a3D {l : List Entry} {e : Entry} (h : e.known = false) : knS (l ++ [e]) = knS l:=by
 unfold knS
 cases l with
 | nil => simp [ix,h]
 | cons a l => simp [ix]
section
variable {c : Cfg} {p : Prog} {o : Nat → Int} {s : Split} (hs : Spl p o s) {D : Nat → Bool} {n k : Bool → Nat} {x : Stt}
theorem Cnt.aTT {hA hE : List (Nat × Cell)} (h : Cnt c hA hE x) {z : Nat × Cell} {y : Stt} (a1 : y.aeq.length = x.aeq.length + (if z.2.kind = 5 then 1 else 0)) (a2 : y.ldq.length = x.ldq.length + (if z.2.kind = 3 then 1 else 0)) (a3 : y.saq.map Entry.step = x.saq.map Entry.step ++ (if z.2.kind = 4 then [(z.1 : Int)] else [])) (a4 : knS y.saq = knS x.saq ∧ y.writes = x.writes ∧ y.sdq = x.sdq ∧ y.e = x.e)
  (a5 : ∀ t,opn t y.ldq ≤ pnd t y.table) (a6 : ∀ r : Nat,1 ≤ r → r ≤ 15 → y.a.ready r < 0 → ∃ q ∈ y.table,q.store = false ∧ q.reg = (r : Int)) (a7 : ∀ q ∈ y.table,0 ≤ q.left ∧ q.left ≤ c.lat) : Cnt c (hA ++ [z]) hE y:=by
 obtain ⟨q1,q2,⟨pre,q3,q3'⟩,q4,q5,q6,q7,q8⟩:=h
 have hz : ∀ K : Int,kc K (hA ++ [z]) = kc K hA + if z.2.kind = K then 1 else 0:=fun K => by rw [aYR];congr 1;exact aYS
 refine ⟨by rw [hz];omega,by rw [hz];omega,⟨pre, ?_,by rw [a4.2.1];exact q3'⟩,by rw [a4.1,a4.2.1,a4.2.2.1];exact q4,a5,a6,by rw [a4.2.2.2];exact q7,a7⟩
 rw [mR,List.map_append,q3,a3,List.append_assoc]
 congr 2
 rw [show stK 4 [z] = if z.2.kind = 4 then [z.1] else [] from pP]
 split <;> rfl
include hs
theorem Inv.bCO (h : Inv c p o D n k x) {B j : Nat} (hp : PR p o D false x.a.pos (n false) (k false) B j) (hk : k false < (cel p o false (rho p D (n false))).length) (hj : cV p B + j < dL p B) (hn : n false ≤ 1152921504606846976) (hh : x.a.halted = false) (hcy : 0 ≤ x.aG ∧ x.aG ≤ 2000000000000) (hlat : 1 ≤ c.lat) :
  ∃ D' m i,m ≤ n false + 1 ∧ Inv c p o D' (cW n false m) (cW k false i) (rN c s x (e8 (j : Int) (ix (cel p o false (rho p D (n false))) (k false))) (n false : Int)):=by
 have hi : rho p D (n false) < p.code.length:=by have:=eP hp.hb;have:=hp.pc;omega
 have same : ∀ y : Stt,Inv c p o D n k y → ∃ D' m i,m ≤ n false + 1 ∧ Inv c p o D' (cW n false m) (cW k false i) y:=fun y hy => by
  refine ⟨D,n false,k false,by omega, ?_⟩
  rw [show cW n false (n false) = n by funext e;cases e <;> rfl,show cW k false (k false) = k by funext e;cases e <;> rfl]
  exact hy
 have onn : ∀ y : Stt,Inv c p o D n (cW k false (k false + 1)) y → ∃ D' m i,m ≤ n false + 1 ∧ Inv c p o D' (cW n false m) (cW k false i) y:=fun y hy => by
  refine ⟨D,n false,k false + 1,by omega, ?_⟩
  rw [show cW n false (n false) = n by funext e;cases e <;> rfl]
  exact hy
 generalize hcell : ix (cel p o false (rho p D (n false))) (k false) = cell
 obtain ⟨_,_,_,_,hop,hpe,_,hlf⟩:=h.cnt
 have rdy : ∀ (a w r : Int),0 ≤ r → ∀ i : Nat,1 ≤ i → i ≤ 15 → (onF (dE x.a a w r)).ready i < 0 → ∃ q ∈ x.table,q.store = false ∧ q.reg = (i : Int):=fun a w r hr i h1 h2 h3 => by
  replace h3 : (dE x.a a w r).ready i < 0:=h3
  rcases uO (d:=x.a) (n:=a) (w:=w) (r:=r) i with h4 | h4
  ·rw [h4] at h3;exact hpe i h1 h2 h3
  ·omega
 have hw : ∀ v : Int,0 ≤ v → v ≤ 50 → 0 ≤ IntKind.i64.wrap (x.aG + v):=fun v h1 h2 => by rw [wrap_i64 (by omega) (by omega)];omega
 have hmore : more p o D n k false false = Dn p o D false (n false) (k false) ++ [(n false,cell)] ∧ more p o D n k false true = Dn p o D true (n true) (k true):=⟨by rw [← hcell];rfl,rfl⟩
 have nil0 : ∀ l : List Int,l = l ++ []:=fun l => (List.append_nil l).symm
 have plus : ∀ (y : Stt),(y.aeq = x.aeq ∧ y.ldq = x.ldq ∧ y.saq = x.saq ∧ y.writes = x.writes ∧ y.sdq = x.sdq ∧ y.e = x.e ∧ y.table = x.table) → ¬ cell.kind = 5 → ¬ cell.kind = 3 → ¬ cell.kind = 4 → (∀ r : Nat,1 ≤ r → r ≤ 15 → y.a.ready r < 0 → ∃ q ∈ x.table,q.store = false ∧ q.reg = (r : Int)) → Cnt c (more p o D n k false false) (more p o D n k false true) y:=fun y hy g5 g3 g4 hr => by
  rw [hmore.1,hmore.2]
  obtain ⟨y1,y2,y3,y4,y5,y6,y7⟩:=hy
  exact h.cnt.aTT (by rw [if_neg g5,y1];rfl) (by rw [if_neg g3,y2];rfl) (by rw [if_neg g4,y3];exact nil0 _) ⟨by rw [y3],y4,y5,y6⟩ (by rw [y2,y7];exact hop) (by rw [y7];exact hr) (by rw [y7];exact hlf)
 unfold rN
 show ∃ D' m i,m ≤ n false + 1 ∧ Inv c p o D' (cW n false m) (cW k false i) (if cell.kind = 1 then _ else _)
 split
 ·rename_i g
  have g : cell.kind = 1:=g
  split
  ·refine onn _ (h.on hs false hp hk hj (by rw [hcell];omega) ?_ ?_ ?_ ?_)
   ·funext e;cases e
    ·show (onF (dE _ _ _ _)).pos = _
     unfold onF
     rw [(eB _ _ _ _).1];rfl
    ·rfl
   ·funext e;cases e <;> rfl
   ·funext e;cases e
    ·exact (eB _ _ _ _).2.1
    ·rfl
   ·exact plus _ ⟨rfl,rfl,rfl,rfl,rfl,rfl,rfl⟩ (by omega) (by omega) (by omega) (rdy _ _ _ (hw _ (Int.le_trans (by decide) (vL c _).1) (vL c _).2))
  ·exact same _ (h.note _ _ _)
 split
 ·rename_i _ g
  have g : cell.kind = 5:=g
  split
  ·refine onn _ (h.on hs false hp hk hj (by rw [hcell];omega) (by funext e;cases e <;> rfl) (by funext e;cases e <;> rfl) (by funext e;cases e <;> rfl) ?_)
   rw [hmore.1,hmore.2]
   exact h.cnt.aTT (by rw [if_pos g];exact cD _ _) (by rw [if_neg (by show ¬ cell.kind = 3;omega)];rfl) (by rw [if_neg (by show ¬ cell.kind = 4;omega)];exact nil0 _) ⟨rfl,rfl,rfl,rfl⟩ hop hpe hlf
  ·exact same _ h
 split
 ·rename_i _ _ g
  have g : cell.kind = 2 ∨ cell.kind = 3:=g
  rw [kW c x _ _ _ rfl]
  split
  ·exact same _ (h.note _ _ _)
  split
  ·exact same _ h
  split
  ·rename_i g3
   have g3 : cell.kind = 3:=g3
   split
   ·exact same _ h
   split
   ·refine onn _ (h.on hs false hp hk hj (by rw [hcell];omega) (by funext e;cases e <;> rfl) (by funext e;cases e <;> rfl) (by funext e;cases e <;> rfl) ?_)
    rw [hmore.1,hmore.2]
    refine h.cnt.aTT (by rw [if_neg (by show ¬ cell.kind = 5;omega)];rfl) (by rw [if_pos g3];show (fO _ _ _).1.length = _;rw [uC,cD]) (by rw [if_neg (by show ¬ cell.kind = 4;omega)];exact nil0 _) ⟨rfl,rfl,rfl,rfl⟩ (fun t => ?_) hpe hlf
    show opn t (fO _ _ _).1 ≤ pnd t x.table
    have h1:=aMW (l:=x.ldq ++ [(⟨x.tags,false,0⟩ : Slot)]) (t:=x.tags) (w:=(uE (jZ x.saq (IntKind.i64.wrap (pW x.a (e8 (j : Int) cell).ins)) (szI (e8 (j : Int) cell).ins.op)).1 (e8 (j : Int) cell).ins.op (IntKind.i64.wrap (pW x.a (e8 (j : Int) cell).ins))).1) t
    rw [aJ2,aJ2,aJ3,aJ3] at h1
    have h2:=hop t
    have h2' : opn t x.ldq ≤ pnd t x.table:=h2
    by_cases ht : x.tags = t
    ·rw [if_pos ht,if_pos rfl,ht] at h1
     exact Nat.le_trans (by rw [ht];exact h1.2) (by omega)
    ·rw [if_neg ht] at h1
     exact Nat.le_trans h1.1 (by omega)
   ·refine onn _ (h.on hs false hp hk hj (by rw [hcell];omega) (by funext e;cases e <;> rfl) (by funext e;cases e <;> rfl) (by funext e;cases e <;> rfl) ?_)
    rw [hmore.1,hmore.2]
    refine h.cnt.aTT (by rw [if_neg (by show ¬ cell.kind = 5;omega)];rfl) (by rw [if_pos g3];exact cD _ _) (by rw [if_neg (by show ¬ cell.kind = 4;omega)];exact nil0 _) ⟨rfl,rfl,rfl,rfl⟩ (fun t => ?_) (fun r h1 h2 h3 => ?_) (fun q hq => ?_)
    ·show opn t (x.ldq ++ [_]) ≤ pnd t (x.table ++ [_])
     rw [aJ2,vK,aJ3,a3C]
     have h2:=hop t
     by_cases ht : x.tags = t
     ·rw [if_pos ht,if_pos (by unfold aAX;simp [ht])];omega
     ·rw [if_neg ht];omega
    ·obtain ⟨q,hq,h4⟩:=hpe r h1 h2 h3
     exact ⟨q,List.mem_append_left _ hq,h4⟩
    ·rcases List.mem_append.1 hq with hq | hq
     ·exact hlf q hq
     ·obtain rfl:=List.mem_singleton.1 hq
      show 0 ≤ (0 : Int) ∧ (0 : Int) ≤ c.lat
      omega
  ·rename_i g3
   have g3 : ¬ cell.kind = 3:=g3
   have g : cell.kind = 2:=g.resolve_right g3
   split
   ·refine onn _ (h.on hs false hp hk hj (by rw [hcell];omega) ?_ ?_ ?_ ?_)
    ·funext e;cases e
     ·show (onF (dE _ _ _ _)).pos = _
      unfold onF
      rw [(eB _ _ _ _).1];rfl
     ·rfl
    ·funext e;cases e <;> rfl
    ·funext e;cases e
     ·exact (eB _ _ _ _).2.1
     ·rfl
    ·exact plus _ ⟨rfl,rfl,rfl,rfl,rfl,rfl,rfl⟩ (by omega) (by omega) (by omega) (rdy _ _ _ (hw 1 (by omega) (by omega)))
   ·generalize hd : (if (e8 (j : Int) cell).ins.d = 0 then x.a else { x.a with ready:=fun i => bif Nat.beq i (e8 (j : Int) cell).ins.d.toNat then -1 else x.a.ready i }) = d
    have d1 : d.pos = x.a.pos ∧ d.halted = x.a.halted ∧ ∀ r : Nat,1 ≤ r → d.ready r = x.a.ready r ∨ (r : Int) = (e8 (j : Int) cell).ins.d:=by
     rw [← hd]
     split
     ·exact ⟨rfl,rfl,fun r _ => .inl rfl⟩
     ·refine ⟨rfl,rfl,fun r hr => ?_⟩
      by_cases he : r = (e8 (j : Int) cell).ins.d.toNat
      ·exact .inr (by omega)
      ·refine .inl ?_
       show (bif Nat.beq r (e8 (j : Int) cell).ins.d.toNat then -1 else x.a.ready r) = _
       rw [gT he];rfl
    refine onn _ (h.on hs false hp hk hj (by rw [hcell];omega) ?_ ?_ ?_ ?_)
    ·funext e;cases e
     ·show (onF d).pos = _
      unfold onF
      rw [d1.1];rfl
     ·rfl
    ·funext e;cases e <;> rfl
    ·funext e;cases e
     ·exact d1.2.1
     ·rfl
    ·rw [hmore.1,hmore.2]
     refine h.cnt.aTT (by rw [if_neg (by show ¬ cell.kind = 5;omega)];rfl) (by rw [if_neg (by show ¬ cell.kind = 3;omega)];rfl) (by rw [if_neg (by show ¬ cell.kind = 4;omega)];exact nil0 _) ⟨rfl,rfl,rfl,rfl⟩ (fun t => ?_) (fun r h1 h2 h3 => ?_) (fun q hq => ?_)
     ·show opn t x.ldq ≤ pnd t (x.table ++ [_])
      rw [vK]
      have:=hop t
      omega
     ·replace h3 : d.ready r < 0:=h3
      rcases d1.2.2 r h1 with h4 | h4
      ·rw [h4] at h3
       obtain ⟨q,hq,h5⟩:=hpe r h1 h2 h3
       exact ⟨q,List.mem_append_left _ hq,h5⟩
      ·exact ⟨_,List.mem_append_right _ (List.mem_singleton.2 rfl),rfl,h4.symm⟩
     ·rcases List.mem_append.1 hq with hq | hq
      ·exact hlf q hq
      ·obtain rfl:=List.mem_singleton.1 hq
       show 0 ≤ (0 : Int) ∧ (0 : Int) ≤ c.lat
       omega
 split
 ·rename_i _ _ _ g
  have g : cell.kind = 4:=g
  split
  ·exact same _ (h.note _ _ _)
  split
  ·exact same _ h
  ·refine onn _ (h.on hs false hp hk hj (by rw [hcell];omega) (by funext e;cases e <;> rfl) (by funext e;cases e <;> rfl) (by funext e;cases e <;> rfl) ?_)
   rw [hmore.1,hmore.2]
   refine h.cnt.aTT (by rw [if_neg (by show ¬ cell.kind = 5;omega)];rfl) (by rw [if_neg (by show ¬ cell.kind = 3;omega)];rfl) (by rw [if_pos g];show (x.saq ++ [_]).map Entry.step = _;rw [List.map_append];rfl) ⟨a3D rfl,rfl,rfl,rfl⟩ hop hpe hlf
 split
 ·rename_i _ _ _ _ g
  have g : cell.kind = 9:=g
  split
  ·obtain ⟨D',m,i,a1,a2⟩:=h.branch (y:={ x with a:=mH s x.a (aAQ x.a cell.ins) x.aG,abq:=x.abq ++ [aAQ x.a cell.ins] }) hs false hp hk hj hn (by rw [hcell];exact g) (aAQ x.a cell.ins) (by funext e;cases e <;> rfl) (by funext e;cases e <;> rfl) (by funext e;cases e <;> rfl) hh (plus _ ⟨rfl,rfl,rfl,rfl,rfl,rfl,rfl⟩ (by omega) (by omega) (by omega) hpe)
   exact ⟨D',m,i,a1,a2⟩
  ·exact same _ h
 split
 ·rename_i _ _ _ _ _ g
  have g : cell.kind = 10:=g
  split
  ·exact same _ h
  ·rename_i hq
   cases hab : x.ebq with
   | nil => exact absurd hab hq
   | cons t r =>
    obtain ⟨m,i,a1,a2⟩:=h.follow (y:={ x with a:=mH s x.a t x.aG,ebq:=r }) hs false hp hk hj hn (by rw [hcell];exact g) (t:=t) (r:=r) hab (by funext e;cases e <;> rfl) (by funext e;cases e <;> rfl) (by funext e;cases e <;> rfl) hh (plus _ ⟨rfl,rfl,rfl,rfl,rfl,rfl,rfl⟩ (by omega) (by omega) (by omega) hpe)
    exact ⟨D,m,i,a1,a2⟩
 split
 ·rename_i _ _ _ _ _ _ g
  have g : cell.kind = 11:=g
  obtain ⟨m,i,a1,a2⟩:=h.jump (y:={ x with a:=mH s x.a true x.aG }) hs false hp hk hj hn (by rw [hcell];exact g) (by funext e;cases e <;> rfl) (by funext e;cases e <;> rfl) (by funext e;cases e <;> rfl) hh (plus _ ⟨rfl,rfl,rfl,rfl,rfl,rfl,rfl⟩ (by omega) (by omega) (by omega) hpe)
  exact ⟨D,m,i,a1,a2⟩
 split
 ·rename_i _ _ _ _ _ _ _ g
  have g : cell.kind = 12:=g
  obtain ⟨q1,q2,q3,q4,q5,q6,q7,q8⟩:=h.cnt
  exact same _ (h.halt (y:={ x with a:=aMM x.a }) hs false hk hi (by rw [hcell];exact g) (by funext e;cases e <;> rfl) (by funext e;cases e <;> rfl) (by funext e;cases e <;> rfl) ⟨q1,q2,q3,q4,q5,q6,q7,q8⟩)
 ·exact same _ h
end
end Go.Proofs.Ytooojfbfobmkfaa
namespace Go.Proofs.Ytooojfbfobmkfaa
open Go.Ra
set_option linter.unusedVariables false
set_option linter.unusedSimpArgs false
section
variable {c : Cfg} {p : Prog} {o : Nat → Int} {s : Split} (hs : Spl p o s) {D : Nat → Bool} {n k : Bool → Nat} {x : Stt}
include hs
theorem Inv.aO6 (h : Inv c p o D n k x) (e : Bool) (hn : n e ≤ 1152921504606846976) {y : Stt} (h1 : gX y = cW (gX x) e (aT s e (gX x e)).1) (h2 : bqB y = bqB x) (h3 : jK y = jK x) (h5 : jK x e = false) (h4 : ∀ hA hE,Cnt c hA hE x → Cnt c hA hE y) :
  ∃ m i B j,Inv c p o D (cW n e m) (cW k e i) y ∧ Stl p o D e (aT s e (gX x e)) m i B j ∧ n e ≤ m ∧ m ≤ n e + 2000:=by
 obtain ⟨m,i,B,j,a1,a2,a3,a4,a5⟩:=h.ctl.settle hs e hn
 have hN:=(rO hs.rp).2
 refine ⟨m,i,B,j,⟨by rw [h1,h2];exact a1, ?_,h4 _ _ ?_⟩,a2,a4,by omega⟩
 ·rw [h3]
  refine two _ e ?_ ?_
  ·intro h6;rw [h5] at h6;cases h6
  ·intro h6
   rw [bM]
   exact h.hal _ h6
 ·have hc:=h.cnt
  cases e
  ·show Cnt c (Dn p o D false m i) (Dn p o D true (n true) (k true)) x
   rw [a3];exact hc
  ·show Cnt c (Dn p o D false (n false) (k false)) (Dn p o D true m i) x
   rw [a3];exact hc
theorem aC6 {e : Bool} {q : Pos} {m i B j : Nat} (h : Stl p o D e (aT s e q) m i B j) (hm : m ≤ 2305843009213693952) : bY s e (aT s e q).1 = bY s e q ∧ bY s e q = (if (aT s e q).2 then noCell else e8 (j : Int) (ix (cel p o e (rho p D m)) i),(m : Int),!(aT s e q).2):=by
 have h1:=aYZ hs h
 refine ⟨?_,hs.next h hm⟩
 unfold bY
 rw [h1]
end
structure Still (s : Split) (x y : Stt) : Prop where
 q : y.ldq = x.ldq ∧ y.sdq = x.sdq ∧ y.aeq = x.aeq ∧ y.abq = x.abq ∧ y.ebq = x.ebq ∧ y.saq = x.saq ∧ y.table = x.table ∧ y.writes = x.writes ∧ y.aG = x.aG
 a : y.a.ready = x.a.ready ∧ y.a.wait = x.a.wait ∧ y.a.halted = x.a.halted ∧ y.a.done = x.a.done
 e : y.e.ready = x.e.ready ∧ y.e.wait = x.e.wait ∧ y.e.halted = x.e.halted ∧ y.e.done = x.e.done
 nx : ∀ e,bY s e (gX y e) = bY s e (gX x e)
 tr : y.bP = x.bP ∨ (¬ y.bP.kind = 0 ∧ ∃ e,y.bP.step = (bY s e (gX x e)).2.1 ∧ dB x (bY s e (gX x e)).2.1 = false ∧ jK x e = false)
theorem Still.none {s : Split} {x : Stt} : Still s x x:=⟨⟨rfl,rfl,rfl,rfl,rfl,rfl,rfl,rfl,rfl⟩,⟨rfl,rfl,rfl,rfl⟩,⟨rfl,rfl,rfl,rfl⟩,fun _ => rfl,.inl rfl⟩
theorem Still.note {s : Split} {x y : Stt} (h : Still s x y) (ht : y.bP = x.bP) {e : Bool} {kd pc : Int} (hk : ¬ kd = 0) (hh : jK x e = false) : Still s x (eO y kd (bY s e (gX x e)).2.1 pc):=by
 unfold eO
 split
 ·rename_i g
  have g2 : x.bP.kind = 0 ∨ x.bP.step > (bY s e (gX x e)).2.1:=by rw [← ht];exact g
  refine ⟨h.q,h.a,h.e,fun e' => ?_,.inr ⟨hk,e,rfl, ?_,hh⟩⟩
  ·have:=h.nx e'
   cases e'
   ·exact this
   ·exact this
  ·unfold dB
   rw [zaW,zaP,zaP]
   rcases g2 with g2 | g2
   ·exact .inl (fun g3 => g3 g2)
   ·exact .inr (by omega)
 ·exact h
theorem a3E {d : Int} (h : 0 ≤ d ∧ d ≤ 1099511627776) : ¬ IntKind.i64.wrap (d + 1) = d:=by rw [wrap_i64 (by omega) (by omega)];omega
section
variable {c : Cfg} {p : Prog} {o : Nat → Int} {s : Split} (hs : Spl p o s) {D : Nat → Bool} {n k : Bool → Nat} {x : Stt}
include hs
theorem Inv.bDM (h : Inv c p o D n k x) (hn : n true ≤ 1152921504606840000) (hcy : 0 ≤ x.aG ∧ x.aG ≤ 2000000000000) : (∃ D' n' k',n' false = n false ∧ n' true ≤ n true + 2001 ∧ Inv c p o D' n' k' (eF c s x)) ∧ (aY c s x = true → ¬ (eF c s x).e.done = x.e.done ∨ Still s x (eF c s x)):=by
 unfold eF
 split
 ·exact ⟨⟨D,n,k,rfl,by omega,h⟩,fun _ => .inr .none⟩
 rename_i hn0
 have hhal : x.e.halted = false:=by
  cases hz : x.e.halted with
  | false => rfl
  | true => exact (hn0 (.inr (.inl hz))).elim
 obtain ⟨m,i,B,j,a1,a2,a3,a4⟩:=h.aO6 hs true (by omega) (y:=atE s x) (by funext e;cases e <;> rfl) (by funext e;cases e <;> rfl) (by funext e;cases e <;> rfl) hhal (fun hA hE hc => by
  obtain ⟨q1,q2,q3,q4,q5,q6,q7,q8⟩:=hc
  exact ⟨q1,q2,q3,q4,q5,q6,q7,q8⟩)
 have a2 : Stl p o D true (aT s true x.e.pos) m i B j:=a2
 obtain ⟨b1,b2⟩:=aC6 hs a2 (by omega)
 have e1 : bY s true (atE s x).e.pos = bY s true x.e.pos:=b1
 have hst : Still s x (atE s x):=⟨⟨rfl,rfl,rfl,rfl,rfl,rfl,rfl,rfl,rfl⟩,⟨rfl,rfl,rfl,rfl⟩,⟨rfl,rfl,rfl,rfl⟩,fun e => by cases e;exact rfl;exact b1,.inl rfl⟩
 rw [e1]
 have okS : ∀ y : Stt,Inv c p o D (cW n true m) (cW k true i) y → ∃ D' n' k',n' false = n false ∧ n' true ≤ n true + 2001 ∧ Inv c p o D' n' k' y:=fun y hy => ⟨D,cW n true m,cW k true i,rfl,by show m ≤ _;omega,hy⟩
 split
 ·exact ⟨okS _ (a1.note _ _ _),fun _ => .inr (hst.note (e:=true) rfl (by omega) hhal)⟩
 rename_i hf
 split
 ·exact ⟨okS _ a1,fun _ => .inr hst⟩
 rw [b2]
 simp only [hf,if_false,zaU]
 have a2':=a2.2.resolve_right (fun h => hf h.1)
 obtain ⟨_,hk,hj⟩:=a2'
 have hcell:=a1.bCN hs (B:=B) (j:=j) a2.1 hk hj (by show m ≤ _;omega) hhal hcy (m : Int)
 refine ⟨?_,fun hR => ?_⟩
 ·obtain ⟨D',m',i',c1,c2⟩:=hcell
  exact ⟨D',cW (cW n true m) true m',cW (cW k true i) true i',rfl,by show m' ≤ _;have : m' ≤ m + 1:=c1;omega,c2⟩
 ·have hd:=(uN hR).2.2.2.2.1
  have hdone:=a3E hd
  have hm : (m : Int) = (bY s true x.e.pos).2.1:=by rw [b2]
  generalize e8 (j : Int) (ix (cel p o true (rho p D m)) i) = cell
  have hsd : ∀ (d : cM) (a w r : Int),(onF (dE d a w r)).done = IntKind.i64.wrap (d.done + 1):=fun d a w r => by
   show IntKind.i64.wrap ((dE d a w r).done + 1) = _
   rw [(eB d a w r).2.2.2]
  unfold pV
  split
  ·split
   ·exact .inl (by show ¬ (onF (dE _ _ _ _)).done = _;rw [hsd];exact hdone)
   ·rw [hm];exact .inr (hst.note (e:=true) rfl (by omega) hhal)
  split
  ·split
   ·exact .inr hst
   ·exact .inl (by show ¬ (onF (dE _ _ _ _)).done = _;rw [hsd];exact hdone)
  split
  ·split
   ·exact .inl (by show ¬ (onF (dE _ _ _ _)).done = _;rw [hsd];exact hdone)
   ·exact .inr hst
  split
  ·split
   ·exact .inl hdone
   ·exact .inr hst
  split
  ·split
   ·exact .inl hdone
   ·exact .inr hst
  split
  ·split
   ·exact .inr hst
   ·exact .inl hdone
  split
  ·exact .inl hdone
  split
  ·exact .inl hdone
  ·exact .inr hst
theorem Inv.bDN (h : Inv c p o D n k x) (hn : n false ≤ 1152921504606840000) (hcy : 0 ≤ x.aG ∧ x.aG ≤ 2000000000000) (hlat : 1 ≤ c.lat) : (∃ D' n' k',n' true = n true ∧ n' false ≤ n false + 2001 ∧ Inv c p o D' n' k' (fT c s x)) ∧ (aY c s x = true → ¬ (fT c s x).a.done = x.a.done ∨ Still s x (fT c s x)):=by
 unfold fT
 split
 ·exact ⟨⟨D,n,k,rfl,by omega,h⟩,fun _ => .inr .none⟩
 rename_i hn0
 have hhal : x.a.halted = false:=by
  cases hz : x.a.halted with
  | false => rfl
  | true => exact (hn0 (.inr (.inl hz))).elim
 obtain ⟨m,i,B,j,a1,a2,a3,a4⟩:=h.aO6 hs false (by omega) (y:=atA s x) (by funext e;cases e <;> rfl) (by funext e;cases e <;> rfl) (by funext e;cases e <;> rfl) hhal (fun hA hE hc => by
  obtain ⟨q1,q2,q3,q4,q5,q6,q7,q8⟩:=hc
  exact ⟨q1,q2,q3,q4,q5,q6,q7,q8⟩)
 have a2 : Stl p o D false (aT s false x.a.pos) m i B j:=a2
 obtain ⟨b1,b2⟩:=aC6 hs a2 (by omega)
 have e1 : bY s false (atA s x).a.pos = bY s false x.a.pos:=b1
 have hst : Still s x (atA s x):=⟨⟨rfl,rfl,rfl,rfl,rfl,rfl,rfl,rfl,rfl⟩,⟨rfl,rfl,rfl,rfl⟩,⟨rfl,rfl,rfl,rfl⟩,fun e => by cases e;exact b1;exact rfl,.inl rfl⟩
 rw [e1]
 have okS : ∀ y : Stt,Inv c p o D (cW n false m) (cW k false i) y → ∃ D' n' k',n' true = n true ∧ n' false ≤ n false + 2001 ∧ Inv c p o D' n' k' y:=fun y hy => ⟨D,cW n false m,cW k false i,rfl,by show m ≤ _;omega,hy⟩
 split
 ·exact ⟨okS _ (a1.note _ _ _),fun _ => .inr (hst.note (e:=false) rfl (by omega) hhal)⟩
 rename_i hf
 split
 ·exact ⟨okS _ a1,fun _ => .inr hst⟩
 rw [b2]
 simp only [hf,if_false,zaU]
 have a2':=a2.2.resolve_right (fun h => hf h.1)
 obtain ⟨_,hk,hj⟩:=a2'
 have hcell:=a1.bCO hs (B:=B) (j:=j) a2.1 hk hj (by show m ≤ _;omega) hhal hcy hlat
 refine ⟨?_,fun hR => ?_⟩
 ·obtain ⟨D',m',i',c1,c2⟩:=hcell
  exact ⟨D',cW (cW n false m) false m',cW (cW k false i) false i',rfl,by show m' ≤ _;have : m' ≤ m + 1:=c1;omega,c2⟩
 ·have hd:=(uN hR).2.2.2.1
  have hdone:=a3E hd
  have hm : (m : Int) = (bY s false x.a.pos).2.1:=by rw [b2]
  generalize e8 (j : Int) (ix (cel p o false (rho p D m)) i) = cell
  have hsd : ∀ (d : cM) (a w r : Int),(onF (dE d a w r)).done = IntKind.i64.wrap (d.done + 1):=fun d a w r => by
   show IntKind.i64.wrap ((dE d a w r).done + 1) = _
   rw [(eB d a w r).2.2.2]
  unfold rN
  split
  ·split
   ·exact .inl (by show ¬ (onF (dE _ _ _ _)).done = _;rw [hsd];exact hdone)
   ·rw [hm];exact .inr (hst.note (e:=false) rfl (by omega) hhal)
  split
  ·split
   ·exact .inl hdone
   ·exact .inr hst
  split
  ·rw [kW c (atA s x) cell _ _ rfl]
   split
   ·rename_i g;rw [hm];exact .inr (hst.note (e:=false) rfl g hhal)
   split
   ·exact .inr hst
   split
   ·split
    ·exact .inr hst
    split
    ·exact .inl hdone
    ·exact .inl hdone
   split
   ·exact .inl (by show ¬ (onF (dE _ _ _ _)).done = _;rw [hsd];exact hdone)
   ·refine .inl ?_
    show ¬ IntKind.i64.wrap (cM.done (if _ then _ else _) + 1) = _
    split
    ·exact hdone
    ·exact hdone
  split
  ·split
   ·rename_i g;rw [hm];exact .inr (hst.note (e:=false) rfl g hhal)
   split
   ·exact .inr hst
   ·exact .inl hdone
  split
  ·split
   ·exact .inl hdone
   ·exact .inr hst
  split
  ·split
   ·exact .inr hst
   ·exact .inl hdone
  split
  ·exact .inl hdone
  split
  ·exact .inl hdone
  ·exact .inr hst
end
end Go.Proofs.Ytooojfbfobmkfaa
namespace Go.Proofs.Ytooojfbfobmkfaa
open Go.Ra
set_option linter.unusedVariables false
set_option linter.unusedSimpArgs false
theorem aAY {m k : Nat} {a K : Int} {t : List Int} : ((List.replicate m a ++ t).take k).count K = (if a = K then min k m else 0) + (t.take (k - m)).count K:=by
 rw [List.take_append,List.count_append,List.take_replicate,List.count_replicate,List.length_replicate]
 by_cases h : a = K <;> simp [h]
theorem aRR {j : Nat} {z K : Int} : ([z].take j).count K = if 0 < j ∧ z = K then 1 else 0:=by
 cases j with
 | zero => simp
 | succ j => by_cases h : z = K <;> simp [h]
theorem a3F {j : Nat} {K : Int} : (([] : List Int).take j).count K = 0:=by simp
theorem aFL {m k : Nat} {a : Int} {t : List Int} : ix (List.replicate m a ++ t) k = if k < m then a else ix t (k - m):=by
 rw [gO,List.length_replicate]
 split
 ·rename_i h;exact aYU (d:=0) h
 ·rfl
theorem aO9 {p : Prog} {o : Nat → Int} {D : Nat → Bool} {e : Bool} {K : Int} {n k T i : Nat} : (i < tot (cK p o D e K) T → i < (stK K (Dn p o D e n k)).length → ix (stK K (Dn p o D e n k)) i < T) ∧ (tot (cK p o D e K) T ≤ i → i < (stK K (Dn p o D e n k)).length → T ≤ ix (stK K (Dn p o D e n k)) i):=by
 have hle : (stK K (Dn p o D e n k)).length ≤ tot (cK p o D e K) (n + 1):=by rw [vI];exact a4U
 rw [uK] at hle ⊢
 generalize ((kin p o e (rho p D n)).take k).count K = r at hle ⊢
 generalize cK p o D e K = f at hle ⊢
 rcases Nat.lt_or_ge n T with h | h
 ·refine ⟨fun _ h2 => ?_,fun h1 h2 => ?_⟩
  ·rcases List.mem_append.1 (cH h2) with h3 | h3
   ·have:=aRP h3;omega
   ·rw [List.eq_of_mem_replicate h3];exact h
  ·have:=aAV (f:=f) (show n + 1 ≤ T from h)
   omega
 ·obtain ⟨R,e1,e2⟩:=aYT (f:=f) h
  rw [e1,List.append_assoc]
  refine ⟨fun h1 h2 => ?_,fun h1 h2 => ?_⟩
  ·rw [gO,xT,if_pos h1]
   exact aRP (cH (by rw [xT];exact h1))
  ·rw [gO,xT,if_neg (by omega)]
   have h3 : i - tot f T < (R ++ List.replicate r n).length:=by
    rw [List.length_append,xT] at h2;omega
   rcases List.mem_append.1 (cH h3) with h4 | h4
   ·exact e2 _ h4
   ·rw [List.eq_of_mem_replicate h4];exact h
section
variable {c : Cfg} {p : Prog} {o : Nat → Int} {s : Split} {D : Nat → Bool} {n k : Bool → Nat} {z : Stt}
def aJ4 (c : Cfg) (z : Stt) (K : Int) : Prop:=(K = 6 ∧ z.aeq = []) ∨ (K = 7 ∧ (z.ldq = [] ∨ (ix z.ldq 0).full = false)) ∨ (K = 8 ∧ (z.sdq.length : Int) ≥ c.sdq) ∨ (K = 9 ∧ (z.ebq.length : Int) ≥ c.ebq) ∨ (K = 10 ∧ z.abq = [])
def aGI (c : Cfg) (z : Stt) (K : Int) : Prop:=(K = 5 ∧ (z.aeq.length : Int) ≥ c.aeq) ∨ ((K = 2 ∨ K = 3) ∧ ¬ z.saq = []) ∨ (K = 3 ∧ (z.ldq.length : Int) ≥ c.ldq) ∨ (K = 4 ∧ (z.saq.length : Int) ≥ c.saq) ∨ (K = 9 ∧ (z.abq.length : Int) ≥ c.abq) ∨ (K = 10 ∧ z.ebq = [])
theorem aJ5 {m : Nat} (h : dB z m = false) : z.bP.kind = 0 ∨ (m : Int) < z.bP.step:=by
 unfold dB at h
 rw [zaW,zaP,zaP] at h
 rcases h with h | h
 ·exact .inl (by simpa using h)
 ·exact .inr (by omega)
theorem aAZ {m : Nat} (h : dB z m = true) : ¬ z.bP.kind = 0 ∧ z.bP.step ≤ (m : Int):=by
 unfold dB at h
 simpa using h
theorem dead (hr : aX p = true) (h : Inv c p o D n k z) (hc : dD c = true) (ht : z.table = []) (hkn : knS z.saq = 0) (hcan : nR c z = false)
  (sE : z.e.halted = true ∨ (z.e.halted = false ∧ dB z (n true) = true) ∨ (z.e.halted = false ∧ dB z (n true) = false ∧ k true < (cel p o true (rho p D (n true))).length ∧ rho p D (n true) < p.code.length ∧ aJ4 c z (ix (kin p o true (rho p D (n true))) (k true))))
  (sA : z.a.halted = true ∨ (z.a.halted = false ∧ dB z (n false) = true) ∨ (z.a.halted = false ∧ dB z (n false) = false ∧ k false < (cel p o false (rho p D (n false))).length ∧ rho p D (n false) < p.code.length ∧ (aGI c z (ix (kin p o false (rho p D (n false))) (k false)) ∨ (z.e.halted = false ∧ (n false : Int) ≥ (n true : Int) + c.nI))))
  (kA : z.a.halted = false → rho p D (n false) < p.code.length → k false < (cel p o false (rho p D (n false))).length)
  (hov : (z.e.halted = true ∨ dB z (n true) = true) → (z.a.halted = true ∨ dB z (n false) = true) → z.saq.any (aAT z) = true) : False:=by
 have hg:=jY hc
 have hb:=fun m => bal (o:=o) (D:=D) hr m
 obtain ⟨q1,q2,⟨pre,q3,q3'⟩,q4,q5,_,_,_⟩:=h.cnt
 have bqE:=congrArg List.length (h.ctl.bq true)
 have bqA:=congrArg List.length (h.ctl.bq false)
 simp only [List.length_map,List.length_append,vI,zaI,zaH] at bqE bqA
 replace bqE : kc 9 (Dn p o D true (n true) (k true)) = kc 10 (Dn p o D false (n false) (k false)) + z.ebq.length:=bqE
 replace bqA : kc 9 (Dn p o D false (n false) (k false)) = kc 10 (Dn p o D true (n true) (k true)) + z.abq.length:=bqA
 have q3l:=congrArg List.length q3
 simp only [List.length_map,List.length_append,vI,q3'] at q3l
 rw [hkn] at q4
 have e5 : cK p o D false 5 = cK p o D true 6:=funext fun m => (hb m).1
 have e3 : cK p o D false 3 = cK p o D true 7:=funext fun m => (hb m).2.1
 have e4 : cK p o D false 4 = cK p o D true 8:=funext fun m => (hb m).2.2.1
 have e9 : cK p o D false 9 = cK p o D true 10:=funext fun m => (hb m).2.2.2.1
 have e10 : cK p o D false 10 = cK p o D true 9:=funext fun m => (hb m).2.2.2.2
 have can : ¬ z.saq = [] → ¬ z.sdq = [] → (z.bP.kind = 0 ∨ (ix z.saq 0).step < z.bP.step) → False:=fun h1 h2 h3 => by
  have h4 : (ix z.saq 0).known = false:=by
   unfold knS at hkn
   split at hkn
   ·cases hkn
   ·rename_i h5
    cases h6 : (ix z.saq 0).known with
    | false => rfl
    | true => exact absurd ⟨List.length_pos_iff.2 h1,h6⟩ h5
  unfold nR at hcan
  rw [decide_eq_true h1,h4,decide_eq_true h2,ht,decide_eq_true (show (([] : List Req).length : Int) < c.cA by simp;omega)] at hcan
  simp only [zaR,zaH,List.any_nil,zaT,Bool.not_eq_false',zaG,zaK] at hcan
  omega
 have hstep : ∀ i,i < z.saq.length → ((ix (stK 4 (Dn p o D false (n false) (k false))) (z.writes.length + i) : Nat) : Int) = (ix z.saq i).step ∧ z.writes.length + i < (stK 4 (Dn p o D false (n false) (k false))).length:=fun i hi => by
  have h1 : z.writes.length + i < (stK 4 (Dn p o D false (n false) (k false))).length:=by rw [vI];omega
  refine ⟨?_,h1⟩
  have h2 : ix ((stK 4 (Dn p o D false (n false) (k false))).map (fun m : Nat => (m : Int))) (z.writes.length + i) = ix (pre ++ z.saq.map Entry.step) (z.writes.length + i):=by rw [q3]
  rw [tK h1,gO,q3',if_neg (by omega),Nat.add_sub_cancel_left,tK hi] at h2
  exact h2
 have send : ∀ m : Nat,dB z m = false → z.writes.length < tot (cK p o D false 4) m → ¬ z.saq = [] → ¬ z.sdq = [] → False:=fun m h1 h2 h3 h4 => by
  have h5:=hstep 0 (List.length_pos_iff.2 h3)
  have h6:=(aO9 (p:=p) (o:=o) (D:=D) (e:=false) (K:=4) (n:=n false) (k:=k false) (T:=m) (i:=z.writes.length + 0)).1 h2 h5.2
  refine can h3 h4 ?_
  rcases aJ5 h1 with h7 | h7
  ·exact .inl h7
  ·exact .inr (by omega)
 have nil_of : ∀ {α : Type} (l : List α),l.length = 0 → l = []:=fun l hl => List.eq_nil_of_length_eq_zero hl
 have nn : ∀ {α : Type} (l : List α),0 < l.length → ¬ l = []:=fun l hl => List.length_pos_iff.1 hl
 have halE : z.e.halted = true → aI (ix p.code (rho p D (n true))).op = 8 ∧ n false ≤ n true:=fun h1 => by
  have h2:=h.hal true h1
  refine ⟨h2, ?_⟩
  rcases Nat.lt_or_ge (n true) (n false) with h3 | h3
  ·exact absurd h2 (h.ctl.nh false _ h3)
  ·exact h3
 have halA : z.a.halted = true → aI (ix p.code (rho p D (n false))).op = 8 ∧ n true ≤ n false:=fun h1 => by
  have h2:=h.hal false h1
  refine ⟨h2, ?_⟩
  rcases Nat.lt_or_ge (n false) (n true) with h3 | h3
  ·exact absurd h2 (h.ctl.nh true _ h3)
  ·exact h3
 have gE : ∀ K,tot (cK p o D true K) (n true) ≤ kc K (Dn p o D true (n true) (k true)):=fun K => a4T
 have gA : ∀ K,tot (cK p o D false K) (n false) ≤ kc K (Dn p o D false (n false) (k false)):=fun K => a4T
 have lA : ∀ K,kc K (Dn p o D false (n false) (k false)) ≤ tot (cK p o D false K) (n false + 1):=fun K => a4U
 have vE:=fun K => aHW (p:=p) (o:=o) (D:=D) (e:=true) (K:=K) (n:=n true) (k:=k true)
 have vA:=fun K => aHW (p:=p) (o:=o) (D:=D) (e:=false) (K:=K) (n:=n false) (k:=k false)
 have ts : ∀ (e : Bool) (K : Int) (m : Nat),tot (cK p o D e K) (m + 1) = tot (cK p o D e K) m + (kin p o e (rho p D m)).count K:=fun e K m => rfl
 have mono : ∀ (e : Bool) (K : Int) {a b : Nat},a ≤ b → tot (cK p o D e K) a ≤ tot (cK p o D e K) b:=fun e K a b h => aAV h
 have aCase : n false < n true → dB z (n false) = false → k false < (cel p o false (rho p D (n false))).length → rho p D (n false) < p.code.length → aGI c z (ix (kin p o false (rho p D (n false))) (k false)) → False:=fun hlt hst hk hN hB => by
  obtain ⟨m,tA,tE,s1,s2,s3⟩:=shape (o:=o) hr hN
  rw [← eX,s1,List.length_append,List.length_replicate] at hk
  have hv : ∀ K,kc K (Dn p o D false (n false) (k false)) = tot (cK p o D false K) (n false) + ((if (5 : Int) = K then min (k false) m else 0) + (tA.take (k false - m)).count K):=fun K => by rw [vA,s1,aAY]
  have hz : ∀ K,¬ (5 : Int) = K → k false ≤ m → kc K (Dn p o D false (n false) (k false)) = tot (cK p o D false K) (n false):=fun K h1 h2 => by
   rw [hv,if_neg h1,show k false - m = 0 by omega];simp
  rw [s1,aFL] at hB
  have m5:=mono true 6 (show n false + 1 ≤ n true from hlt)
  have m3:=mono true 7 (show n false + 1 ≤ n true from hlt)
  have m4:=mono true 8 (Nat.le_of_lt hlt)
  have m9:=mono true 10 (Nat.le_of_lt hlt)
  have m10:=mono true 9 (show n false + 1 ≤ n true from hlt)
  have g6:=gE 6
  have g7:=gE 7
  have g8:=gE 8
  have g10:=gE 10
  have g9:=gE 9
  have l5:=lA 5
  have l3:=lA 3
  rw [e5] at l5
  rw [e3] at l3
  have hst4 : kc 4 (Dn p o D false (n false) (k false)) = tot (cK p o D false 4) (n false) → ¬ z.saq = [] → False:=fun h1 h2 => by
   have h3:=List.length_pos_iff.2 h2
   rw [e4] at h1
   refine send (n false) hst (by rw [e4];omega) h2 (nn _ (by omega))
  by_cases hm : k false < m
  ·rw [if_pos hm] at hB
   rcases hB with ⟨_,h1⟩ | ⟨h1,_⟩ | ⟨h1,_⟩ | ⟨h1,_⟩ | ⟨h1,_⟩ | ⟨h1,_⟩
   ·omega
   all_goals omega
  ·rw [if_neg hm] at hB
   rcases s3 with s3 | s3 | s3 | s3 | s3 | s3 | s3 | s3 | s3
   ·rw [s3.2.1] at hB hk
    have hkm : k false = m:=by simp at hk;omega
    rw [hkm,Nat.sub_self,aW] at hB
    rcases hB with ⟨h1,_⟩ | ⟨h1,_⟩ | ⟨h1,_⟩ | ⟨h1,_⟩ | ⟨h1,_⟩ | ⟨h1,_⟩ <;> omega
   ·rw [s3.2.1] at hk;simp at hk;omega
   ·rw [s3.2.1] at hB hk
    have hkm : k false = m:=by simp at hk;omega
    rw [hkm,Nat.sub_self,aW] at hB
    rcases hB with ⟨h1,_⟩ | ⟨_,h2⟩ | ⟨_,h2⟩ | ⟨h1,_⟩ | ⟨h1,_⟩ | ⟨h1,_⟩
    ·omega
    ·exact hst4 (hz 4 (by omega) (by omega)) h2
    ·omega
    all_goals omega
   ·rw [s3.2.1] at hB hk
    have hkm : k false = m:=by simp at hk;omega
    rw [hkm,Nat.sub_self,aW] at hB
    rcases hB with ⟨h1,_⟩ | ⟨_,h2⟩ | ⟨h1,h2⟩ | ⟨h1,_⟩ | ⟨h1,_⟩ | ⟨h1,_⟩
    ·omega
    ·exact hst4 (hz 4 (by omega) (by omega)) h2
    all_goals omega
   ·rw [s3.2.1] at hB hk
    have hkm : k false = m:=by simp at hk;omega
    rw [hkm,Nat.sub_self,aW] at hB
    rcases hB with ⟨h1,_⟩ | ⟨h1,_⟩ | ⟨h1,_⟩ | ⟨_,h2⟩ | ⟨h1,_⟩ | ⟨h1,_⟩
    ·omega
    ·omega
    ·omega
    ·exact hst4 (hz 4 (by omega) (by omega)) (nn _ (by omega))
    all_goals omega
   ·rw [s3.2.1] at hB hk
    have hkm : k false = m:=by simp at hk;omega
    rw [hkm,Nat.sub_self,aW] at hB
    have h9:=hz 9 (by omega) (by omega)
    rw [e9] at h9
    rcases hB with ⟨h1,_⟩ | ⟨h1,_⟩ | ⟨h1,_⟩ | ⟨h1,_⟩ | ⟨_,h2⟩ | ⟨h1,_⟩ <;> omega
   ·rw [s3.2.1] at hB hk
    have hkm : k false = m:=by simp at hk;omega
    rw [hkm,Nat.sub_self,aW] at hB
    have h10:=hz 10 (by omega) (by omega)
    rw [e10] at h10
    have h11:=ts true 9 (n false)
    rw [s2,List.count_append,s3.2.2] at h11
    have h12 : ([9] : List Int).count 9 = 1:=rfl
    rcases hB with ⟨h1,_⟩ | ⟨h1,_⟩ | ⟨h1,_⟩ | ⟨h1,_⟩ | ⟨h1,_⟩ | ⟨_,h2⟩
    ·omega
    ·omega
    ·omega
    ·omega
    ·omega
    ·rw [h2,List.length_nil] at bqE
     omega
   ·rw [s3.2.1] at hB hk
    have hkm : k false = m:=by simp at hk;omega
    rw [hkm,Nat.sub_self,aW] at hB
    rcases hB with ⟨h1,_⟩ | ⟨h1,_⟩ | ⟨h1,_⟩ | ⟨h1,_⟩ | ⟨h1,_⟩ | ⟨h1,_⟩ <;> omega
   ·rw [s3.2.1] at hB hk
    have hkm : k false = m:=by simp at hk;omega
    rw [hkm,Nat.sub_self,aW] at hB
    rcases hB with ⟨h1,_⟩ | ⟨h1,_⟩ | ⟨h1,_⟩ | ⟨h1,_⟩ | ⟨h1,_⟩ | ⟨h1,_⟩ <;> omega
 by_cases hE : z.e.halted = true ∨ dB z (n true) = true
 case neg =>
  have hE1 : ¬ z.e.halted = true:=fun h1 => hE (.inl h1)
  have hE2 : dB z (n true) = false:=by
   cases h1 : dB z (n true) with
   | false => rfl
   | true => exact (hE (.inr h1)).elim
  obtain ⟨_,_,hk,hN,hB⟩ : z.e.halted = false ∧ dB z (n true) = false ∧ k true < (cel p o true (rho p D (n true))).length ∧ rho p D (n true) < p.code.length ∧ aJ4 c z (ix (kin p o true (rho p D (n true))) (k true)):=by
   rcases sE with h1 | h1 | h1
   ·exact absurd h1 hE1
   ·rw [hE2] at h1;cases h1.2
   ·exact h1
  by_cases hle : n true ≤ n false
  case neg =>
   have hAh : ¬ z.a.halted = true:=fun h1 => hle (halA h1).2
   have hAs : ¬ dB z (n false) = true:=fun h1 => by
    have h2:=aAZ h1
    rcases aJ5 hE2 with h3 | h3
    ·exact h2.1 h3
    ·omega
   rcases sA with h1 | h1 | ⟨_,h2,h3,h4,h5⟩
   ·exact hAh h1
   ·exact hAs h1.2
   ·rcases h5 with h5 | h5
    ·exact aCase (by omega) h2 h3 h4 h5
    ·omega
  have sameA : n false = n true → ¬ aI (ix p.code (rho p D (n true))).op = 8 → k false < (kin p o false (rho p D (n true))).length ∧ aGI c z (ix (kin p o false (rho p D (n true))) (k false)):=fun h1 h2 => by
   rw [h1] at sA
   rcases sA with h3 | h3 | ⟨_,_,h3,_,h4⟩
   ·have:=(halA h3).1
    rw [h1] at this
    exact absurd this h2
   ·rw [hE2] at h3;cases h3.2
   ·rw [eX]
    refine ⟨h3, ?_⟩
    rcases h4 with h4 | h4
    ·exact h4
    ·omega
  obtain ⟨m,tA,tE,s1,s2,s3⟩:=shape (o:=o) hr hN
  rw [← eX,s2,List.length_append,List.length_replicate] at hk
  have hv : ∀ K,kc K (Dn p o D true (n true) (k true)) = tot (cK p o D true K) (n true) + ((if (6 : Int) = K then min (k true) m else 0) + (tE.take (k true - m)).count K):=fun K => by rw [vE,s2,aAY]
  have hz : ∀ K,¬ (6 : Int) = K → k true ≤ m → kc K (Dn p o D true (n true) (k true)) = tot (cK p o D true K) (n true):=fun K h1 h2 => by
   rw [hv,if_neg h1,show k true - m = 0 by omega];simp
  have hvA : n false = n true → ∀ K,kc K (Dn p o D false (n false) (k false)) = tot (cK p o D false K) (n false) + ((if (5 : Int) = K then min (k false) m else 0) + (tA.take (k false - m)).count K):=fun h1 K => by rw [vA,h1,s1,aAY]
  have hgt : n true = n false ∨ n true + 1 ≤ n false:=by omega
  rw [s2,aFL] at hB
  have bno : ∀ K : Int,K = 1 ∨ K = 11 ∨ K = 12 → ¬ aJ4 c z K:=fun K h1 h2 => by
   rcases h2 with ⟨h2,_⟩ | ⟨h2,_⟩ | ⟨h2,_⟩ | ⟨h2,_⟩ | ⟨h2,_⟩ <;> omega
  by_cases hm : k true < m
  ·rw [if_pos hm] at hB
   have hq : z.aeq = []:=by rcases hB with ⟨_,h2⟩ | ⟨h2,_⟩ | ⟨h2,_⟩ | ⟨h2,_⟩ | ⟨h2,_⟩ <;> first | exact h2 | omega
   have h6:=hv 6
   rw [if_pos rfl,show k true - m = 0 by omega] at h6
   simp only [List.take_zero,List.count_nil] at h6
   rw [hq,List.length_nil] at q1
   have h7:=ts true 6 (n true)
   rw [s2,List.count_append,List.count_replicate_self] at h7
   rcases hgt with h8 | h8
   ·have h9:=sameA h8.symm (fun h9 => by rcases s3 with h | h | h | h | h | h | h | h | h <;> omega)
    have h10:=hvA h8.symm 5
    have hA5 : ∀ j,(tA.take j).count 5 = 0:=fun j => by
     rcases s3 with h | h | h | h | h | h | h | h | h
     all_goals (first | rw [h.2.1] ; first | rw [aRR,if_neg (by omega)] | exact a3F)
    rw [if_pos rfl,hA5,h8.symm,e5] at h10
    have h11 : k false < m:=by rw [h8.symm] at q1;omega
    rw [s1,aFL,if_pos h11] at h9
    rcases h9.2 with ⟨_,h1⟩ | ⟨h1,_⟩ | ⟨h1,_⟩ | ⟨h1,_⟩ | ⟨h1,_⟩ | ⟨h1,_⟩
    ·rw [hq,List.length_nil] at h1;omega
    all_goals omega
   ·have h9:=mono false 5 h8
    have h10:=gA 5
    rw [e5] at h9 h10
    omega
  ·rw [if_neg hm] at hB
   rcases s3 with s3 | s3 | s3 | s3 | s3 | s3 | s3 | s3 | s3
   ·rw [s3.2.2.1] at hk;simp at hk;omega
   ·rw [s3.2.2] at hB hk
    have hkm : k true = m:=by simp at hk;omega
    rw [hkm,Nat.sub_self,aW] at hB
    exact bno _ (.inl rfl) hB
   ·rw [s3.2.2.1] at hB hk
    have hkm : k true = m:=by simp at hk;omega
    rw [hkm,Nat.sub_self,aW] at hB
    have hq : z.ldq = []:=by
     rcases hB with ⟨h1,_⟩ | ⟨_,h1⟩ | ⟨h1,_⟩ | ⟨h1,_⟩ | ⟨h1,_⟩
     ·omega
     ·rcases h1 with h1 | h1
      ·exact h1
      ·cases hl : z.ldq with
       | nil => rfl
       | cons a l =>
        exfalso
        have h2:=q5 a.tag
        rw [ht,hl] at h2
        rw [hl,aW] at h1
        have h3 : 0 < opn a.tag (a :: l):=by
         unfold opn
         rw [List.countP_pos_iff]
         exact ⟨a,List.mem_cons_self ..,by unfold xO;simp [h1]⟩
        have h4 : pnd a.tag ([] : List Req) = 0:=rfl
        omega
     all_goals omega
    rw [hq,List.length_nil] at q2
    have h7:=hz 7 (by omega) (by omega)
    have h8:=hz 8 (by omega) (by omega)
    have h9:=ts true 7 (n true)
    rw [s2,s3.2.2.1,List.count_append] at h9
    have h10 : ([7] : List Int).count 7 = 1:=rfl
    rcases hgt with h11 | h11
    ·have h12:=sameA h11.symm (by omega)
     rw [s1,s3.2.1,s3.2.2.2] at h12
     have h13 : k false = 0:=by have:=h12.1;simp at this;omega
     rw [h13] at h12
     have h14 : aGI c z 3:=h12.2
     have h15 : kc 4 (Dn p o D false (n false) (k false)) = tot (cK p o D false 4) (n false):=by
      rw [hvA h11.symm 4,h13,s3.2.2.2];simp
     rw [e4,← h11] at h15
     rcases h14 with ⟨h1,_⟩ | ⟨_,h1⟩ | ⟨_,h1⟩ | ⟨h1,_⟩ | ⟨h1,_⟩ | ⟨h1,_⟩
     ·omega
     ·have h16:=List.length_pos_iff.2 h1
      rw [← h11] at q3l
      exact send (n true) hE2 (by rw [e4];omega) h1 (nn _ (by omega))
     ·rw [hq,List.length_nil] at h1;omega
     all_goals omega
    ·have h12:=mono false 3 h11
     have h13:=gA 3
     rw [e3] at h12 h13
     omega
   ·rw [s3.2.2.1] at hk;simp at hk;omega
   ·rw [s3.2.2] at hB hk
    have hkm : k true = m:=by simp at hk;omega
    rw [hkm,Nat.sub_self,aW] at hB
    have hq : (z.sdq.length : Int) ≥ c.sdq:=by rcases hB with ⟨h1,_⟩ | ⟨h1,_⟩ | ⟨_,h1⟩ | ⟨h1,_⟩ | ⟨h1,_⟩ <;> first | exact h1 | omega
    have h8:=hz 8 (by omega) (by omega)
    have h9:=mono false 4 hle
    have h10:=gA 4
    rw [e4] at h9 h10
    exact send (n true) hE2 (by rw [e4];omega) (nn _ (by omega)) (nn _ (by omega))
   ·rw [s3.2.2.1] at hB hk
    have hkm : k true = m:=by simp at hk;omega
    rw [hkm,Nat.sub_self,aW] at hB
    have hq : z.abq = []:=by rcases hB with ⟨h1,_⟩ | ⟨h1,_⟩ | ⟨h1,_⟩ | ⟨h1,_⟩ | ⟨_,h1⟩ <;> first | exact h1 | omega
    rw [hq,List.length_nil] at bqA
    have h8:=hz 10 (by omega) (by omega)
    have h9:=ts true 10 (n true)
    rw [s2,s3.2.2.1,List.count_append] at h9
    have h10 : ([10] : List Int).count 10 = 1:=rfl
    rcases hgt with h11 | h11
    ·have h12:=sameA h11.symm (by omega)
     rw [s1,s3.2.1,s3.2.2.2] at h12
     have h13 : k false = 0:=by have:=h12.1;simp at this;omega
     rw [h13] at h12
     have h14 : aGI c z 9:=h12.2
     rcases h14 with ⟨h1,_⟩ | ⟨h1,_⟩ | ⟨h1,_⟩ | ⟨h1,_⟩ | ⟨_,h1⟩ | ⟨h1,_⟩
     ·omega
     ·omega
     ·omega
     ·omega
     ·rw [hq,List.length_nil] at h1;omega
     ·omega
    ·have h12:=mono false 9 h11
     have h13:=gA 9
     rw [e9] at h12 h13
     omega
   ·rw [s3.2.2] at hB hk
    have hkm : k true = m:=by simp at hk;omega
    rw [hkm,Nat.sub_self,aW] at hB
    have hq : (z.ebq.length : Int) ≥ c.ebq:=by rcases hB with ⟨h1,_⟩ | ⟨h1,_⟩ | ⟨h1,_⟩ | ⟨_,h1⟩ | ⟨h1,_⟩ <;> first | exact h1 | omega
    have h8:=hz 9 (by omega) (by omega)
    have h9:=mono false 10 hle
    have h10:=gA 10
    rw [e10] at h9 h10
    omega
   ·rw [s3.2.2.1] at hB hk
    have hkm : k true = m:=by simp at hk;omega
    rw [hkm,Nat.sub_self,aW] at hB
    exact bno _ (.inr (.inl rfl)) hB
   ·rw [s3.2.2.1] at hB hk
    have hkm : k true = m:=by simp at hk;omega
    rw [hkm,Nat.sub_self,aW] at hB
    exact bno _ (.inr (.inr rfl)) hB
 ·by_cases hA : z.a.halted = true ∨ dB z (n false) = true
  case neg =>
   rcases sA with h1 | h1 | ⟨_,h2,h3,h4,h5⟩
   ·exact hA (.inl h1)
   ·exact hA (.inr h1.2)
   ·have hlt : n false < n true:=by
     rcases hE with h6 | h6
     ·have h7:=halE h6
      rcases Nat.lt_or_ge (n false) (n true) with h8 | h8
      ·exact h8
      ·exfalso
       have h9 : n false = n true:=by omega
       rw [← h9] at h7
       have h10:=(vJ (o:=o) (e:=false) hr h4 (by rw [eX];exact h3)).2.2.2.2 h7.1
       rw [h10] at h5
       rcases h5 with h5 | h5
       ·rcases h5 with ⟨h1,_⟩ | ⟨h1,_⟩ | ⟨h1,_⟩ | ⟨h1,_⟩ | ⟨h1,_⟩ | ⟨h1,_⟩ <;> omega
       ·rw [h6] at h5;cases h5.1
     ·have h7:=aAZ h6
      rcases aJ5 h2 with h8 | h8
      ·exact absurd h8 h7.1
      ·omega
    rcases h5 with h5 | h5
    ·exact aCase hlt h2 h3 h4 h5
    ·omega
  obtain ⟨e0,he0,ho⟩:=List.any_eq_true.1 (hov hE hA)
  obtain ⟨i,hi,rfl⟩:=xS he0
  have hne : ¬ z.saq = []:=fun h1 => by rw [h1] at hi;cases hi
  unfold aAT at ho
  rw [zaV,zaK,zaK] at ho
  have putH : z.e.halted = true → kc 4 (Dn p o D false (n false) (k false)) ≤ kc 8 (Dn p o D true (n true) (k true)):=fun h1 => by
   have h2:=halE h1
   have h3:=gE 8
   rcases Nat.lt_or_ge (n false) (n true) with h4 | h4
   ·have h5:=lA 4
    have h6:=mono false 4 (show n false + 1 ≤ n true from h4)
    rw [e4] at h5 h6
    omega
   ·have h5 : n false = n true:=by omega
    have h6:=vA 4
    rw [h5] at h6
    have h7 : ((kin p o false (rho p D (n true))).take (k false)).count 4 = 0:=by
     by_cases hN : rho p D (n true) < p.code.length
     ·obtain ⟨m,tA,tE,s1,s2,s3⟩:=shape (o:=o) hr hN
      rw [s1,aAY,if_neg (by omega)]
      rcases s3 with s3 | s3 | s3 | s3 | s3 | s3 | s3 | s3 | s3
      all_goals first
       |(exfalso;omega)
       |(rw [s3.2.1,aRR,if_neg (by omega)])
     ·rw [aJ0 (by omega)];simp
    rw [h7,e4] at h6
    rw [h5]
    omega
  by_cases hk0 : z.bP.kind = 0
  ·have hEh : z.e.halted = true:=by
    rcases hE with h1 | h1
    ·exact h1
    ·exact absurd hk0 (aAZ h1).1
   have h2:=putH hEh
   exact can hne (nn _ (by omega)) (.inl hk0)
  ·have ho:=ho.resolve_left hk0
   have hsi:=hstep i hi
   have hs0:=hstep 0 (by omega)
   have hlt : z.writes.length + i < tot (cK p o D false 4) z.bP.step.toNat:=by
    rcases Nat.lt_or_ge (z.writes.length + i) (tot (cK p o D false 4) z.bP.step.toNat) with h1 | h1
    ·exact h1
    ·have:=(aO9 (p:=p) (o:=o) (D:=D) (e:=false) (K:=4) (n:=n false) (k:=k false) (T:=z.bP.step.toNat)).2 h1 hsi.2
     omega
   have h0:=(aO9 (p:=p) (o:=o) (D:=D) (e:=false) (K:=4) (n:=n false) (k:=k false) (T:=z.bP.step.toNat) (i:=z.writes.length + 0)).1 (by omega) hs0.2
   refine can hne (nn _ ?_) (.inr (by omega))
   rcases hE with h1 | h1
   ·have h2:=putH h1
    omega
   ·have h2:=(aAZ h1).2
    have h3:=gE 8
    have h4:=mono true 8 (show z.bP.step.toNat ≤ n true by omega)
    rw [e4] at hlt
    omega
end
end Go.Proofs.Ytooojfbfobmkfaa
namespace Go.Proofs.Ytooojfbfobmkfaa
open Go.Ra
set_option linter.unusedVariables false
set_option linter.unusedSimpArgs false
structure Tim (x : Stt) (w : Int) : Prop where
 a : ∀ r : Nat,1 ≤ r → r ≤ 15 → x.a.ready r ≤ x.aG + w
 e : ∀ r : Nat,1 ≤ r → r ≤ 15 → x.e.ready r ≤ x.aG + w
 wa : x.a.wait ≤ x.aG + w
 we : x.e.wait ≤ x.aG + w
theorem aRS {d : cM} {K : Cell} {n : Int} (h : ∀ r : Nat,1 ≤ r → r ≤ 15 → 0 ≤ d.ready r ∧ d.ready r ≤ n) : uF d K n = true:=by
 unfold uF
 rw [List.all_eq_true]
 intro r hr
 have h1 : oQ r = true:=(List.mem_filter.1 (show r ∈ aJW K from hr)).2
 simp only [oQ,zaK] at h1
 have h2:=h r.toNat (by omega) (by omega)
 rw [decide_eq_false (by omega),decide_eq_false (by omega)]
 rfl
theorem n6 {x : Stt} {kd st pc : Int} (h : (eO x kd st pc).bP = x.bP) (hk : ¬ kd = 0) : dB x st = true ∧ eO x kd st pc = x:=by
 unfold eO at h ⊢
 split at h
 ·rename_i g
  have h2 : x.bP.kind = kd ∧ x.bP.step = st:=by rw [← h];exact ⟨rfl,rfl⟩
  omega
 ·rename_i g
  rw [if_neg g]
  refine ⟨?_,rfl⟩
  unfold dB
  rw [zaG,zaK,zaK]
  omega
theorem mB {t : List Int} {z : Int} {m k : Nat} (h : t = [z]) (hm : k < m + t.length) (hk : ¬ k < m) : ix t (k - m) = z:=by
 subst h
 have e : k - m = 0:=by simp at hm;omega
 rw [e];rfl
section
variable {c : Cfg} {p : Prog} {o : Nat → Int} {s : Split} (hs : Spl p o s) {D : Nat → Bool} {n k : Bool → Nat} {x : Stt}
include hs
theorem a3G {i : Nat} (hi : i < p.code.length) {m : Nat} (hm : m < (kin p o true i).length) : ix (kin p o true i) m = 6 ∨ ix (kin p o true i) m = 1 ∨ (7 ≤ ix (kin p o true i) m ∧ ix (kin p o true i) m ≤ 12):=by
 obtain ⟨t,tA,tE,s1,s2,s3⟩:=shape (o:=o) hs.rp hi
 rw [s2,List.length_append,List.length_replicate] at hm
 rw [s2,aFL]
 split
 ·exact .inl rfl
 ·rename_i hg
  rcases s3 with s3 | s3 | s3 | s3 | s3 | s3 | s3 | s3 | s3
  ·rw [s3.2.2.1] at hm;simp at hm;omega
  ·rw [mB s3.2.2 hm hg];omega
  ·rw [mB s3.2.2.1 hm hg];omega
  ·rw [s3.2.2.1] at hm;simp at hm;omega
  ·rw [mB s3.2.2 hm hg];omega
  ·rw [mB s3.2.2.1 hm hg];omega
  ·rw [mB s3.2.2 hm hg];omega
  ·rw [mB s3.2.2.1 hm hg];omega
  ·rw [mB s3.2.2.1 hm hg];omega
theorem a3H {i : Nat} (hi : i < p.code.length) {m : Nat} (hm : m < (kin p o false i).length) : (1 ≤ ix (kin p o false i) m ∧ ix (kin p o false i) m ≤ 5) ∨ (9 ≤ ix (kin p o false i) m ∧ ix (kin p o false i) m ≤ 12):=by
 obtain ⟨t,tA,tE,s1,s2,s3⟩:=shape (o:=o) hs.rp hi
 rw [s1,List.length_append,List.length_replicate] at hm
 rw [s1,aFL]
 split
 ·exact .inl (by omega)
 ·rename_i hg
  rcases s3 with s3 | s3 | s3 | s3 | s3 | s3 | s3 | s3 | s3
  ·rw [mB s3.2.1 hm hg];omega
  ·rw [s3.2.1] at hm;simp at hm;omega
  all_goals
   rw [mB s3.2.1 hm hg];omega
theorem aY0 {m i B j : Nat} (hr : aY c s x = true) (h : Stl p o D true (aT s true x.e.pos) m i B j) (hm : m ≤ 1099511627776) : aY c s (atE s x) = true:=by
 have hb:=h.1.hb
 have hnb:=hs.nb
 have hl:=hs.vH hb true
 have hidx : (aT s true x.e.pos).1.index ≤ ((jX s true (B : Int)).length : Int) ∧ 0 ≤ (aT s true x.e.pos).1.index:=by
  rw [h.1.idx]
  rcases h.2 with ⟨_,hk,hj⟩ | ⟨_,_,hk,hj,_⟩
  ·rw [h.1.pc] at hk
   have:=(hs.aFE hb true hj hk).1
   omega
  ·rw [hl,hk,show dL p B - cV p B = j by omega]
   omega
 have hcel : rL s true (B : Int) = jX s true (B : Int):=by
  unfold rL jX
  rw [if_neg (show ¬ ((B : Int) < 0 ∨ (B : Int) ≥ (s.blocks.length : Int)) by omega)]
 have hbase:=h.1.base
 have hb0:=h.1.aFH
 have key : iT s true (atE s x).e = true:=by
  have h1 : iT s true x.e = true:=by
   simp only [aY,zaG] at hr
   exact hr.2.2.1
  simp only [iT,cE,List.all_cons,List.all_nil,zaT,zaG,zaK] at h1 ⊢
  refine ⟨?_, ?_,⟨?_,h1.2.2.1.2⟩,h1.2.2.2⟩
  ·show 0 ≤ (aT s true x.e.pos).1.block ∧ (aT s true x.e.pos).1.block < _
   rw [h.1.blk];omega
  ·show 0 ≤ (aT s true x.e.pos).1.index ∧ (aT s true x.e.pos).1.index ≤ ((rL s true (aT s true x.e.pos).1.block).length : Int)
   rw [h.1.blk,hcel];omega
  ·show 0 ≤ (aT s true x.e.pos).1.base ∧ (aT s true x.e.pos).1.base ≤ 1099511627776
   omega
 unfold aY at hr ⊢
 rw [zaG,zaG,zaG] at hr ⊢
 exact ⟨hr.1,hr.2.1,key,hr.2.2.2⟩
theorem live (h : Inv c p o D n k x) (hn : n true ≤ 1000000000 ∧ n false ≤ 1000000000) (hr : aY c s x = true) (ht : Tim x 0) (hta : x.table = []) (hcan : nR c x = false) (hov : pO c s x = false)
  (h1 : (eF c s x).e.done = x.e.done) (h2 : (eF c s x).bP = x.bP) (h3 : (fT c s (eF c s x)).a.done = x.a.done) (h4 : (fT c s (eF c s x)).bP = x.bP) : False:=by
 have hc:=n5 hr
 have hg:=jY hc
 obtain ⟨r1,r2,hcy,hda,hde,hra⟩:=uN hr
 have hkn : knS x.saq = 0:=by rw [hta] at r1;exact r1.symm
 have hN:=(rO hs.rp).2
 have hpe : ∀ r : Nat,1 ≤ r → r ≤ 15 → 0 ≤ x.a.ready r ∧ x.a.ready r ≤ x.aG:=fun r ha hb => by
  refine ⟨?_,by have:=ht.a r ha hb;omega⟩
  by_cases h5 : x.a.ready r < 0
  ·obtain ⟨q,hq,_⟩:=h.cnt.pe r ha hb h5
   rw [hta] at hq;cases hq
  ·omega
 have hpe2 : ∀ r : Nat,1 ≤ r → r ≤ 15 → 0 ≤ x.e.ready r ∧ x.e.ready r ≤ x.aG:=fun r ha hb => ⟨h.cnt.rde r ha hb,by have:=ht.e r ha hb;omega⟩
 have hwe : ¬ x.e.wait > x.aG:=by have:=ht.we;omega
 have hwa : ¬ x.a.wait > x.aG:=by have:=ht.wa;omega
 have hRf : ¬ aY c s x = false:=by rw [hr];simp
 obtain ⟨n1,k1,y,hy,hI,hq,hn1,hRy,hE,hnE⟩ : ∃ n1 k1 y,eF c s x = y ∧ Inv c p o D n1 k1 y ∧ (y.a = x.a ∧ y.ldq = x.ldq ∧ y.sdq = x.sdq ∧ y.aeq = x.aeq ∧ y.abq = x.abq ∧ y.ebq = x.ebq ∧ y.saq = x.saq ∧ y.table = x.table ∧ y.mem = x.mem ∧ y.bP = x.bP ∧ y.aG = x.aG ∧ y.e.halted = x.e.halted) ∧ (n1 true ≤ 1000003000 ∧ n1 false = n false) ∧ aY c s y = true ∧
   (y.e.halted = true ∨ (y.e.halted = false ∧ dB y (n1 true) = true) ∨ (y.e.halted = false ∧ dB y (n1 true) = false ∧ k1 true < (cel p o true (rho p D (n1 true))).length ∧ rho p D (n1 true) < p.code.length ∧ aJ4 c y (ix (kin p o true (rho p D (n1 true))) (k1 true)))) ∧
   (y.e.halted = false → (bY s true y.e.pos).2.1 = (n1 true : Int) ∧ (bY s true x.e.pos).2.1 = (n1 true : Int)):=by
  by_cases hh : x.e.halted = true
  ·refine ⟨n,k,x, ?_,h,⟨rfl,rfl,rfl,rfl,rfl,rfl,rfl,rfl,rfl,rfl,rfl,rfl⟩,⟨by omega,rfl⟩,hr,.inl hh,fun h5 => by rw [hh] at h5;cases h5⟩
   unfold eF
   rw [if_pos (.inr (.inl hh))]
  have hhf : x.e.halted = false:=by simpa using hh
  obtain ⟨m,i,B,j,a1,a2,a3,a4⟩:=h.aO6 hs true (by omega) (y:=atE s x) (by funext e;cases e <;> rfl) (by funext e;cases e <;> rfl) (by funext e;cases e <;> rfl) hhf (fun hA hE hc => by
   obtain ⟨q1,q2,q3,q4,q5,q6,q7,q8⟩:=hc
   exact ⟨q1,q2,q3,q4,q5,q6,q7,q8⟩)
  have a2 : Stl p o D true (aT s true x.e.pos) m i B j:=a2
  obtain ⟨b1,b2⟩:=aC6 hs a2 (by omega)
  have e1 : bY s true (atE s x).e.pos = bY s true x.e.pos:=b1
  have e2 : (bY s true x.e.pos).2.1 = (m : Int):=by rw [b2]
  have hyy : eF c s x = atE s x ∧ (dB x m = true ∨ (dB x m = false ∧ i < (cel p o true (rho p D m)).length ∧ rho p D m < p.code.length ∧ aJ4 c x (ix (kin p o true (rho p D m)) i))):=by
   unfold eF at h1 h2 ⊢
   rw [if_neg (by rintro (h5 | h5 | h5);exact hRf h5;exact hh h5;exact hwe h5)] at h1 h2 ⊢
   rw [e1,e2] at h1 h2 ⊢
   by_cases hf : (aT s true x.e.pos).2 = true
   ·rw [if_pos hf] at h1 h2 ⊢
    obtain ⟨c1,c2⟩:=n6 h2 (by omega)
    exact ⟨c2,.inl c1⟩
   ·rw [if_neg hf] at h1 h2 ⊢
    have a2':=a2.2.resolve_right (fun h => hf h.1)
    obtain ⟨_,hk,hj⟩:=a2'
    have hi : rho p D m < p.code.length:=by have:=eP a2.1.hb;have:=a2.1.pc;omega
    by_cases hst : dB x m = true
    ·rw [if_pos (.inl hst)]
     exact ⟨rfl,.inl hst⟩
    ·have hstf : dB x m = false:=by simpa using hst
     rw [if_neg (by
             rintro (h5 | h5)
             ·exact hst h5
             ·rw [aRS hpe2] at h5;cases h5)] at h1 h2 ⊢
     rw [b2] at h1 h2 ⊢
     simp only [hf,if_false,zaU] at h1 h2 ⊢
     have hkk:=a3G hs hi (by rw [eX];exact hk)
     rw [← uL hk] at hkk ⊢
     have hdone:=a3E hde
     have hsd : ∀ (d : cM) (a w r : Int),(onF (dE d a w r)).done = IntKind.i64.wrap (d.done + 1):=fun d a w r => by
      show IntKind.i64.wrap ((dE d a w r).done + 1) = _
      rw [(eB d a w r).2.2.2]
     have hkd : (e8 (j : Int) (ix (cel p o true (rho p D m)) i)).kind = (ix (cel p o true (rho p D m)) i).kind:=rfl
     rw [← hkd] at hkk ⊢
     generalize e8 (j : Int) (ix (cel p o true (rho p D m)) i) = cell at h1 h2 hkk ⊢
     have fin : pV c s (atE s x) cell m = atE s x ∧ aJ4 c x cell.kind:=by
      unfold pV at h1 h2 ⊢
      by_cases k1 : cell.kind = 1
      ·rw [if_pos k1] at h1 h2 ⊢
       by_cases g : doK (atE s x).e cell.ins = true
       ·rw [if_pos g] at h1
        exact absurd ((hsd _ _ _ _).symm.trans h1) hdone
       ·rw [if_neg g] at h2
        have:=(n6 h2 (by omega)).1
        exact absurd this hst
      rw [if_neg k1] at h1 h2 ⊢
      by_cases k6 : cell.kind = 6
      ·rw [if_pos k6] at h1 h2 ⊢
       by_cases g : (atE s x).aeq = []
       ·rw [if_pos g];exact ⟨rfl,.inl ⟨k6,g⟩⟩
       ·rw [if_neg g] at h1
        exact absurd ((hsd _ _ _ _).symm.trans h1) hdone
      rw [if_neg k6] at h1 h2 ⊢
      by_cases k7 : cell.kind = 7
      ·rw [if_pos k7] at h1 h2 ⊢
       by_cases g : (xR (atE s x).ldq).2.2 = true
       ·rw [if_pos g] at h1
        exact absurd ((hsd _ _ _ _).symm.trans h1) hdone
       ·rw [if_neg g]
        refine ⟨rfl,.inr (.inl ⟨k7, ?_⟩)⟩
        by_cases hpq : x.ldq = [] ∨ (ix x.ldq 0).full = false
        ·exact hpq
        ·exfalso
         apply g
         show (xR x.ldq).2.2 = true
         unfold xR;rw [if_neg hpq]
      rw [if_neg k7] at h1 h2 ⊢
      by_cases k8 : cell.kind = 8
      ·rw [if_pos k8] at h1 h2 ⊢
       by_cases g : ((atE s x).sdq.length : Int) < c.sdq
       ·rw [if_pos g] at h1
        exact absurd h1 hdone
       ·rw [if_neg g];exact ⟨rfl,.inr (.inr (.inl ⟨k8,Int.not_lt.1 g⟩))⟩
      rw [if_neg k8] at h1 h2 ⊢
      by_cases k9 : cell.kind = 9
      ·rw [if_pos k9] at h1 h2 ⊢
       by_cases g : ((atE s x).ebq.length : Int) < c.ebq
       ·rw [if_pos g] at h1
        exact absurd h1 hdone
       ·rw [if_neg g];exact ⟨rfl,.inr (.inr (.inr (.inl ⟨k9,Int.not_lt.1 g⟩)))⟩
      rw [if_neg k9] at h1 h2 ⊢
      by_cases k10 : cell.kind = 10
      ·rw [if_pos k10] at h1 h2 ⊢
       by_cases g : (atE s x).abq = []
       ·rw [if_pos g];exact ⟨rfl,.inr (.inr (.inr (.inr ⟨k10,g⟩)))⟩
       ·rw [if_neg g] at h1
        exact absurd h1 hdone
      rw [if_neg k10] at h1 h2 ⊢
      by_cases k11 : cell.kind = 11
      ·rw [if_pos k11] at h1
       exact absurd h1 hdone
      rw [if_neg k11] at h1 h2 ⊢
      by_cases k12 : cell.kind = 12
      ·rw [if_pos k12] at h1
       exact absurd h1 hdone
      ·omega
     exact ⟨fin.1,.inr ⟨hstf,hk,hi,fin.2⟩⟩
  refine ⟨cW n true m,cW k true i,atE s x,hyy.1,a1,⟨rfl,rfl,rfl,rfl,rfl,rfl,rfl,rfl,rfl,rfl,rfl,rfl⟩,⟨by show m ≤ _;omega,rfl⟩,aY0 hs hr a2 (by omega),.inr ?_,fun _ => ⟨by rw [e1];exact e2,e2⟩⟩
  rcases hyy.2 with h5 | h5
  ·exact .inl ⟨hhf,h5⟩
  ·exact .inr ⟨hhf,h5⟩
 rw [hy] at h1 h2 h3 h4
 obtain ⟨y1,y2,y3,y4,y5,y6,y7,y8,y9,y10,y11,y12⟩:=hq
 have hst : ∀ v : Int,dB y v = dB x v:=fun v => by unfold dB;rw [y10]
 have hRyf : ¬ aY c s y = false:=by rw [hRy];simp
 obtain ⟨n2,k2,z,hI2,hq2,hn2,hA,hkA,hnA⟩ : ∃ n2 k2 z,Inv c p o D n2 k2 z ∧ (z.e = y.e ∧ z.ldq = y.ldq ∧ z.sdq = y.sdq ∧ z.aeq = y.aeq ∧ z.abq = y.abq ∧ z.ebq = y.ebq ∧ z.saq = y.saq ∧ z.table = y.table ∧ z.bP = y.bP ∧ z.a.halted = y.a.halted) ∧ (n2 true = n1 true ∧ k2 true = k1 true) ∧
   (z.a.halted = true ∨ (z.a.halted = false ∧ dB y (n2 false) = true) ∨ (z.a.halted = false ∧ dB y (n2 false) = false ∧ k2 false < (cel p o false (rho p D (n2 false))).length ∧ rho p D (n2 false) < p.code.length ∧ (aGI c y (ix (kin p o false (rho p D (n2 false))) (k2 false)) ∨ (z.e.halted = false ∧ (n2 false : Int) ≥ (n1 true : Int) + c.nI)))) ∧
   (z.a.halted = false → rho p D (n2 false) < p.code.length → k2 false < (cel p o false (rho p D (n2 false))).length) ∧ (y.a.halted = false → (bY s false x.a.pos).2.1 = (n2 false : Int)):=by
  by_cases hh : y.a.halted = true
  ·exact ⟨n1,k1,y,hI,⟨rfl,rfl,rfl,rfl,rfl,rfl,rfl,rfl,rfl,rfl⟩,⟨rfl,rfl⟩,.inl hh,fun h5 => (by rw [hh] at h5;cases h5),fun h5 => (by rw [hh] at h5;cases h5)⟩
  have hhf : y.a.halted = false:=by simpa using hh
  obtain ⟨m,i,B,j,a1,a2,a3,a4⟩:=hI.aO6 hs false (by omega) (y:=atA s y) (by funext e;cases e <;> rfl) (by funext e;cases e <;> rfl) (by funext e;cases e <;> rfl) hhf (fun hA hE hc => by
   obtain ⟨q1,q2,q3,q4,q5,q6,q7,q8⟩:=hc
   exact ⟨q1,q2,q3,q4,q5,q6,q7,q8⟩)
  have a2 : Stl p o D false (aT s false y.a.pos) m i B j:=a2
  obtain ⟨b1,b2⟩:=aC6 hs a2 (by omega)
  have e1 : bY s false (atA s y).a.pos = bY s false y.a.pos:=b1
  have e2 : (bY s false y.a.pos).2.1 = (m : Int):=by rw [b2]
  have hnx : (bY s false x.a.pos).2.1 = (m : Int):=by rw [← y1];exact e2
  have hkk : rho p D m < p.code.length → i < (cel p o false (rho p D m)).length:=fun h5 => by
   rcases a2.2 with h6 | h6
   ·exact h6.2.1
   ·omega
  refine ⟨cW n1 false m,cW k1 false i,atA s y,a1,⟨rfl,rfl,rfl,rfl,rfl,rfl,rfl,rfl,rfl,rfl⟩,⟨rfl,rfl⟩,.inr ?_,fun _ => hkk,fun _ => hnx⟩
  by_cases hsm : dB y m = true
  ·exact .inl ⟨hhf,hsm⟩
  have hsmf : dB y m = false:=by simpa using hsm
  refine .inr ⟨hhf,hsmf, ?_⟩
  show i < (cel p o false (rho p D m)).length ∧ rho p D m < p.code.length ∧ (aGI c y (ix (kin p o false (rho p D m)) i) ∨ (y.e.halted = false ∧ (m : Int) ≥ (n1 true : Int) + c.nI))
  have h4' : (fT c s y).bP = y.bP:=by rw [h4,y10]
  have h3' : (fT c s y).a.done = y.a.done:=by rw [h3,y1]
  clear h3 h4
  unfold fT at h3' h4'
  rw [if_neg (by rintro (h5 | h5 | h5);exact hRyf h5;exact hh h5;rw [y1,y11] at h5;exact hwa h5)] at h3' h4'
  rw [e1,e2] at h3' h4'
  by_cases hf : (aT s false y.a.pos).2 = true
  ·rw [if_pos hf] at h4'
   exact absurd (n6 h4' (by omega)).1 hsm
  rw [if_neg hf] at h3' h4'
  have a2':=a2.2.resolve_right (fun h => hf h.1)
  obtain ⟨_,hk,hj⟩:=a2'
  have hi : rho p D m < p.code.length:=by have:=eP a2.1.hb;have:=a2.1.pc;omega
  refine ⟨hk,hi, ?_⟩
  by_cases hah : uI c s (atA s y) = true
  ·refine .inr ?_
   unfold uI at hah
   simp only [zaG,zaK,Bool.not_eq_true'] at hah
   have h5 : y.e.halted = false:=hah.1
   refine ⟨h5, ?_⟩
   have h6:=hah.2.2.2
   have h7 : (bY s true (atA s y).e.pos).2.1 = (n1 true : Int):=(hnE h5).1
   rw [e1,e2,h7,wrap_i64 (by omega) (by omega)] at h6
   exact h6
  refine .inl ?_
  rw [if_neg (by
          rintro (h5 | h5 | h5)
          ·exact hsm h5
          ·exact hah h5
          ·rw [aRS (by rw [y1,y11];exact hpe)] at h5;cases h5)] at h3' h4'
  rw [b2] at h3' h4'
  simp only [hf,if_false,zaU] at h3' h4'
  have hkd:=a3H hs hi (by rw [eX];exact hk)
  rw [← uL hk] at hkd ⊢
  have hdone : ¬ IntKind.i64.wrap (y.a.done + 1) = y.a.done:=by rw [y1];exact a3E hda
  have hsd : ∀ (d : cM) (a w r : Int),(onF (dE d a w r)).done = IntKind.i64.wrap (d.done + 1):=fun d a w r => by
   show IntKind.i64.wrap ((dE d a w r).done + 1) = _
   rw [(eB d a w r).2.2.2]
  have hkd2 : (e8 (j : Int) (ix (cel p o false (rho p D m)) i)).kind = (ix (cel p o false (rho p D m)) i).kind:=rfl
  rw [← hkd2] at hkd ⊢
  generalize e8 (j : Int) (ix (cel p o false (rho p D m)) i) = cell at h3' h4' hkd ⊢
  have hty : y.table = []:=by rw [y8];exact hta
  unfold rN at h3' h4'
  by_cases k1 : cell.kind = 1
  ·rw [if_pos k1] at h3' h4'
   by_cases g : doK (atA s y).a cell.ins = true
   ·rw [if_pos g] at h3'
    exact absurd ((hsd _ _ _ _).symm.trans h3') hdone
   ·rw [if_neg g] at h4'
    exact absurd (n6 h4' (by omega)).1 hsm
  rw [if_neg k1] at h3' h4'
  by_cases k5 : cell.kind = 5
  ·rw [if_pos k5] at h3' h4'
   by_cases g : ((atA s y).aeq.length : Int) < c.aeq
   ·rw [if_pos g] at h3'
    exact absurd h3' hdone
   ·exact .inl ⟨k5,Int.not_lt.1 g⟩
  rw [if_neg k5] at h3' h4'
  by_cases k2 : cell.kind = 2 ∨ cell.kind = 3
  ·rw [if_pos k2,kW c (atA s y) cell _ _ rfl] at h3' h4'
   by_cases g0 : jW (szI cell.ins.op) (pW (atA s y).a cell.ins) (atA s y).mem.length = 0
   case neg =>
    rw [if_pos g0] at h4'
    exact absurd (n6 h4' g0).1 hsm
   rw [if_neg (fun h5 => h5 g0)] at h3' h4'
   by_cases g1 : ((jZ (atA s y).saq (IntKind.i64.wrap (pW (atA s y).a cell.ins)) (szI cell.ins.op)).2 = true ∧ (uE (jZ (atA s y).saq (IntKind.i64.wrap (pW (atA s y).a cell.ins)) (szI cell.ins.op)).1 cell.ins.op (IntKind.i64.wrap (pW (atA s y).a cell.ins))).2 = false) ∨ ((jZ (atA s y).saq (IntKind.i64.wrap (pW (atA s y).a cell.ins)) (szI cell.ins.op)).2 = false ∧ ((atA s y).table.length : Int) ≥ c.cA)
   ·refine .inr (.inl ⟨k2,fun hnil => ?_⟩)
    rcases g1 with ⟨g1,_⟩ | ⟨_,g1⟩
    ·have h5 : (atA s y).saq = []:=hnil
     rw [h5] at g1
     cases g1
    ·have h5 : (atA s y).table = []:=hty
     rw [h5,List.length_nil] at g1
     omega
   rw [if_neg g1] at h3' h4'
   by_cases k3 : cell.kind = 3
   ·rw [if_pos k3] at h3' h4'
    by_cases g2 : ((atA s y).ldq.length : Int) ≥ c.ldq
    ·exact .inr (.inr (.inl ⟨k3,g2⟩))
    ·rw [if_neg g2] at h3'
     split at h3'
     ·exact absurd h3' hdone
     ·exact absurd h3' hdone
   ·rw [if_neg k3] at h3'
    split at h3'
    ·exact absurd ((hsd _ _ _ _).symm.trans h3') hdone
    ·exfalso
     have h5 : IntKind.i64.wrap (cM.done (if cell.ins.d = 0 then (atA s y).a else { (atA s y).a with ready:=fun i => bif Nat.beq i cell.ins.d.toNat then -1 else (atA s y).a.ready i }) + 1) = y.a.done:=h3'
     split at h5
     ·exact hdone h5
     ·exact hdone h5
  rw [if_neg k2] at h3' h4'
  by_cases k4 : cell.kind = 4
  ·rw [if_pos k4] at h3' h4'
   by_cases g0 : jW (szI cell.ins.op) (pW (atA s y).a cell.ins) (atA s y).mem.length = 0
   case neg =>
    rw [if_pos g0] at h4'
    exact absurd (n6 h4' g0).1 hsm
   rw [if_neg (fun h5 => h5 g0)] at h3' h4'
   by_cases g2 : ((atA s y).saq.length : Int) ≥ c.saq
   ·exact .inr (.inr (.inr (.inl ⟨k4,g2⟩)))
   ·rw [if_neg g2] at h3'
    exact absurd h3' hdone
  rw [if_neg k4] at h3' h4'
  by_cases k9 : cell.kind = 9
  ·rw [if_pos k9] at h3' h4'
   by_cases g : ((atA s y).abq.length : Int) < c.abq
   ·rw [if_pos g] at h3'
    exact absurd h3' hdone
   ·exact .inr (.inr (.inr (.inr (.inl ⟨k9,Int.not_lt.1 g⟩))))
  rw [if_neg k9] at h3' h4'
  by_cases k10 : cell.kind = 10
  ·rw [if_pos k10] at h3' h4'
   by_cases g : (atA s y).ebq = []
   ·exact .inr (.inr (.inr (.inr (.inr ⟨k10,g⟩))))
   ·rw [if_neg g] at h3'
    exact absurd h3' hdone
  rw [if_neg k10] at h3' h4'
  by_cases k11 : cell.kind = 11
  ·rw [if_pos k11] at h3'
   exact absurd h3' hdone
  rw [if_neg k11] at h3' h4'
  by_cases k12 : cell.kind = 12
  ·rw [if_pos k12] at h3'
   exact absurd h3' hdone
  ·omega
 obtain ⟨z1,z2,z3,z4,z5,z6,z7,z8,z9,z10⟩:=hq2
 have hsz : ∀ v : Int,dB z v = dB y v:=fun v => by unfold dB;rw [z9]
 have bE : ∀ K,aJ4 c y K → aJ4 c z K:=fun K h5 => by unfold aJ4 at h5 ⊢;rw [z2,z3,z4,z5,z6];exact h5
 have bA : ∀ K,aGI c y K → aGI c z K:=fun K h5 => by unfold aGI at h5 ⊢;rw [z2,z4,z5,z6,z7];exact h5
 refine dead hs.rp hI2 hc (by rw [z8,y8];exact hta) (by rw [z7,y7];exact hkn) ?_ ?_ ?_ hkA ?_
 ·unfold nR at hcan ⊢
  rw [z3,z7,z8,z9,y3,y7,y8,y10]
  exact hcan
 ·rw [hn2.1,hn2.2,z1]
  rcases hE with h5 | ⟨h5,h6⟩ | ⟨h5,h6,h7,h8,h9⟩
  ·exact .inl h5
  ·exact .inr (.inl ⟨h5,by rw [hsz];exact h6⟩)
  ·exact .inr (.inr ⟨h5,by rw [hsz];exact h6,h7,h8,bE _ h9⟩)
 ·rw [hn2.1]
  rcases hA with h5 | ⟨h5,h6⟩ | ⟨h5,h6,h7,h8,h9⟩
  ·exact .inl h5
  ·exact .inr (.inl ⟨h5,by rw [hsz];exact h6⟩)
  ·exact .inr (.inr ⟨h5,by rw [hsz];exact h6,h7,h8,h9.imp (bA _) id⟩)
 ·intro h5 h6
  rw [z1,hn2.1,hsz,hst] at h5
  rw [z10,hsz,hst] at h6
  unfold pO at hov
  rw [hr] at hov
  have r1 : nS s true x.e x = true:=by
   unfold nS
   rw [zaV,← y12]
   cases hh : y.e.halted with
   | true => exact .inl rfl
   | false =>
    rw [hh] at h5
    rw [(hnE hh).2]
    exact .inr (h5.resolve_left (by simp))
  have r2 : nS s false x.a x = true:=by
   unfold nS
   rw [zaV,← y1]
   cases hh : y.a.halted with
   | true => exact .inl rfl
   | false =>
    rw [hh] at h6
    rw [y1,hnA hh]
    exact .inr (h6.resolve_left (by simp))
  rw [r1,r2,hta] at hov
  simp only [zaI,Bool.false_or,zaR,List.length_nil,zaC,Bool.not_eq_false'] at hov
  rw [z7,y7,show aAT z = aAT x by funext e;unfold aAT;rw [z9,y10]]
  exact hov
end
end Go.Proofs.Ytooojfbfobmkfaa
namespace Go.Proofs.Ytooojfbfobmkfaa
open Go.Ra
set_option linter.unusedVariables false
set_option linter.unusedSimpArgs false
theorem pQ (y : Stt) (k st pc : Int) : (eO y k st pc).a = y.a ∧ (eO y k st pc).e = y.e ∧ (eO y k st pc).writes = y.writes ∧ (eO y k st pc).aG = y.aG:=by
 unfold eO;split <;> exact ⟨rfl,rfl,rfl,rfl⟩
theorem a3I (c : Cfg) (s : Split) (x : Stt) : (eF c s x).a = x.a ∧ (eF c s x).writes = x.writes ∧ (eF c s x).aG = x.aG:=by
 have nf:=fun (y : Stt) (k st pc : Int) => pQ y k st pc
 unfold eF
 split
 ·exact ⟨rfl,rfl,rfl⟩
 split
 ·exact ⟨(nf _ _ _ _).1,(nf _ _ _ _).2.2.1,(nf _ _ _ _).2.2.2⟩
 split
 ·exact ⟨rfl,rfl,rfl⟩
 unfold pV
 repeat' split
 all_goals first
  | exact ⟨rfl,rfl,rfl⟩
  | exact ⟨(nf _ _ _ _).1,(nf _ _ _ _).2.2.1,(nf _ _ _ _).2.2.2⟩
theorem a3J (c : Cfg) (s : Split) (x : Stt) : (fT c s x).e = x.e ∧ (fT c s x).writes = x.writes ∧ (fT c s x).aG = x.aG:=by
 have nf:=fun (y : Stt) (k st pc : Int) => pQ y k st pc
 unfold fT
 split
 ·exact ⟨rfl,rfl,rfl⟩
 split
 ·exact ⟨(nf _ _ _ _).2.1,(nf _ _ _ _).2.2.1,(nf _ _ _ _).2.2.2⟩
 split
 ·exact ⟨rfl,rfl,rfl⟩
 unfold rN
 split
 ·split
  ·exact ⟨rfl,rfl,rfl⟩
  ·exact ⟨(nf _ _ _ _).2.1,(nf _ _ _ _).2.2.1,(nf _ _ _ _).2.2.2⟩
 split
 ·split <;> exact ⟨rfl,rfl,rfl⟩
 split
 ·rw [kW c _ _ _ _ rfl]
  split
  ·exact ⟨(nf _ _ _ _).2.1,(nf _ _ _ _).2.2.1,(nf _ _ _ _).2.2.2⟩
  repeat' split
  all_goals exact ⟨rfl,rfl,rfl⟩
 split
 ·split
  ·exact ⟨(nf _ _ _ _).2.1,(nf _ _ _ _).2.2.1,(nf _ _ _ _).2.2.2⟩
  split <;> exact ⟨rfl,rfl,rfl⟩
 repeat' split
 all_goals exact ⟨rfl,rfl,rfl⟩
def Rdy (d : cM) (v : Int) : Prop:=(∀ r : Nat,1 ≤ r → r ≤ 15 → d.ready r ≤ v) ∧ d.wait ≤ v
theorem aA0 {d : cM} {v : Int} (h : Rdy d v) {a w r : Int} (hr : r ≤ v) : Rdy (onF (dE d a w r)) v:=by
 refine ⟨fun i h1 h2 => ?_, ?_⟩
 ·show (dE d a w r).ready i ≤ v
  rcases uO (d:=d) (n:=a) (w:=w) (r:=r) i with h3 | h3
  ·rw [h3];exact h.1 i h1 h2
  ·rw [h3];exact hr
 ·show (dE d a w r).wait ≤ v
  rw [(eB d a w r).2.2.1];exact h.2
theorem qN {s : Split} {d : cM} {v : Int} (h : Rdy d v) {t : Bool} {n : Int} (hr : IntKind.i64.wrap (n + 2) ≤ v) : Rdy (mH s d t n) v:=by
 refine ⟨h.1, ?_⟩
 show (if t = true then IntKind.i64.wrap (n + 2) else d.wait) ≤ v
 split
 ·exact hr
 ·exact h.2
theorem aY1 {c : Cfg} (hc : dD c = true) (op : Int) : aAP c op ≤ c.mul + c.div:=by
 have hg:=jY hc
 unfold aAP
 repeat' split
 all_goals omega
theorem aY2 {c : Cfg} {s : Split} {x : Stt} {v : Int} (hc : dD c = true) (hcy : 0 ≤ x.aG ∧ x.aG ≤ 2000000000000) (hv : x.aG + c.mul + c.div ≤ v) (h : Rdy x.e v) : Rdy (eF c s x).e v:=by
 have hg:=jY hc
 have w1 : ∀ n : Int,0 ≤ n → n ≤ 200 → IntKind.i64.wrap (x.aG + n) = x.aG + n:=fun n h1 h2 => wrap_i64 (by omega) (by omega)
 have hl : ∀ op,IntKind.i64.wrap (x.aG + aAP c op) ≤ v:=fun op => by
  have h1:=vL c op
  have h2:=aY1 hc op
  rw [w1 _ (by omega) (by omega)];omega
 have h1 : IntKind.i64.wrap (x.aG + 1) ≤ v:=by rw [w1 1 (by omega) (by omega)];omega
 have h2 : IntKind.i64.wrap (x.aG + 2) ≤ v:=by rw [w1 2 (by omega) (by omega)];omega
 have ha : Rdy (atE s x).e v:=h
 unfold eF
 split
 ·exact h
 split
 ·rw [(pQ _ _ _ _).2.1];exact ha
 split
 ·exact ha
 unfold pV
 split
 ·split
  ·exact aA0 ha (hl _)
  ·rw [(pQ _ _ _ _).2.1];exact ha
 split
 ·split
  ·exact ha
  ·exact aA0 ha h1
 split
 ·split
  ·exact aA0 ha h1
  ·exact ha
 split
 ·split <;> exact ha
 split
 ·split
  ·exact qN ha h2
  ·exact ha
 split
 ·split
  ·exact ha
  ·exact qN ha h2
 split
 ·exact qN ha h2
 split <;> exact ha
theorem aY3 {c : Cfg} {s : Split} {x : Stt} {v : Int} (hc : dD c = true) (hcy : 0 ≤ x.aG ∧ x.aG ≤ 2000000000000) (hv : x.aG + c.mul + c.div ≤ v) (h : Rdy x.a v) : Rdy (fT c s x).a v:=by
 have hg:=jY hc
 have w1 : ∀ n : Int,0 ≤ n → n ≤ 200 → IntKind.i64.wrap (x.aG + n) = x.aG + n:=fun n h1 h2 => wrap_i64 (by omega) (by omega)
 have hl : ∀ op,IntKind.i64.wrap (x.aG + aAP c op) ≤ v:=fun op => by
  have h1:=vL c op
  have h2:=aY1 hc op
  rw [w1 _ (by omega) (by omega)];omega
 have h1 : IntKind.i64.wrap (x.aG + 1) ≤ v:=by rw [w1 1 (by omega) (by omega)];omega
 have h2 : IntKind.i64.wrap (x.aG + 2) ≤ v:=by rw [w1 2 (by omega) (by omega)];omega
 have ha : Rdy (atA s x).a v:=h
 unfold fT
 split
 ·exact h
 split
 ·rw [(pQ _ _ _ _).1];exact ha
 split
 ·exact ha
 unfold rN
 split
 ·split
  ·exact aA0 ha (hl _)
  ·rw [(pQ _ _ _ _).1];exact ha
 split
 ·split <;> exact ha
 split
 ·rw [kW c _ _ _ _ rfl]
  split
  ·rw [(pQ _ _ _ _).1];exact ha
  split
  ·exact ha
  split
  ·split
   ·exact ha
   split <;> exact ha
  split
  ·exact aA0 ha h1
  ·refine ⟨fun i i1 i2 => ?_, ?_⟩
   ·show cM.ready (if _ then _ else _) i ≤ v
    split
    ·exact ha.1 i i1 i2
    ·show (bif Nat.beq i _ then (-1 : Int) else (atA s x).a.ready i) ≤ v
     cases Nat.beq i (bY s false (atA s x).a.pos).1.ins.d.toNat
     ·exact ha.1 i i1 i2
     ·show (-1 : Int) ≤ v;omega
   ·show cM.wait (if _ then _ else _) ≤ v
    split <;> exact ha.2
 split
 ·split
  ·rw [(pQ _ _ _ _).1];exact ha
  split <;> exact ha
 split
 ·split
  ·exact qN ha h2
  ·exact ha
 split
 ·split
  ·exact ha
  ·exact qN ha h2
 split
 ·exact qN ha h2
 split <;> exact ha
def aCW (s : Split) (x : Stt) (e : Bool) : Bool:=jK x e || dB x (bY s e (gX x e)).2.1
def tP (s : Split) (x : Stt) : Int:=(if aCW s x false then 0 else 1) + (if aCW s x true then 0 else 1)
def sP (c : Cfg) (x : Stt) : Int:=if x.saq = [] ∨ knS x.saq = 1 then 0 else c.lat + 2
theorem aY4 (s : Split) (x : Stt) : 0 ≤ tP s x ∧ tP s x ≤ 2:=by unfold tP;split <;> split <;> omega
theorem bCP : ∀ {a b a' b' : Bool},(a = true → a' = true) → (b = true → b' = true) → ((if a' then (0 : Int) else 1) + (if b' then 0 else 1)) ≤ (if a then 0 else 1) + (if b then 0 else 1) ∧ (((a = false ∧ a' = true) ∨ (b = false ∧ b' = true)) → ((if a' then (0 : Int) else 1) + (if b' then 0 else 1)) < (if a then 0 else 1) + (if b then 0 else 1)):=by decide
theorem Still.rst {s : Split} {x y : Stt} (h : Still s x y) : tP s y ≤ tP s x ∧ (¬ y.bP = x.bP → tP s y < tP s x):=by
 have hh : ∀ e,jK y e = jK x e:=fun e => by cases e;exact h.a.2.2.1;exact h.e.2.2.1
 have mon : ∀ e,aCW s x e = true → aCW s y e = true:=fun e h1 => by
  unfold aCW at h1 ⊢
  rw [hh,h.nx]
  rw [zaV] at h1 ⊢
  rcases h1 with h1 | h1
  ·exact .inl h1
  ·refine .inr ?_
   rcases h.tr with h2 | ⟨h2,e0,h3,h4,_⟩
   ·unfold dB at h1 ⊢;rw [h2];exact h1
   ·unfold dB at h1 h4 ⊢
    simp only [zaG,zaK,zaW,zaP] at h1 h4 ⊢
    refine ⟨h2, ?_⟩
    rcases h4 with h4 | h4
    ·exact absurd h1.1 h4
    ·omega
 have key:=bCP (mon false) (mon true)
 refine ⟨key.1,fun hne => key.2 ?_⟩
 rcases h.tr with h2 | ⟨h2,e0,h3,h4,h5⟩
 ·exact absurd h2 hne
 ·have r1 : aCW s x e0 = false:=by unfold aCW;rw [h5,h4];rfl
  have r2 : aCW s y e0 = true:=by
   unfold aCW
   rw [h.nx,zaV]
   refine .inr ?_
   unfold dB
   rw [zaG,zaK,zaK]
   omega
  cases e0
  ·exact .inl ⟨r1,r2⟩
  ·exact .inr ⟨r1,r2⟩
end Go.Proofs.Ytooojfbfobmkfaa
namespace Go.Proofs.Ytooojfbfobmkfaa
open Go.Ra
set_option linter.unusedVariables false
set_option linter.unusedSimpArgs false
theorem a4V {s : Split} {x y : Stt} (h1 : jK y = jK x) (h2 : gX y = gX x) (h3 : y.bP = x.bP) : tP s y = tP s x:=by
 have h : ∀ e,aCW s y e = aCW s x e:=fun e => by unfold aCW dB;rw [h1,h2,h3]
 unfold tP;rw [h,h]
theorem a3K (c : Cfg) (x : Stt) : (gS c x).a = x.a ∧ (gS c x).e = x.e ∧ (gS c x).aG = x.aG ∧ (gS c x).bP = x.bP ∧ (gS c x).writes = x.writes:=by
 unfold gS;split <;> exact ⟨rfl,rfl,rfl,rfl,rfl⟩
def Pot (c : Cfg) (s : Split) (x : Stt) (m : Int) : Prop:=∃ w : Int,0 ≤ w ∧ Tim x w ∧ w + eG (wgI c.lat) x.table + sP c x + tP s x ≤ m
theorem bCQ {M : Int} (hM : 0 ≤ M) (l : List Req) : 0 ≤ eG (wgI M) l:=a26 fun r => by unfold wgI;split <;> omega
theorem a4W {c : Cfg} (hc : 0 ≤ c.lat) (x : Stt) : 0 ≤ sP c x ∧ sP c x ≤ c.lat + 2:=by unfold sP;split <;> omega
theorem Pot.nn {c : Cfg} {s : Split} {x : Stt} {m : Int} (hc : 0 ≤ c.lat) (h : Pot c s x m) : 0 ≤ m:=by
 obtain ⟨w,h1,_,h2⟩:=h
 have:=bCQ hc x.table
 have:=a4W hc x
 have:=aY4 s x
 omega
theorem a8U (l : List Entry) : knS l ≤ 1:=by unfold knS;split <;> omega
section
variable {c : Cfg} {p : Prog} {o : Nat → Int} {s : Split} (hs : Spl p o s) {D : Nat → Bool} {n k : Bool → Nat} {x : Stt}
include hs
theorem aTU (t : bG) (h : Inv c p o D n k x) (hr : aY c s x = true) (hn : ∀ e,n e ≤ 900000000) (ht : Tim x (c.mul + c.div)) (hw : x.wf) :
  (∃ D' n' k',(∀ e,n' e ≤ n e + 2001) ∧ Inv c p o D' n' k' (fQ c s t x)) ∧ Tim (fQ c s t x) (c.mul + c.div) ∧
  (pO c s x = false → (fQ c s t x).a.done = x.a.done → (fQ c s t x).e.done = x.e.done → (fQ c s t x).writes.length = x.writes.length → ∀ m,Pot c s x m → ∃ m',m' < m ∧ Pot c s (fQ c s t x) m'):=by
 have hc:=n5 hr
 have hg:=jY hc
 obtain ⟨r1,r2,hcy,hda,hde,hra⟩:=uN hr
 obtain ⟨_,_,_,_,hop,hpe,hrde,hlf⟩:=h.cnt
 have ha:=a8T (t:=t) ⟨hg.2.2.2.2.2.2.1.1,hg.2.2.2.2.2.2.1.2⟩ ⟨hg.2.2.2.2.2.2.2.2.2.1.1,hg.2.2.2.2.2.2.2.2.2.1.2⟩ ⟨hcy.1,by omega⟩ (by rw [r1];exact a8U _) hop hpe hlf hw
 have hlat : 1 ≤ c.lat:=hg.2.2.2.2.2.2.2.2.2.1.1
 have e0 : fQ c s t x = { fT c s (eF c s (gS c (mA c t x))) with aG:=IntKind.i64.wrap ((fT c s (eF c s (gS c (mA c t x)))).aG + 1) }:=by unfold fQ;rw [if_pos hr]
 have i1:=h.adv hr ha
 rw [e0]
 generalize mA c t x = x1 at ha i1 ⊢
 have i2:=i1.send hlat
 have f2:=a3K c x1
 have hcan1 : gS c x1 = if nR c x1 then jI x1 else x1:=rfl
 generalize hx2 : gS c x1 = x2 at i2 f2 hcan1 ⊢
 have f3:=a3I c s x2
 obtain ⟨s1,s2,s3,s4,s5,s6,s7,s8,s9,s10,s11,s12,s13⟩:=ha.same
 have c2 : x2.aG = x.aG:=by rw [f2.2.2.1,s1]
 obtain ⟨⟨D3,n3,k3,m1,m2,i3⟩,st3⟩:=i2.bDM hs (by have:=hn true;omega) (by rw [c2];omega)
 have c3 : (eF c s x2).aG = x.aG:=by rw [f3.2.2,c2]
 have hE3 : eF c s x2 = eF c s x2:=rfl
 have ry2 : Rdy x2.e (x.aG + 1 + (c.mul + c.div)):=by
  rw [f2.2.1,s2]
  exact ⟨fun r a b => by have:=ht.e r a b;omega,by have:=ht.we;omega⟩
 have ry3:=aY2 (s:=s) hc (by rw [c2];omega) (by rw [c2];omega) ry2
 have ra2 : Rdy x2.a (x.aG + 1 + (c.mul + c.div)):=by
  rw [f2.1]
  refine ⟨fun r a b => ?_,by have:=ht.wa;rw [s10];omega⟩
  rcases ha.rd r with h1 | h1
  ·rw [h1];have:=ht.a r a b;omega
  ·rw [h1];omega
 have ra3 : Rdy (eF c s x2).a (x.aG + 1 + (c.mul + c.div)):=by rw [f3.1];exact ra2
 generalize hx3 : eF c s x2 = x3 at f3 i3 st3 c3 ry3 ra3 ⊢
 have f4:=a3J c s x3
 obtain ⟨⟨D4,n4,k4,m3,m4,i4⟩,st4⟩:=i3.bDN hs (by have:=hn false;omega) (by rw [c3];omega) hlat
 have ra4:=aY3 (s:=s) hc (by rw [c3];omega) (by rw [c3];omega) ra3
 have c4 : (fT c s x3).aG = x.aG:=by rw [f4.2.2,c3]
 generalize hx4 : fT c s x3 = x4 at f4 i4 st4 c4 ra4 ⊢
 have wcy : IntKind.i64.wrap (x4.aG + 1) = x.aG + 1:=by rw [c4];exact wrap_i64 (by omega) (by omega)
 rw [wcy]
 refine ⟨⟨D4,n4,k4,fun e => ?_, ?_⟩,⟨fun r a b => ra4.1 r a b,fun r a b => ?_,ra4.2, ?_⟩, ?_⟩
 ·cases e
  ·omega
  ·omega
 ·obtain ⟨q1,q2,q3,q4,q5,q6,q7,q8⟩:=i4.cnt
  have hp : gX { x4 with aG:=x.aG + 1 } = gX x4:=by funext e;cases e <;> rfl
  have hb : bqB { x4 with aG:=x.aG + 1 } = bqB x4:=by funext e;cases e <;> rfl
  have hh : jK { x4 with aG:=x.aG + 1 } = jK x4:=by funext e;cases e <;> rfl
  exact ⟨by rw [hp,hb];exact i4.ctl,by rw [hh];exact i4.hal,⟨q1,q2,q3,q4,q5,q6,q7,q8⟩⟩
 ·show x4.e.ready r ≤ x.aG + 1 + (c.mul + c.div)
  rw [f4.1];exact ry3.1 r a b
 ·show x4.e.wait ≤ x.aG + 1 + (c.mul + c.div)
  rw [f4.1];exact ry3.2
 intro hov hd1 hd2 hd3 m ⟨w,hw0,hwt,hwm⟩
 replace hd1 : x4.a.done = x.a.done:=hd1
 replace hd2 : x4.e.done = x.e.done:=hd2
 replace hd3 : x4.writes.length = x.writes.length:=hd3
 have hsaq : x1.saq = x.saq:=by
  rcases ha.st with ⟨h1,_,_⟩ | ⟨_,h2,_⟩
  ·exact h1
  ·exfalso
   rw [f4.2.1,f3.2.1,f2.2.2.2.2] at hd3
   omega
 have S3 : Still s x2 x3:=by
  cases hR : aY c s x2 with
  | false =>
   have : x3 = x2:=by rw [← hx3];unfold eF;rw [if_pos (.inl hR)]
   rw [this];exact .none
  | true =>
   rcases st3 hR with h1 | h1
   ·exfalso
    apply h1
    rw [f4.1] at hd2
    rw [hd2,f2.2.1,s2]
   ·exact h1
 have S4 : Still s x3 x4:=by
  cases hR : aY c s x3 with
  | false =>
   have : x4 = x3:=by rw [← hx4];unfold fT;rw [if_pos (.inl hR)]
   rw [this];exact .none
  | true =>
   rcases st4 hR with h1 | h1
   ·exfalso
    apply h1
    rw [hd1,f3.1,f2.1,s12]
   ·exact h1
 have T1 : tP s x1 = tP s x:=a4V (by funext e;cases e;exact s11;show x1.e.halted = _;rw [s2];rfl) (by funext e;cases e;exact s9;show x1.e.pos = _;rw [s2];rfl) s7
 have T2 : tP s x2 = tP s x1:=a4V (by funext e;cases e;show x2.a.halted = _;rw [f2.1];rfl;show x2.e.halted = _;rw [f2.2.1];rfl) (by funext e;cases e;show x2.a.pos = _;rw [f2.1];rfl;show x2.e.pos = _;rw [f2.2.1];rfl) f2.2.2.2.1
 have T3:=S3.rst
 have T4:=S4.rst
 have T5 : tP s { x4 with aG:=x.aG + 1 } = tP s x4:=rfl
 have tab4 : x4.table = x2.table:=by rw [S4.q.2.2.2.2.2.2.1,S3.q.2.2.2.2.2.2.1]
 have saq4 : x4.saq = x2.saq:=by rw [S4.q.2.2.2.2.2.1,S3.q.2.2.2.2.2.1]
 have P4 : sP c { x4 with aG:=x.aG + 1 } = sP c x2:=by show (if x4.saq = [] ∨ knS x4.saq = 1 then (0 : Int) else c.lat + 2) = _;rw [saq4];rfl
 have P1 : sP c x1 = sP c x:=by unfold sP;rw [hsaq]
 have snd : (nR c x1 = true ∧ eG (wgI c.lat) x2.table + sP c x2 = eG (wgI c.lat) x1.table + sP c x1 - 1) ∨ (nR c x1 = false ∧ x2 = x1):=by
  cases hcn : nR c x1 with
  | false => rw [hcn] at hcan1;exact .inr ⟨rfl,hcan1⟩
  | true =>
   rw [hcn,if_pos rfl] at hcan1
   refine .inl ⟨rfl, ?_⟩
   simp only [nR,zaG,zaK] at hcn
   obtain ⟨u1,u2,_⟩:=hcn
   have l8 : 0 < x1.saq.length:=List.length_pos_iff.2 u1
   have e1 : eG (wgI c.lat) x2.table = eG (wgI c.lat) x1.table + (c.lat + 1):=by
    rw [hcan1]
    show eG (wgI c.lat) (x1.table ++ [_]) = _
    rw [uM]
    show _ + ((if (0 : Int) > 0 then (0 : Int) else c.lat + 1) + 0) = _
    rw [if_neg (by omega),Int.add_zero]
   have hk1 : knS x2.saq = 1:=by
    rw [hcan1]
    unfold knS
    rw [if_pos]
    refine ⟨by show 0 < (x1.saq.set 0 _).length;rw [List.length_set];exact l8, ?_⟩
    show (ix (x1.saq.set 0 _) 0).known = true
    rw [aBI,if_pos ⟨rfl,l8⟩]
   have e2 : sP c x2 = 0:=if_pos (.inr hk1)
   have e3 : sP c x1 = c.lat + 2:=by
    unfold sP
    rw [if_neg]
    rintro (h1 | h1)
    ·exact u1 h1
    ·unfold knS at h1
     split at h1
     ·rename_i h2
      rw [h2.2] at u2;cases u2
     ·cases h1
   omega
 have tim : ∀ w' : Int,0 ≤ w' → w ≤ 1 + w' → Tim { x4 with aG:=x.aG + 1 } w':=fun w' h0 h1 => by
  refine ⟨fun r a b => ?_,fun r a b => ?_, ?_, ?_⟩
  ·show x4.a.ready r ≤ x.aG + 1 + w'
   rw [S4.a.1,S3.a.1,f2.1]
   rcases ha.rd r with h2 | h2
   ·rw [h2];have:=hwt.a r a b;omega
   ·rw [h2];omega
  ·show x4.e.ready r ≤ x.aG + 1 + w'
   rw [S4.e.1,S3.e.1,f2.2.1,s2]
   have:=hwt.e r a b;omega
  ·show x4.a.wait ≤ x.aG + 1 + w'
   rw [S4.a.2.1,S3.a.2.1,f2.1,s10]
   have:=hwt.wa;omega
  ·show x4.e.wait ≤ x.aG + 1 + w'
   rw [S4.e.2.1,S3.e.2.1,f2.2.1,s2]
   have:=hwt.we;omega
 have fin : ∀ w' : Int,0 ≤ w' → w ≤ 1 + w' → w' + eG (wgI c.lat) x2.table + sP c x2 + tP s x4 < w + eG (wgI c.lat) x.table + sP c x + tP s x → ∃ m',m' < m ∧ Pot c s { x4 with aG:=x.aG + 1 } m':=fun w' h0 h1 h2 => by
  refine ⟨w' + eG (wgI c.lat) x2.table + sP c x2 + tP s x4,by omega,w',h0,tim w' h0 h1, ?_⟩
  rw [P4,T5]
  show w' + eG (wgI c.lat) x4.table + sP c x2 + tP s x4 ≤ _
  rw [tab4]
  exact Int.le_refl _
 have hph:=ha.ph
 have hsend : eG (wgI c.lat) x2.table + sP c x2 ≤ eG (wgI c.lat) x1.table + sP c x1:=by
  rcases snd with ⟨_,h1⟩ | ⟨_,h1⟩
  ·omega
  ·rw [h1];exact Int.le_refl _
 have t3:=T3.1
 have t4:=T4.1
 by_cases hwp : 0 < w
 ·exact fin (w - 1) (by omega) (by omega) (by omega)
 by_cases htb : x.table = []
 case neg =>
  have:=ha.dn htb
  exact fin 0 (by omega) (by omega) (by omega)
 have hx1 : x1 = x:=ha.no htb
 rcases snd with ⟨_,h1⟩ | ⟨hcn,h1⟩
 ·exact fin 0 (by omega) (by omega) (by omega)
 by_cases htr3 : x3.bP = x2.bP
 case neg =>
  have:=T3.2 htr3
  exact fin 0 (by omega) (by omega) (by omega)
 by_cases htr4 : x4.bP = x3.bP
 case neg =>
  have:=T4.2 htr4
  exact fin 0 (by omega) (by omega) (by omega)
 exfalso
 have hx2x : x2 = x:=by rw [h1,hx1]
 rw [hx1] at hcn
 have hw00 : w = 0:=by omega
 rw [hw00] at hwt
 have hx3' : eF c s x = x3:=by rw [← hx2x];exact hx3
 refine live hs h ⟨by have:=hn true;omega,by have:=hn false;omega⟩ hr hwt htb hcn hov ?_ ?_ ?_ ?_
 ·rw [hx3',S3.e.2.2.2,hx2x]
 ·rw [hx3',htr3,hx2x]
 ·rw [hx3',hx4];exact hd1
 ·rw [hx3',hx4,htr4,htr3,hx2x]
end
theorem a4X {M : Int} : ∀ {l : List Req},(∀ q ∈ l,0 ≤ q.left ∧ q.left ≤ M) → eG (wgI M) l ≤ l.length * (M + 1)
 | [],_ => by simp [eG]
 | q :: l,h => by
  have h1:=a4X (l:=l) fun r hr => h r (List.mem_cons_of_mem _ hr)
  have h2:=h q (List.mem_cons_self ..)
  have h3 : wgI M q ≤ M + 1:=by unfold wgI;split <;> omega
  show wgI M q + eG (wgI M) l ≤ ((l.length + 1 : Nat) : Int) * (M + 1)
  have h4 : ((l.length + 1 : Nat) : Int) * (M + 1) = (l.length : Int) * (M + 1) + (M + 1):=by
   rw [Int.natCast_add,Int.add_mul];simp
  omega
def j5 (c : Cfg) : Int:=if dD c = false then 0 else 8 + c.mul + c.div + 4 * ((c.cA + 2) * (c.lat + 2))
theorem aY5 {c : Cfg} {p : Prog} {o : Nat → Int} {s : Split} {D : Nat → Bool} {n k : Bool → Nat} {x : Stt} (h : Inv c p o D n k x) (hr : aY c s x = true) (ht : Tim x (c.mul + c.div)) : Pot c s x (j5 c):=by
 have hc:=n5 hr
 have hg:=jY hc
 refine ⟨c.mul + c.div,by omega,ht, ?_⟩
 have h1:=a4X h.cnt.lf
 have h2:=a4W (c:=c) (by omega) x
 have h3:=aY4 s x
 have h4 : (x.table.length : Int) ≤ c.cA:=by
  simp only [aY,aQ5,zaG,zaK] at hr
  exact hr.2.2.2.2.1.2.2.2.2.2.2.1
 have h5 : (x.table.length : Int) * (c.lat + 1) ≤ c.cA * (c.lat + 1):=Int.mul_le_mul_of_nonneg_right h4 (by omega)
 unfold j5
 rw [if_neg (by rw [hc];simp)]
 have e1 : (c.cA + 2) * (c.lat + 2) = c.cA * (c.lat + 1) + c.cA + 2 * c.lat + 4:=by
  rw [Int.add_mul,show c.lat + 2 = (c.lat + 1) + 1 by omega,Int.mul_add c.cA (c.lat + 1) 1]
  omega
 have h6 : 0 ≤ c.cA * (c.lat + 1):=Int.mul_nonneg (by omega) (by omega)
 omega
theorem aTV {c : Cfg} {p : Prog} {o : Nat → Int} {s : Split} (hs : Spl p o s) : Inv c p o (fun _ => false) (fun _ => 0) (fun _ => 0) (kS p) ∧ Tim (kS p) 0:=by
 have hr:=hs.rp
 have e : kS p = aE7 p:=by unfold kS;rw [if_pos hr]
 rw [e]
 have hd : ∀ e',Dn p o (fun _ => false) e' 0 0 = []:=fun e' => by unfold Dn;simp
 refine ⟨⟨⟨fun e' => ⟨0,0, ?_⟩,fun e' m hm => (by omega),fun e' => (by rw [hd,hd];cases e' <;> rfl)⟩,fun e' h => (by cases e' <;> cases h), ?_⟩,⟨fun r _ _ => Int.le_refl _,fun r _ _ => Int.le_refl _,Int.le_refl _,Int.le_refl _⟩⟩
 ·have h0:=aYK hr
  have h1:=aYL hr
  have h2:=eP h0
  refine ⟨by cases e' <;> rfl,h0,h1.symm,by cases e' <;> rfl,by cases e' <;> exact Int.le_refl _,by cases e' <;> rfl,.inl ⟨by omega,Nat.zero_le _,fun h3 => .inl ?_⟩⟩
  show fC (ix p.code 0) = false
  cases h4 : fC (ix p.code 0) with
  | false => rfl
  | true =>
   have:=aC5 (o:=o) hr (by omega) h4 e'
   have h5 : 0 = (cel p o e' 0).length:=h3
   omega
 ·rw [hd,hd]
  exact ⟨rfl,rfl,⟨[],rfl,rfl⟩,rfl,fun t => zaF _,fun r _ _ h => (by cases h),fun r _ _ => Int.le_refl _,fun q hq => (by cases hq)⟩
end Go.Proofs.Ytooojfbfobmkfaa
namespace Go.Proofs.Ytooojfbfobmkfaa
open Go.Ra
@[irreducible] noncomputable def gC : AC:=cdO (trF Try.prog qq 3)
@[irreducible] noncomputable def iU : AC:=cdA [1,1,1,1,1,1,1,0,1,0,0] gC
@[irreducible] noncomputable def mI : AC:=cdA [1,1,1,1,1,1,1,1] gC
theorem oS : trF Try.prog qq 3 = some (115,[(.tmp 10)],gC):=by kernel_rfl
@[irreducible] noncomputable def wM : AC:=cdO (trF Try.prog qq 4)
theorem aGJ : trF Try.prog qq 4 = some (14,[(.tmp 0)],wM):=by kernel_rfl
def aFM : mZ:=[(3,115,[(.tmp 10)],gC),(4,14,[(.tmp 0)],wM)]
theorem aFN : lL (fun p => trF Try.prog qq p.1 = some p.2) aFM:=⟨oS,aGJ,trivial⟩
@[irreducible] noncomputable def wN : AC:=cdO (trF Try.prog qq 6)
theorem aGK : trF Try.prog qq 6 = some (10,[(.tmp 2)],wN):=by kernel_rfl
def aMY : mZ:=[(6,10,[(.tmp 2)],wN)]
theorem aPA : lL (fun p => trF Try.prog qq p.1 = some p.2) aMY:=⟨aGK,trivial⟩
@[irreducible] noncomputable def uP : AC:=cdO (trF Try.prog qq 5)
theorem aFO : trF Try.prog qq 5 = some (25,[(.cell 4 .true 17),(.tmp 5)],uP):=by kernel_rfl
def aMZ : mZ:=[(5,25,[(.cell 4 .true 17),(.tmp 5)],uP)]
theorem aPB : lL (fun p => trF Try.prog qq p.1 = some p.2) aMZ:=⟨aFO,trivial⟩
@[irreducible] noncomputable def aCL : AC:=cdO (trF Try.prog qq 12)
theorem aM0 : trF Try.prog qq 12 = some (2,[(.cell 0 .true 12)],aCL):=by kernel_rfl
def aM1 : mZ:=[(12,2,[(.cell 0 .true 12)],aCL)]
theorem aPC : lL (fun p => trF Try.prog qq p.1 = some p.2) aM1:=⟨aM0,trivial⟩
@[irreducible] noncomputable def jL : AC:=cdO (trF Try.prog qq 15)
@[irreducible] noncomputable def mC : AC:=cdA [1,1,0,1,0,0] jL
@[irreducible] noncomputable def pR : AC:=cdA [1,1,1] jL
theorem uQ : trF Try.prog qq 15 = some (20,[(.cell 2 .true 16)],jL):=by kernel_rfl
def aM2 : mZ:=[(15,20,[(.cell 2 .true 16)],jL)]
theorem aPD : lL (fun p => trF Try.prog qq p.1 = some p.2) aM2:=⟨uQ,trivial⟩
@[irreducible] noncomputable def aFP : AC:=cdO (trF Try.prog qq 17)
theorem aPE : trF Try.prog qq 17 = some (13,[(.tmp 2)],aFP):=by kernel_rfl
def aRT : mZ:=[(17,13,[(.tmp 2)],aFP)]
theorem aTW : lL (fun p => trF Try.prog qq p.1 = some p.2) aRT:=⟨aPE,trivial⟩
@[irreducible] noncomputable def wO : AC:=cdO (trF Try.prog qq 9)
theorem aGL : trF Try.prog qq 9 = some (21,[(.tmp 2)],wO):=by kernel_rfl
@[irreducible] noncomputable def uR : AC:=cdO (trF Try.prog qq 13)
theorem aFQ : trF Try.prog qq 13 = some (13,[(.tmp 4)],uR):=by kernel_rfl
def aM3 : mZ:=[(9,21,[(.tmp 2)],wO),(13,13,[(.tmp 4)],uR)]
theorem aPF : lL (fun p => trF Try.prog qq p.1 = some p.2) aM3:=⟨aGL,aFQ,trivial⟩
end Go.Proofs.Ytooojfbfobmkfaa
namespace Go.Proofs.Ytooojfbfobmkfaa
open Go.Ra
set_option linter.unusedVariables false
set_option linter.unusedSimpArgs false
def TZ0 : Tab:=fM qq (aM2 ++ aRT ++ aMY) [] [] [] []
def TZ1 : Tab:=fM qq (aM3 ++ aM1 ++ aFM) [] [] [(21,aWX)] []
def a4Y (n : Int) (g : Nat → Int) (i : Nat) : XSt:=⟨[(4,.int .i64 i),(3,.ptr 1 [] 0),(2,.ptr 0 [] 0),(0,.int .i64 n)],[(1,some (.tab 16 1 fun j => .int .i64 (g j))),(0,some (.tab 16 1 fun x => .int .i64 0))],2⟩
def aY6 (n : Int) (i : Nat) : Bool:=decide (eH .and .i64 (Int.fdiv n (2 ^ Nat.min (Int.toNat (IntKind.wrap .u64 (i : Int))) 64)) 1 = 1)
def owK (n : Int) : Nat → Nat → Int
 | 0 => fun _ => 0
 | k + 1 => fun j => bif Nat.beq j (k + 1) then (bif aY6 n (k + 1) then 1 else 2) else owK n k j
def aM4 (n : Int) : Nat → Int:=owK n 15
def a4Z : List XV → Option ((XV → Prop) → Prop):=eQ (fun n : Int => [.int .i64 n]) (fun _ => True) (fun n => aM4 n) (fun y => cY y)
def bCR (p : Prog) : Bool:=decide ((p.code.length : Int) ≤ 200) && decide ((p.data.length : Int) ≤ 500)
def a3L (p : Prog) : Bool:=bCR p && decide (p.size ≤ 300)
def bCS : List XV → Option ((XV → Prop) → Prop):=eQ (fun p : Prog => [aL p]) (fun _ => True) (fun p => a3L p) (fun y => .bool y)
def qtS : List XV → Option ((XV → Prop) → Prop):=eQ (fun c : Cfg => [aU c]) (fun _ => True) (fun c => j5 c) (fun y => .int .i64 y)
def a40 : List XV → Option ((XV → Prop) → Prop):=eQ (fun _ : Unit => []) (fun _ => True) (fun _ => true) (fun y => .bool y)
def nZ (p : Prog) (n : Int) : Split × Bool:=if (nV p (aM4 n)).2 = 0 then ((nV p (aM4 n)).1,true) else ((aES p).1,decide ((aES p).2 = 0))
def a41 : List XV → Option ((XV → Prop) → Prop):=eQ (fun q : Prog × Int => [aL q.1,.int .i64 q.2]) (fun q => q.1.wf) (fun q => nZ q.1 q.2) (fun y => .tup [aH y.1,.bool y.2])
def TZ2 : Tab:=fM qq aMZ [] [] [(15,a4Z),(14,a6X),(16,a9V)] []
theorem bCT (n : Int) (r : XV) : (goQ Try.prog TZ0 [(.cell 2 .true 16)] r (.run jL) [] ⟨jO 0 [.int .i64 n],[],0⟩) = (
 let q1 : XV:=.tab 16 1 fun x => .int .i64 0;aP (Ok Try.prog (Tab.q TZ0)) mC (XSt.mk [(4,.int .i64 1),(3,.ptr 1 [] 0),(2,.ptr 0 [] 0),(0,.int .i64 n)] [(1,
  some q1),(0,some q1)] 2) [Frm.blk 0,Frm.seq pR] (bC [AR.cell 2 true 16] r)):=by kernel_rfl
theorem a8V (n : Int) (g : Nat → Int) (i : Nat) (r : XV) (A : XSt → Prop) : (goQ Try.prog TZ0 [(.cell 2 .true 16)] r (.run mC) [.lp mC A,.blk 0,.seq pR] (a4Y n g i)) = (
 let q1 : Bool:=decide ((↑i : Int) < 16);
 let q2 : Nat:=i * 1;
 let q3 : Bool:=Nat.beq q2 q2;
 let q4 : Bool:=decide (i < 16);
 let q5 : List (Nat × XV):=[(4,.int .i64 (IntKind.wrap .i64 ((↑i : Int) + 1))),(3,.ptr 1 [] 0),(2,.ptr 0 [] 0),(0,.int .i64 n)];
 let q6 : Nat → Int:=fun j => bif Nat.beq j i then (2 : Int) else g j;
 let q7 : List (Nat × Option XV):=[(0,some (.tab 16 1 fun x => .int .i64 0))];bif decide ((↑i : Int) < 16) then bif q1 then bif q3 then bif q4 then bif q4 then bif decide (eH
  .and .i64 (Int.fdiv n ((2 : Int) ^ Nat.min (Int.toNat (IntKind.wrap .u64 (↑i : Int))) 64)) (1 : Int) = 1) then bif q1 then bif q3 then bif q4 then bif q4 then A (XSt.mk q5 ((1,some
  (.tab 16 1 fun j => .int .i64 (bif Nat.beq j i then (1 : Int) else q6 j))) :: q7) 2) else False else False else False else False else A (XSt.mk q5 ((1,some (.tab 16 1 fun j => .int
  .i64 (q6 j))) :: q7) 2) else False else False else False else False else aA (.tab 16 1 fun j => .int .i64 (g j)) r):=by kernel_rfl
theorem bCU (p : Prog) (r : XV) : (aQ TZ0 80 (bT TZ0 80 20) 6 [aL p] (fun v => aA v r)) = (
 let q1 : Bool:=decide ((↑(p.code.length) : Int) ≤ 200);
 let q2 : Bool:=bif q1 then decide ((↑(p.data.length) : Int) ≤ 500) else false;bif bif q1 then q1 else true then bif bif q2 then q2 else true then aA (.bool (bif q2 then decide
  (p.size ≤ 300) else false)) r else False else False):=by kernel_rfl
theorem bDO (c : Cfg) (r : XV) : (aQ TZ1 80 (bT TZ1 80 20) 9 [aU c] (fun v => aA v r)) = (∃ (s : Cfg),aC [aU c] [aU s] ∧ aK True ∧ ∀ (y : Bool),y = dD s → bif !y then aA (.int .i64 0) r else aA (.int .i64 (IntKind.wrap .i64 (IntKind.wrap .i64
 (IntKind.wrap .i64 ((8 : Int) + c.mul) + c.div) + IntKind.wrap .i64 (IntKind.wrap .i64 ((4 : Int) * IntKind.wrap .i64 (c.cA + 2)) * IntKind.wrap .i64 (c.lat + 2))))) r):=by kernel_rfl
theorem bCV (r : XV) : (aQ TZ1 80 (bT TZ1 80 20) 4 [] (fun v => aA v r)) = (
 let q1 : List XV:=[.agg 12 [.int .i64 1,.int .i64 1,.int .i64 1,.int .i64 1,.int .i64 1,.int .i64 1,.int .i64 1,.int .i64 1,.int .i64 1,.int .i64 1,.int .i64 1,.int .i64
  1]];∃ (s : Cfg),aC [.agg 12 [.int .i64 0,.int .i64 0,.int .i64 0,.int .i64 0,.int .i64 0,.int .i64 0,.int .i64 0,.int .i64 0,.int .i64 0,.int .i64 0,.int .i64 0,.int
  .i64 0]] [aU s] ∧ aK True ∧ ∀ (y : Bool),y = dD s → bif !y then ∃ (s : Cfg),aC q1 [aU s] ∧ aK True ∧ ∀ (y : Bool),y = dD s → bif !y then aA (.bool
  false) r else ∃ (s : Cfg),aC q1 [aU s] ∧ aK True ∧ ∀ (y : Bool),y = dD s → bif !y then aA (.bool false) r else aA (.bool true) r else aA (.bool false) r)
  := by kernel_rfl
theorem a8W (p : Prog) (n : Int) (r : XV) : (aQ TZ2 80 (bT TZ2 80 20) 5 [aL p,.int .i64 n] (fun v => aA v r)) = (
 let q1 : Split × Int → XV:=fun y => .tup [aH y.1,.bool (decide (y.2 = 0))];∃ (s : Int),aC [.int .i64 n] [.int .i64 s] ∧ aK True ∧ ∀ (y : Nat → Int),y = aM4 s → ∃
  (s : Prog × (Nat → Int)),aC [aL p,.tab 16 1 fun i => .int .i64 (y i)] [aL s.1,cY s.2] ∧ aK s.1.wf ∧ ∀ (y : Split × Int),y = nV s.1 s.2 → bif decide ¬y.2 = 0
  then ∃ (s : Prog),aC [aL p] [aL s] ∧ aK s.wf ∧ ∀ (y : Split × Int),y = aES s → aA (q1 y) r else aA (q1 y) r):=by kernel_rfl
theorem aY7 : bX Try.prog TZ0:=bV ((aPD.app aTW).app aPA) trivial trivial trivial trivial
theorem a42 : bX Try.prog TZ1:=bV ((aPF.app aPC).app aFN) trivial trivial ⟨a60,trivial⟩ trivial
theorem a8X : eI Try.prog (15,a4Z):=bB fun n _ => by
 show Pure _ _ (cons [.int .i64 n]) (con (cY (aM4 n)))
 refine jB mix aY7 uQ (Nat.le_of_ble_eq_true rfl) ?_
 refine Eq.mpr (bCT n _) ?_
 refine fS mix aY7 (fun i : Nat => a4Y n (owK n i) (i + 1)) (fun i => i ≤ 15) (fun i => 15 - i) 0 (Nat.zero_le _) (.of (dG ⟨rfl,rfl,rfl,rfl,trivial⟩ ⟨rfl,rfl,trivial⟩ (zaF _))) ?_
 intro i hi
 replace hi : i ≤ 15:=hi
 refine Eq.mpr (a8V n _ (i + 1) _ _) ?_
 by_cases hlt : i < 15
 ·have h1 : ((i + 1 : Nat) : Int) < 16:=by omega
  have h2 : i + 1 < 16:=by omega
  have w1 : IntKind.i64.wrap (((i + 1 : Nat) : Int) + 1) = ((i + 1 + 1 : Nat) : Int):=wrap_i64 (by omega) (by omega)
  simp only [h1,h2,w1,zaQ,zaC,zaB]
  show cond (aY6 n (i + 1)) _ _
  have e1 : ∀ v : Int,aY6 n (i + 1) = (decide (v = 1)) → (v = 1 ∨ v = 2) → (fun j => XV.int .i64 (bif Nat.beq j (i + 1) then v else owK n i j)) = fun j => XV.int .i64 (owK n (i + 1) j):=fun v hv hv2 => by
   funext j
   show _ = XV.int .i64 (bif Nat.beq j (i + 1) then (bif aY6 n (i + 1) then 1 else 2) else owK n i j)
   rw [hv]
   rcases hv2 with rfl | rfl <;> rfl
  cases hb : aY6 n (i + 1) with
  | true =>
   refine ⟨i + 1,hlt, ?_,by omega⟩
   have e2 : (fun j => XV.int .i64 (bif Nat.beq j (i + 1) then 1 else bif Nat.beq j (i + 1) then 2 else owK n i j)) = fun j => XV.int .i64 (owK n (i + 1) j):=by
    rw [← e1 1 (by rw [hb];rfl) (.inl rfl)]
    funext j
    cases Nat.beq j (i + 1) <;> rfl
   rw [e2]
   exact .of (dG ⟨rfl,rfl,rfl,rfl,trivial⟩ ⟨rfl,rfl,trivial⟩ (zaF _))
  | false =>
   refine ⟨i + 1,hlt, ?_,by omega⟩
   rw [e1 2 (by rw [hb];rfl) (.inr rfl)]
   exact .of (dG ⟨rfl,rfl,rfl,rfl,trivial⟩ ⟨rfl,rfl,trivial⟩ (zaF _))
 ·obtain rfl : i = 15:=by omega
  exact .rfl
theorem a8Y : eI Try.prog (6,bCS):=bB fun p _ => by
 show Pure _ _ (cons [aL p]) (con (.bool (a3L p)))
 refine eS (u:=80) (k:=20) mix aY7 ?_
 refine Eq.mpr (bCU p _) ?_
 simp only [aV,zaB]
 simp only [qC]
 exact .rfl
theorem bCW : eI Try.prog (9,qtS):=bB fun c _ => by
 show Pure _ _ (cons [aU c]) (con (.int .i64 (j5 c)))
 refine eS (u:=80) (k:=20) mix a42 ?_
 refine Eq.mpr (bDO c _) ?_
 refine ⟨c,.rfl,⟨trivial⟩, ?_⟩
 rintro y rfl
 unfold j5
 cases h : dD c with
 | false => exact .rfl
 | true =>
  have hg:=jY h
  have w : ∀ x : Int,0 ≤ x → x ≤ 1000000 → IntKind.i64.wrap x = x:=fun x h1 h2 => wrap_i64 (by omega) (by omega)
  have m1 : (c.cA + 2) * (c.lat + 2) ≤ 66 * 1002:=Int.mul_le_mul (by omega) (by omega) (by omega) (by omega)
  have m2 : 0 ≤ (c.cA + 2) * (c.lat + 2):=Int.mul_nonneg (by omega) (by omega)
  rw [if_neg (by simp)]
  show aA (.int .i64 (IntKind.i64.wrap (IntKind.i64.wrap (IntKind.i64.wrap (8 + c.mul) + c.div) + IntKind.i64.wrap (IntKind.i64.wrap (4 * IntKind.i64.wrap (c.cA + 2)) * IntKind.i64.wrap (c.lat + 2))))) _
  rw [w (8 + c.mul) (by omega) (by omega),w (8 + c.mul + c.div) (by omega) (by omega),w (c.cA + 2) (by omega) (by omega),w (c.lat + 2) (by omega) (by omega),w (4 * (c.cA + 2)) (by omega) (by omega),Int.mul_assoc,w (4 * ((c.cA + 2) * (c.lat + 2))) (by omega) (by omega),w _ (by omega) (by omega)]
  exact .rfl
theorem a3M : eI Try.prog (4,a40):=bB fun _ _ => by
 show Pure _ _ (cons []) (con (.bool true))
 refine eS (u:=80) (k:=20) mix a42 ?_
 refine Eq.mpr (bCV _) ?_
 refine ⟨⟨0,0,0,0,0,0,0,0,0,0,0,0⟩,.rfl,⟨trivial⟩, ?_⟩
 rintro y rfl
 show ∃ _,_
 refine ⟨⟨1,1,1,1,1,1,1,1,1,1,1,1⟩,.rfl,⟨trivial⟩, ?_⟩
 rintro y rfl
 show ∃ _,_
 refine ⟨⟨1,1,1,1,1,1,1,1,1,1,1,1⟩,.rfl,⟨trivial⟩, ?_⟩
 rintro y rfl
 exact .rfl
theorem bCX : bX Try.prog TZ2:=bV aPB trivial trivial ⟨a8X,aQT,aWW,trivial⟩ trivial
theorem a3N : eI Try.prog (5,a41):=bB fun ⟨p,n⟩ hw => by
 have hw : p.wf:=hw
 show Pure _ _ (cons [aL p,.int .i64 n]) (con (.tup [aH (nZ p n).1,.bool (nZ p n).2]))
 refine eS (u:=80) (k:=20) mix bCX ?_
 refine Eq.mpr (a8W p n _) ?_
 refine ⟨n,.rfl,⟨trivial⟩, ?_⟩
 rintro o rfl
 refine ⟨(p,aM4 n),.rfl,⟨hw⟩, ?_⟩
 intro y hy
 replace hy : y = nV p (aM4 n):=hy
 unfold nZ
 rw [← hy]
 by_cases h : y.2 = 0
 ·rw [if_pos h]
  simp only [h,zaN,zaE,zaD,zaC]
  exact .rfl
 ·rw [if_neg h]
  simp only [h,zaM,zaC,zaB]
  refine ⟨p,.rfl,⟨hw⟩, ?_⟩
  rintro z rfl
  exact .rfl
theorem aTX {p : Prog} {n : Int} (h : (nZ p n).2 = true) : ∃ o,Spl p o (nZ p n).1:=by
 have key : ∀ o,(nV p o).2 = 0 → Spl p o (nV p o).1:=fun o h1 => by
  refine a8K ?_
  unfold nV at h1
  cases hc : fR p o with
  | true => rfl
  | false => rw [if_neg (by rw [hc];simp)] at h1;cases h1
 unfold nZ at h ⊢
 by_cases h1 : (nV p (aM4 n)).2 = 0
 ·rw [if_pos h1];exact ⟨_,key _ h1⟩
 ·rw [if_neg h1] at h ⊢
  exact ⟨_,key (rK p) (of_decide_eq_true h)⟩
theorem a3O {i : Ins} {o : Nat → Int} {pc off : Int} (hi : i.wf) (hr : cT i = true) (hp : bZ pc) (ho : bZ off) : (∀ c ∈ (iO i o pc off).1,c.wf ∧ 0 ≤ c.ins.d ∧ c.ins.d ≤ 15) ∧ ∀ c ∈ (iO i o pc off).2,c.wf ∧ 0 ≤ c.ins.d ∧ c.ins.d ≤ 15:=by
 have hd:=(xL hr).1
 have zi : (⟨0,0,0,0,0⟩ : Ins).wf:=⟨fK,fK,fK,fK,fK⟩
 have c1 : ∀ k : Int,0 ≤ k → k ≤ 12 → (cI k i pc off).wf ∧ 0 ≤ (cI k i pc off).ins.d ∧ (cI k i pc off).ins.d ≤ 15:=fun k h1 h2 => ⟨⟨⟨by show -_ ≤ k;omega,by show k ≤ _;omega⟩,hi,fK,hp,ho⟩,hd.1,hd.2⟩
 have c2 : ∀ k r : Int,0 ≤ k → k ≤ 12 → bZ r → (cR k pc off r).wf ∧ 0 ≤ (cR k pc off r).ins.d ∧ (cR k pc off r).ins.d ≤ 15:=fun k r h1 h2 h3 => ⟨⟨⟨by show -_ ≤ k;omega,by show k ≤ _;omega⟩,zi,h3,hp,ho⟩,by show (0 : Int) ≤ 0;omega,by show (0 : Int) ≤ 15;omega⟩
 have c3 : ∀ k : Int,0 ≤ k → k ≤ 12 → (cP k pc off).wf ∧ 0 ≤ (cP k pc off).ins.d ∧ (cP k pc off).ins.d ≤ 15:=fun k h1 h2 => ⟨⟨⟨by show -_ ≤ k;omega,by show k ≤ _;omega⟩,zi,fK,hp,ho⟩,by show (0 : Int) ≤ 0;omega,by show (0 : Int) ≤ 15;omega⟩
 have sub : ∀ (l out : List Int),(∀ x ∈ out,x ∈ aS i) → (∀ x ∈ l,x ∈ aS i) → ∀ x ∈ l.foldl (fun out x => if iJ o x = 1 ∧ findF out x < 0 then out ++ [x] else out) out,x ∈ aS i:=by
  intro l
  induction l with
  | nil => intro out h1 _ x hx;exact h1 x hx
  | cons a l ih =>
   intro out h1 h2 x hx
   rw [List.foldl_cons] at hx
   refine ih _ (fun z hz => ?_) (fun z hz => h2 z (List.mem_cons_of_mem _ hz)) x hx
   split at hz
   ·rcases List.mem_append.1 hz with hz | hz
    ·exact h1 z hz
    ·obtain rfl:=List.mem_singleton.1 hz;exact h2 _ (List.mem_cons_self ..)
   ·exact h1 z hz
 have hs : ∀ x ∈ hP i o,bZ x:=fun x hx => by
  have h1:=sub (aS i) [] (fun x hx => by cases hx) (fun x hx => hx) x hx
  have h2:=(jE (i:=i)).2 x h1
  exact ⟨by omega,by omega⟩
 have cs : ∀ k : Int,0 ≤ k → k ≤ 12 → ∀ c ∈ (hP i o).map (cR k pc off),c.wf ∧ 0 ≤ c.ins.d ∧ c.ins.d ≤ 15:=fun k h1 h2 c hc => by
  obtain ⟨r,hr,rfl⟩:=List.mem_map.1 hc
  exact c2 k r h1 h2 (hs r hr)
 have ap : ∀ (l : List Cell) (d : Cell),(∀ c ∈ l,c.wf ∧ 0 ≤ c.ins.d ∧ c.ins.d ≤ 15) → (d.wf ∧ 0 ≤ d.ins.d ∧ d.ins.d ≤ 15) → ∀ c ∈ l ++ [d],c.wf ∧ 0 ≤ c.ins.d ∧ c.ins.d ≤ 15:=fun l d h1 h2 c hc => by
  rcases List.mem_append.1 hc with hc | hc
  ·exact h1 c hc
  ·obtain rfl:=List.mem_singleton.1 hc;exact h2
 have one : ∀ d : Cell,(d.wf ∧ 0 ≤ d.ins.d ∧ d.ins.d ≤ 15) → ∀ c ∈ [d],c.wf ∧ 0 ≤ c.ins.d ∧ c.ins.d ≤ 15:=fun d h2 c hc => by
  obtain rfl:=List.mem_singleton.1 hc;exact h2
 have nil : ∀ c ∈ ([] : List Cell),c.wf ∧ 0 ≤ c.ins.d ∧ c.ins.d ≤ 15:=fun c hc => by cases hc
 have two2 : ∀ d d' : Cell,(d.wf ∧ 0 ≤ d.ins.d ∧ d.ins.d ≤ 15) → (d'.wf ∧ 0 ≤ d'.ins.d ∧ d'.ins.d ≤ 15) → ∀ c ∈ [d,d'],c.wf ∧ 0 ≤ c.ins.d ∧ c.ins.d ≤ 15:=fun d d' h1 h2 c hc => by
  rcases List.mem_cons.1 hc with rfl | hc
  ·exact h1
  ·obtain rfl:=List.mem_singleton.1 hc;exact h2
 have hb : bZ i.b:=hi.2.2.2.1
 unfold iO
 split
 ·exact ⟨nil,nil⟩
 split
 ·split
  ·exact ⟨one _ (c1 1 (by omega) (by omega)),nil⟩
  ·exact ⟨cs 5 (by omega) (by omega),ap _ _ (cs 6 (by omega) (by omega)) (c1 1 (by omega) (by omega))⟩
 split
 ·split
  ·exact ⟨one _ (c1 3 (by omega) (by omega)),one _ (c1 7 (by omega) (by omega))⟩
  ·exact ⟨one _ (c1 2 (by omega) (by omega)),nil⟩
 split
 ·split
  ·exact ⟨two2 _ _ (c2 5 _ (by omega) (by omega) hb) (c1 4 (by omega) (by omega)),two2 _ _ (c2 6 _ (by omega) (by omega) hb) (c2 8 _ (by omega) (by omega) hb)⟩
  ·exact ⟨one _ (c1 4 (by omega) (by omega)),one _ (c2 8 _ (by omega) (by omega) hb)⟩
 split
 ·split
  ·exact ⟨one _ (c1 9 (by omega) (by omega)),one _ (c3 10 (by omega) (by omega))⟩
  ·exact ⟨ap _ _ (cs 5 (by omega) (by omega)) (c3 10 (by omega) (by omega)),ap _ _ (cs 6 (by omega) (by omega)) (c1 9 (by omega) (by omega))⟩
 split
 ·exact ⟨one _ (c3 11 (by omega) (by omega)),one _ (c3 11 (by omega) (by omega))⟩
 split
 ·exact ⟨one _ (c3 12 (by omega) (by omega)),one _ (c3 12 (by omega) (by omega))⟩
 ·exact ⟨nil,nil⟩
theorem aM5 (l : List Int) (h : l.length ≤ 1000000) (x : Int) : bZ (findF l x):=by
 unfold findF mK
 split
 ·rename_i h2
  have:=List.findIdx_lt_length.2 (List.any_eq_true.1 h2)
  exact ⟨by omega,by omega⟩
 ·exact ⟨by omega,by omega⟩
theorem Spl.ok {p : Prog} {o : Nat → Int} {s : Split} (hs : Spl p o s) (hw : p.wf) : jJ s:=by
 have hr:=hs.rp
 have hN:=(rO hr).2
 have hnb : nbN p ≤ 2000:=(kI (p:=p)).2.2
 refine ⟨by rw [hs.nb];omega,fun b hb => ?_⟩
 obtain ⟨B,hB,rfl⟩:=xS hb
 rw [hs.nb] at hB
 have hsd:=eP hB
 rw [hs.blk hB]
 have hsr : (qF p (aM p) B).src.toNat = cV p B:=rfl
 have em : ∀ j,j < dL p B - cV p B → (∀ c ∈ (iO (ix p.code (cV p B + j)) o ((cV p B + j : Nat) : Int) (j : Int)).1,c.wf ∧ 0 ≤ c.ins.d ∧ c.ins.d ≤ 15) ∧ ∀ c ∈ (iO (ix p.code (cV p B + j)) o ((cV p B + j : Nat) : Int) (j : Int)).2,c.wf ∧ 0 ≤ c.ins.d ∧ c.ins.d ≤ 15:=fun j hj =>
  a3O (hw.1.1 _ (cH (by omega))) (vF hr (by omega)) ⟨by omega,by omega⟩ ⟨by omega,by omega⟩
 have hA : ∀ c ∈ emA p o (qF p (aM p) B) (dL p B - cV p B),c.wf ∧ 0 ≤ c.ins.d ∧ c.ins.d ≤ 15:=fun c hc => by
  unfold emA at hc
  rw [hsr] at hc
  obtain ⟨j,hj,hc⟩:=List.mem_flatMap.1 hc
  exact (em j (List.mem_range.1 hj)).1 c hc
 have hE : ∀ c ∈ emE p o (qF p (aM p) B) (dL p B - cV p B),c.wf ∧ 0 ≤ c.ins.d ∧ c.ins.d ≤ 15:=fun c hc => by
  unfold emE at hc
  rw [hsr] at hc
  obtain ⟨j,hj,hc⟩:=List.mem_flatMap.1 hc
  exact (em j (List.mem_range.1 hj)).2 c hc
 have lA : (emA p o (qF p (aM p) B) (dL p B - cV p B)).length ≤ 4 * (dL p B - cV p B):=tQ fun j => qG.1
 have lE : (emE p o (qF p (aM p) B) (dL p B - cV p B)).length ≤ 4 * (dL p B - cV p B):=tQ fun j => qG.2
 refine ⟨fun c hc => (hA c hc).2,⟨by show _ ≤ ((cV p B : Nat) : Int);omega,by show ((cV p B : Nat) : Int) ≤ _;omega⟩,⟨by show _ ≤ ((dL p B : Nat) : Int);omega,by show ((dL p B : Nat) : Int) ≤ _;omega⟩, ?_, ?_,⟨fun c hc => (hA c hc).1, ?_⟩,⟨fun c hc => (hE c hc).1, ?_⟩⟩
 ·show bZ (r5 p (aM p) B)
  unfold r5
  split
  ·exact aM5 _ (show (aM p).length ≤ _ by have : nbN p = (aM p).length:=rfl;omega) _
  ·exact ⟨by omega,by omega⟩
 ·show bZ (pH p (aM p) B)
  unfold pH
  split
  ·exact aM5 _ (show (aM p).length ≤ _ by have : nbN p = (aM p).length:=rfl;omega) _
  ·exact ⟨by omega,by omega⟩
 ·show (emA p o (qF p (aM p) B) (dL p B - cV p B)).length * 72 ≤ _
  omega
 ·show (emE p o (qF p (aM p) B) (dL p B - cV p B)).length * 72 ≤ _
  omega
def TZ3 : Tab:=fM qq aFM [] [] [(4,a40),(5,a41),(6,bCS),(7,aWX),(8,bAK),(9,qtS),(10,bCH),(11,bCI)] []
def bCY (c : Cfg) (t : bG) (s : Split) (x : Stt) (m q z : Int) (i : Nat) : XSt:=⟨[(17,.int .i64 i),(16,.int .i64 z),(15,.int .i64 q),(14,.ptr 4 [] 0),(12,.ptr 3 [] 0),(8,.ptr 2 [] 0),(7,.ptr 1 [] 0),(4,.int .i64 m)],[(4,some (aO x)),(3,some (aH s)),(2,some (bI t)),(1,some (aU c))],5⟩
theorem bCZ (p : Prog) (n : Int) (c : Cfg) (t : bG) (m : Int) (r : XV) : (goQ Try.prog TZ3 [(.tmp 10)] r (.run gC) [] ⟨jO 0 [aL p,.int .i64 n,aU c,bI t,.int .i64 m],[],0⟩) = (
 let q1 : Bool → Bool → Bool:=fun y y_1 => bif bif !y then true else !y_1 then true else decide ((↑(t.dN.length) : Int) > 60);
 let q2 : Bool → Bool → Bool:=fun y y_1 => bif q1 y y_1 then true else decide ((↑(t.cF.length) : Int) > 60);
 let q3 : Bool → Bool → Split × Bool → Bool:=fun y y_1 y_2 => bif q2 y y_1 then true else !y_2.2;
 let q4 : Bool → Bool → Split × Bool → Bool → Bool:=fun y y_1 y_2 y_3 => bif q3 y y_1 y_2 then true else !y_3;
 let q5 : Bool → Bool → Split × Bool → Bool → Bool:=fun y y_1 y_2 y_3 => bif q4 y y_1 y_2 y_3 then true else decide (m < 0);∃ (s : Unit),aC [] [] ∧ aK True ∧ ∀ (y : Bool),
  y = true → ∃ (s : Prog × Int),aC [aL p,.int .i64 n] [aL s.1,.int .i64 s.2] ∧ aK s.1.wf ∧ ∀ (y_1 : Split × Bool),y_1 = nZ s.1 s.2 → bif !!y then ∃ (s : Prog),
  aC [aL p] [aL s] ∧ aK True ∧ ∀ (y_2 : Bool),y_2 = a3L s → bif bif bif !y then true else !y_2 then true else !bif !y then true else !y_2 then bif bif q1 y y_2 then true
  else !q1 y y_2 then bif bif q2 y y_2 then true else !q2 y y_2 then bif !q3 y y_2 y_1 then ∃ (s : Cfg),aC [aU c] [aU s] ∧ aK True ∧ ∀ (y_3 : Bool),y_3 = dD s → bif
  bif q4 y y_2 y_1 y_3 then true else !q4 y y_2 y_1 y_3 then bif bif q5 y y_2 y_1 y_3 then true else !q5 y y_2 y_1 y_3 then bif bif q5 y y_2 y_1 y_3 then true else decide (m > 400) then
  aA (.bool y) r else ∃ (s : Prog),aC [aL p] [aL s] ∧ aK s.wf ∧ ∀ (y : Stt),y = kS s → ∃ (s : Cfg),aC [aU c] [aU s] ∧ aK True ∧ ∀ (y_4 : Int),y_4
  = j5 s → aP (Ok Try.prog (Tab.q TZ3)) iU (XSt.mk [(17,.int .i64 0),(16,.int .i64 0),(15,.int .i64 y_4),(14,.ptr 4 [] 0),(12,.ptr 3 [] 0),(10,.bool
  false),(8,.ptr 2 [] 0),(7,.ptr 1 [] 0),(4,.int .i64 m)] [(4,some (aO y)),(3,some (aH y_1.1)),(2,some (bI t)),(1,some (aU c)),(0,some (aL p))] 5)
  [Frm.blk 0,Frm.seq mI] (bC [AR.tmp 10] r) else False else False else bif q3 y y_2 y_1 then aA (.bool y) r else False else False else False else False else
  bif !y then aA (.bool y) r else False):=by kernel_rfl
theorem bC0 (c : Cfg) (t : bG) (s : Split) (x : Stt) (m q z : Int) (i : Nat) (r : XV) (A : XSt → Prop) : (goQ Try.prog TZ3 [(.tmp 10)] r (.run iU) [.lp iU A,.blk 0,.seq mI] (bCY c t s x m q z i)) = (
 let q1 : Bool:=decide ((↑i : Int) < m);
 let q2 : Cfg × Split × bG × Stt → Split:=fun s => s.2.1;
 let q3 : Cfg × Split × bG × Stt → bG:=fun s => s.2.2.1;
 let q4 : Cfg × Split × bG × Stt → Stt:=fun s => s.2.2.2;
 let q5 : Stt → Bool:=fun y => decide ¬y.a.done = x.a.done;
 let q6 : Stt → Bool:=fun y => bif q5 y then true else decide ¬y.e.done = x.e.done;
 let q7 : XV:=.int .i64 (IntKind.wrap .i64 ((↑i : Int) + 1));
 let q8 : List (Nat × XV):=[(15,.int .i64 q),(14,.ptr 4 [] 0),(12,.ptr 3 [] 0),(8,.ptr 2 [] 0),(7,.ptr 1 [] 0),(4,.int .i64 m)];
 let q9 : Stt → List (Nat × Option XV):=fun y => [(5,some (aO y)),(4,some (aO y)),(3,some (aH s)),(2,some (bI t)),(1,some (aU c))];
 let q10 : Int:=IntKind.wrap .i64 (z + 1);bif q1 then ∃ (s_1 : Cfg × Split × Stt),aC [aU c,aH s,aO x] [aU s_1.1,aH s_1.2.1,aO s_1.2.2] ∧ aK (s_1.2.2.ok
  ∧ s_1.2.1.blocks.length ≤ 1000000) ∧ ∀ (y : Bool),y = pO s_1.1 s_1.2.1 s_1.2.2 → bif bif q1 then !y else false then ∃ (s_2 : Cfg × Split × bG × Stt),aC [aU c,aH
  s,bI t,aO x] [aU s_2.1,aH (q2 s_2),bI (q3 s_2),aO (q4 s_2)] ∧ aK (aYP (q4 s_2) ∧ jJ (q2 s_2)) ∧ ∀ (y : Stt),y = fQ s_2.1 (q2 s_2) (q3 s_2)
  (q4 s_2) → bif bif q5 y then true else !q5 y then bif bif q6 y then true else !q6 y then bif bif q6 y then true else decide ¬(↑(y.writes.length) : Int) = (↑(x.writes.length) : Int)
  then bif decide (0 > q) then aA (.bool false) r else A (XSt.mk ((17,q7) :: (16,.int .i64 0) :: q8) (q9 y) 6) else bif decide (q10 > q) then aA (.bool false) r else A (XSt.mk
  ((17,q7) :: (16,.int .i64 q10) :: q8) (q9 y) 6) else False else False else aA (.bool true) r else bif !q1 then aA (.bool true) r else False):=by kernel_rfl
end Go.Proofs.Ytooojfbfobmkfaa
