/- Texts put together. -/
import Derived.Test.YtooojfbfobmkfaaGreatPk3
noncomputable section
namespace Go.Proofs.YtooojfbfobmkfaaGreat
open Go.Ra
set_option linter.unusedVariables false
set_option linter.unusedSimpArgs false
def TO0:Tab:=fW qq eU [] jA [] []
def bE3:List XV->Option ((XV->Prop)->Prop):=eZ (fun q:Split×Bool×cE=>[aG q.1,.bool q.2.1,aR q.2.2]) (fun q=>True) (fun q=>j5 q.1 q.2.1 q.2.2) (fun y=>.bool y)
def bA5 (d:cE) (s:Split) (i:Nat):XSt:=⟨[(7,.int .i64 i),(5,.ptr 1 [] 0)],[(1,some (aR d)),(0,some (aG s))],2⟩
def TO1:Tab:=fW qq eU [] jA [(7,aZO),(50,bE3),(52,bA2),(53,bEZ)] []
theorem aTW:bT zPr TO0:=bQ dF trivial gM trivial trivial
theorem bH5 (c:Cfg) (r:XV):(aO TO0 80 (bL TO0 80 20) 7 [aV c] (fun v=>aA v r))=(
 letI q1:=Int.toNat (0:Int)-1;
 letI q2:=q1-1;
 letI q3:=q2-1;
 letI q4:=q3-1;
 letI q5:=q4-1;
 letI q6:=cond (Nat.beq (Int.toNat (0:Int)) 0) c.ldq (cond (Nat.beq q1 0) c.sdq (cond (Nat.beq q2 0) c.aeq (cond (Nat.beq q3 0) c.abq (cond (Nat.beq q4 0) c.ebq (cond (Nat.beq q5 0) c.saq (cond (Nat.beq (q5-1) 0) c.bN c.jW))))));
 letI q7:=decide (c.ldq>=1);
 letI q8:=IntKind.wrap .i64 ((0:Int)+1);
 letI q9:=Int.toNat q8;
 letI q10:=q9-1;
 letI q11:=q10-1;
 letI q12:=q11-1;
 letI q13:=q12-1;
 letI q14:=q13-1;
 letI q15:=cond (Nat.beq q9 0) c.ldq (cond (Nat.beq q10 0) c.sdq (cond (Nat.beq q11 0) c.aeq (cond (Nat.beq q12 0) c.abq (cond (Nat.beq q13 0) c.ebq (cond (Nat.beq q14 0) c.saq (cond (Nat.beq (q14-1) 0) c.bN c.jW))))));
 letI q16:=decide (c.sdq>=1);
 letI q17:=IntKind.wrap .i64 (q8+1);
 letI q18:=Int.toNat q17;
 letI q19:=q18-1;
 letI q20:=q19-1;
 letI q21:=q20-1;
 letI q22:=q21-1;
 letI q23:=q22-1;
 letI q24:=cond (Nat.beq q18 0) c.ldq (cond (Nat.beq q19 0) c.sdq (cond (Nat.beq q20 0) c.aeq (cond (Nat.beq q21 0) c.abq (cond (Nat.beq q22 0) c.ebq (cond (Nat.beq q23 0) c.saq (cond (Nat.beq (q23-1) 0) c.bN c.jW))))));
 letI q25:=decide (c.aeq>=1);
 letI q26:=IntKind.wrap .i64 (q17+1);
 letI q27:=Int.toNat q26;
 letI q28:=q27-1;
 letI q29:=q28-1;
 letI q30:=q29-1;
 letI q31:=q30-1;
 letI q32:=q31-1;
 letI q33:=cond (Nat.beq q27 0) c.ldq (cond (Nat.beq q28 0) c.sdq (cond (Nat.beq q29 0) c.aeq (cond (Nat.beq q30 0) c.abq (cond (Nat.beq q31 0) c.ebq (cond (Nat.beq q32 0) c.saq (cond (Nat.beq (q32-1) 0) c.bN c.jW))))));
 letI q34:=decide (c.abq>=1);
 letI q35:=IntKind.wrap .i64 (q26+1);
 letI q36:=Int.toNat q35;
 letI q37:=q36-1;
 letI q38:=q37-1;
 letI q39:=q38-1;
 letI q40:=q39-1;
 letI q41:=q40-1;
 letI q42:=cond (Nat.beq q36 0) c.ldq (cond (Nat.beq q37 0) c.sdq (cond (Nat.beq q38 0) c.aeq (cond (Nat.beq q39 0) c.abq (cond (Nat.beq q40 0) c.ebq (cond (Nat.beq q41 0) c.saq (cond (Nat.beq (q41-1) 0) c.bN c.jW))))));
 letI q43:=decide (c.ebq>=1);
 letI q44:=IntKind.wrap .i64 (q35+1);
 letI q45:=Int.toNat q44;
 letI q46:=q45-1;
 letI q47:=q46-1;
 letI q48:=q47-1;
 letI q49:=q48-1;
 letI q50:=q49-1;
 letI q51:=cond (Nat.beq q45 0) c.ldq (cond (Nat.beq q46 0) c.sdq (cond (Nat.beq q47 0) c.aeq (cond (Nat.beq q48 0) c.abq (cond (Nat.beq q49 0) c.ebq (cond (Nat.beq q50 0) c.saq (cond (Nat.beq (q50-1) 0) c.bN c.jW))))));
 letI q52:=decide (c.saq>=1);
 letI q53:=IntKind.wrap .i64 (q44+1);
 letI q54:=Int.toNat q53;
 letI q55:=q54-1;
 letI q56:=q55-1;
 letI q57:=q56-1;
 letI q58:=q57-1;
 letI q59:=q58-1;
 letI q60:=cond (Nat.beq q54 0) c.ldq (cond (Nat.beq q55 0) c.sdq (cond (Nat.beq q56 0) c.aeq (cond (Nat.beq q57 0) c.abq (cond (Nat.beq q58 0) c.ebq (cond (Nat.beq q59 0) c.saq (cond (Nat.beq (q59-1) 0) c.bN c.jW))))));
 letI q61:=decide (c.bN>=1);
 letI q62:=Int.toNat (IntKind.wrap .i64 (q53+1));
 letI q63:=q62-1;
 letI q64:=q63-1;
 letI q65:=q64-1;
 letI q66:=q65-1;
 letI q67:=q66-1;
 letI q68:=cond (Nat.beq q62 0) c.ldq (cond (Nat.beq q63 0) c.sdq (cond (Nat.beq q64 0) c.aeq (cond (Nat.beq q65 0) c.abq (cond (Nat.beq q66 0) c.ebq (cond (Nat.beq q67 0) c.saq (cond (Nat.beq (q67-1) 0) c.bN c.jW))))));
 letI q69:=decide (c.jW>=1);
 letI q70:=decide (c.dI>=1);
 letI q71:=cond q70 (decide (c.dI<=16)) false;
 letI q72:=decide (c.lat>=1);
 letI q73:=cond q71 (cond q72 (decide (c.lat<=1000)) false) false;
 letI q74:=decide (c.mul>=1);
 letI q75:=cond q73 (cond q74 (decide (c.mul<=50)) false) false;
 letI q76:=decide (c.div>=1);cond (cond q7 q7 true) (bif !cond q7 (decide (c.ldq<=64)) false then aA (.bool false) r else cond (cond q16 q16 true) (bif !cond q16 (decide (c.sdq<=64)) false then aA (.bool false) r else cond (cond q25 q25 true) (bif !cond q25 (decide (c.aeq<=64)) false then aA (.bool
  false) r else cond (cond q34 q34 true) (bif !cond q34 (decide (c.abq<=64)) false then aA (.bool false) r else cond (cond q43 q43 true) (cond (!cond q43 (decide (c.ebq<=64)) false) (aA (.bool false) r) (cond (cond q52 q52 true) (cond (!cond q52 (decide (c.saq<=64)) false) (aA (.bool false) r) (cond (cond q61 q61 true) (cond (!cond q61 (decide (c.bN<=64)) false) (aA (.bool false) r) (cond (cond q69 q69 true) (cond (!cond q69 (decide (c.jW
  <= 64)) false) (aA (.bool false) r) (cond (cond q70 q70 true) (cond q71 (cond (cond q72 q72 true) (cond q73 (cond (cond q74 q74 true) (cond q75 (cond (cond q76 q76 true) (aA (.bool (cond q75 (cond q76 (decide (c.div<=50)) false) false)) r) False) (cond (!q75) (aA (.bool false)
  r) False)) False) (cond (!q73) (aA (.bool false) r) False)) False) (cond (!q71) (aA (.bool false) r) False)) False)) False)) False)) False)) False) False) False) False) False):=by kernel_rfl
theorem bE4 (s:Split) (d:cE) (r:XV):(goQ zPr TO0 [(.tmp 6)] r (.run gH) [] ⟨kF 0 [aG s,.bool false,aR d],[],0⟩)=(
 letI q1:=decide (d.wait>=0);
 letI q2:=!cond q1 (decide (d.wait<=1099511627776)) false;
 letI q3:=decide (d.done>=0);
 letI q4:=cond q2 true (!cond q3 (decide (d.done<=1099511627776)) false);
 letI q5:=decide (d.pos.base>=0);
 letI q6:=cond q4 true (!cond q5 (decide (d.pos.base<=1099511627776)) false);
 letI q7:=decide (d.pos.block<0);
 letI q8:=cond q6 true q7;
 letI q9:=decide (d.pos.block>=(↑(s.blocks.length):Int));
 letI q10:=cond q8 true q9;
 letI q11:=cond q10 true (decide (d.pos.index<0));
 letI q12:=bX (Ok zPr (Tab.q TO0)) fZ (XSt.mk [(7,.int .i64 0),(6,.bool false),(5,.ptr 1 [] 0)] [(1,some (aR d)),(0,some (aG s))] 2) [Frm.blk
  0,Frm.seq iN] (dC [AR.tmp 6] r);
 letI q13:=(↑(List.length (Block.a (ix s.blocks (Int.toNat d.pos.block)))):Int);cond (cond q1 q1 true) (cond (!q2) (cond (cond q3 q3 true) (cond (!q4) (cond (cond q5 q5 true) (cond (cond q6 true (!q6)) (cond (cond q8 true (!q8)) (cond (cond q10 true (!q10)) (cond (!q11) (cond (cond q7 true (!q7)) (cond (cond q7 true q9) (cond (cond q11 true (decide (d.pos.index>0))) (aA (.bool false) r) q12) (cond (decide (0<=d.pos.block)) (cond (decide (d.pos.block
  < (↑(s.blocks.length):Int))) (cond (cond q11 true (decide (d.pos.index>q13))) (aA (.bool false) r) q12) False) False)) False) (cond q11 (aA
  (.bool false) r) False)) False) False) False) False) (cond q4 (aA (.bool false) r) False)) False) (cond q2 (aA (.bool false) r) False)) False):=by kernel_rfl
theorem bA6 (s:Split) (d:cE) (r:XV):(goQ zPr TO0 [(.tmp 6)] r (.run gH) [] ⟨kF 0 [aG s,.bool true,aR d],[],0⟩)=(
 letI q1:=decide (d.wait>=0);
 letI q2:=!cond q1 (decide (d.wait<=1099511627776)) false;
 letI q3:=decide (d.done>=0);
 letI q4:=cond q2 true (!cond q3 (decide (d.done<=1099511627776)) false);
 letI q5:=decide (d.pos.base>=0);
 letI q6:=cond q4 true (!cond q5 (decide (d.pos.base<=1099511627776)) false);
 letI q7:=decide (d.pos.block<0);
 letI q8:=cond q6 true q7;
 letI q9:=decide (d.pos.block>=(↑(s.blocks.length):Int));
 letI q10:=cond q8 true q9;
 letI q11:=cond q10 true (decide (d.pos.index<0));
 letI q12:=bX (Ok zPr (Tab.q TO0)) fZ (XSt.mk [(7,.int .i64 0),(6,.bool false),(5,.ptr 1 [] 0)] [(1,some (aR d)),(0,some (aG s))] 2) [Frm.blk
  0,Frm.seq iN] (dC [AR.tmp 6] r);
 letI q13:=(↑(List.length (Block.e (ix s.blocks (Int.toNat d.pos.block)))):Int);cond (cond q1 q1 true) (cond (!q2) (cond (cond q3 q3 true) (cond (!q4) (cond (cond q5 q5 true) (cond (cond q6 true (!q6)) (cond (cond q8 true (!q8)) (cond (cond q10 true (!q10)) (cond (!q11) (cond (cond q7 true (!q7)) (cond (cond q7 true q9) (cond (cond q11 true (decide (d.pos.index>0))) (aA (.bool false) r) q12) (cond (decide (0<=d.pos.block)) (cond (decide (d.pos.block
  < (↑(s.blocks.length):Int))) (cond (cond q11 true (decide (d.pos.index>q13))) (aA (.bool false) r) q12) False) False)) False) (cond q11 (aA
  (.bool false) r) False)) False) False) False) False) (cond q4 (aA (.bool false) r) False)) False) (cond q2 (aA (.bool false) r) False)) False):=by kernel_rfl
theorem bE5 (d:cE) (s:Split) (i:Nat) (r:XV) (A:XSt->Prop):(goQ zPr TO0 [(.tmp 6)] r (.run fZ) [.lp fZ A,.blk 0,.seq iN] (bA5 d s i))=(
 letI q1:=(↑i:Int)<16;
 letI q2:=decide q1;
 letI q3:=pl 16 (i*1);
 letI q4:=Nat.beq q3 q3;
 letI q5:=decide (i<16);
 letI q6:=decide ¬d.ready i=(-1:Int);
 letI q7:=decide (d.ready i>=0);
 letI q8:=XSt.mk [(7,.int .i64 (IntKind.wrap .i64 ((↑i:Int)+1))),(5,.ptr 1 [] 0)] [(1,some (aR d)),(0,some (aG s))] 2;cond (decide q1) (cond q2 (cond q4 (cond q5 (cond q6 (cond q2 (cond q4 (cond q5 (cond (cond q7 q7 true) (cond (cond q6 (!cond q7 (decide (d.ready i<=1099511627776)) false) false) (aA (.bool false) r) (A q8)) False) False) False) False) (cond (!q6) (A q8) False)) False) False) False) (aA (.bool true) r)):=by kernel_rfl
theorem bA7 (c:Cfg) (s:Split) (x:Stt) (r:XV):(goQ zPr TO1 [(.tmp 6)] r (.run hP) [] ⟨kF 0 [aV c,aG s,aP x],[],0⟩)=(
 letI q1:Split×Bool×cE->List XV:=fun s=>[aG s.1,.bool s.2.1,aR s.2.2];
 letI q2:Bool->Split×Bool×cE->Prop:=fun y s=>y=j5 s.1 s.2.1 s.2.2;
 letI q3:Bool->Bool->Bool->Bool:=fun y y_1 y_2=>cond (cond (!y) true (!y_1)) true (!y_2);
 letI q4:=decide (x.aE>=0);
 letI q5:Bool->Bool->Bool->Bool:=fun y y_1 y_2=>cond (q3 y y_1 y_2) true (!cond q4 (decide (x.aE<=1099511627776)) false);
 letI q6:=decide (x.dR>=0);
 letI q7:Bool->Bool->Bool->Bool:=fun y y_1 y_2=>cond (q5 y y_1 y_2) true (!cond q6 (decide (x.dR<=1099511627776)) false);
 letI q8:=decide (x.cG>=0);
 letI q9:Bool->Bool->Bool->Bool:=fun y y_1 y_2=>cond (q7 y y_1 y_2) true (!cond q8 (decide (x.cG<=1099511627776)) false);
 letI q10:=decide (x.tags>=0);
 letI q11:=decide ((↑(x.ldq.length):Int)>c.ldq);
 letI q12:=cond q11 true (decide ((↑(x.sdq.length):Int)>c.sdq));
 letI q13:=cond q12 true (decide ((↑(x.aeq.length):Int)>c.aeq));
 letI q14:=cond q13 true (decide ((↑(x.abq.length):Int)>c.abq));
 letI q15:=cond q14 true (decide ((↑(x.ebq.length):Int)>c.ebq));
 letI q16:=cond q15 true (decide ((↑(x.saq.length):Int)>c.saq));
 letI q17:=cond q16 true (decide ((↑(x.table.length):Int)>c.bN));∃(s_1:Cfg),aI [aV c] [aV s_1]/\aN True/\∀(y:Bool),y=cX s_1->cond (!!y) (∃(s_2:Split×Bool×cE),aI [aG s,.bool false,aR x.a] (q1 s_2)/\aN True/\∀(y_1:Bool),q2 y_1 s_2->cond (!cond (!y) true (!y_1)) (∃(s_3:Split
  × Bool×cE),aI [aG s,.bool true,aR x.e] (q1 s_3)/\aN True/\∀(y_2:Bool),q2 y_2 s_3->cond (!q3 y y_1 y_2) (cond (cond q4 q4 true) (cond (!q5 y y_1
  y_2) (cond (cond q6 q6 true) (cond (!q7 y y_1 y_2) (cond (cond q8 q8 true) (cond (!q9 y y_1 y_2) (cond (cond q10 q10 true) (cond (cond (q9 y y_1 y_2) true (!cond q10 (decide (x.tags<=1099511627776)) false)) (aA (.bool false) r) (cond (cond q11 true (!q11)) (cond (cond q12 true (!q12)) (cond (cond q13 true (!q13)) (cond (cond q14 true (!q14)) (cond (cond q15 true (!q15)) (cond (cond q16 true (!q16)) (cond (cond q17 true (!q17)) (cond (cond q17 true (decide ((↑(x.mem.length):Int)>65536))) (aA (.bool false) r) (bX (Ok zPr (Tab.q TO1)) iD (XSt.mk [(7,.int .i64 0),(6,
  .bool false),(5,.ptr 2 [] 0)] [(2,some (aP x)),(1,some (aG s)),(0,some (aV c))] 3) [Frm.blk 0,Frm.seq fQ] (dC [AR.tmp 6] r))) False) False) False) False) False) False) False)) False) (cond (q9 y y_1 y_2) (aA (.bool false) r) False)) False) (cond (q7 y y_1 y_2) (aA (.bool
  false) r) False)) False) (cond (q5 y y_1 y_2) (aA (.bool false) r) False)) False) (cond (q3 y y_1 y_2) (aA (.bool false) r) False)) (cond (cond (!y) true (!y_1)) (aA (.bool false) r) False)) (cond (!y) (aA (.bool false) r) False)):=by kernel_rfl
theorem a0F {lo hi n:Int} {l:List Int}:cD lo hi (n::l)=(cond (decide (n>=lo)) (cond (decide (n<=hi)) (cD lo hi l) false) false):=by unfold cD;rw[List.all_cons];by_cases h1:lo<=n<;>by_cases h2:n<=hi<;>simp[h1,h2]
theorem aTX:eV zPr (7,aZO):=bB fun c _=>by
 show Pure _ _ (cons [aV c]) (con (.bool (cX c)));refine fF (u:=80) (k:=20) mix aTW ?_;refine Eq.mpr (bH5 c _) ?_;unfold cX;simp only[a0F];generalize decide (c.ldq>=1)=ldq0;generalize decide (c.ldq<=64)=ldq1;generalize decide (c.sdq>=1)=sdq0;generalize decide (c.sdq<=64)=sdq1;generalize decide (c.aeq>=1)=aeq0;generalize decide (c.aeq<=64)=aeq1;generalize decide (c.abq>=1)=abq0;generalize decide (c.abq<=64)=abq1;generalize decide (c.ebq>=1)=ebq0;generalize decide (c.ebq<=64)=ebq1;generalize decide (c.saq>=1)=saq0;generalize decide (c.saq<=64)=saq1;generalize decide (c.bN>=1)=flight0;generalize decide (c.bN<=64)=flight1;generalize decide (c.jW>=1)=slip0;generalize decide (c.jW<=64)=slip1;generalize decide (c.dI>=1)=banks0;generalize decide (c.dI<=16)=banks1;generalize decide (c.lat>=1)=lat0;generalize decide (c.lat<=1000)=lat1;generalize decide (c.mul>=1)=mul0;generalize decide (c.mul<=50)=mul1;generalize decide (c.div>=1)=div0;generalize decide (c.div<=50)=div1;cases ldq0 with
 |false=>exact .rfl
 |true =>
 cases ldq1 with
 |false=>exact .rfl
 |true =>
 cases sdq0 with
 |false=>exact .rfl
 |true =>
 cases sdq1 with
 |false=>exact .rfl
 |true =>
 cases aeq0 with
 |false=>exact .rfl
 |true =>
 cases aeq1 with
 |false=>exact .rfl
 |true =>
 cases abq0 with
 |false=>exact .rfl
 |true =>
 cases abq1 with
 |false=>exact .rfl
 |true =>
 cases ebq0 with
 |false=>exact .rfl
 |true =>
 cases ebq1 with
 |false=>exact .rfl
 |true =>
 cases saq0 with
 |false=>exact .rfl
 |true =>
 cases saq1 with
 |false=>exact .rfl
 |true =>
 cases flight0 with
 |false=>exact .rfl
 |true =>
 cases flight1 with
 |false=>exact .rfl
 |true =>
 cases slip0 with
 |false=>exact .rfl
 |true =>
 cases slip1 with
 |false=>exact .rfl
 |true =>
 cases banks0 with
 |false=>exact .rfl
 |true =>
 cases banks1 with
 |false=>exact .rfl
 |true =>
 cases lat0 with
 |false=>exact .rfl
 |true =>
 cases lat1 with
 |false=>exact .rfl
 |true =>
 cases mul0 with
 |false=>exact .rfl
 |true =>
 cases mul1 with
 |false=>exact .rfl
 |true =>
 cases div0 with
 |false=>exact .rfl
 |true =>
 cases div1 with
 |false=>exact .rfl
 |true =>
 exact .rfl
theorem a0G {a b:Bool}:(a&&b)=(cond a b false):=by cases a<;>rfl
theorem aTY {s:Split} {e:Bool} {d:cE}:j5 s e d=(cond (decide (d.wait>=0)) (cond (decide (d.wait<=1099511627776)) (cond (decide (d.done>=0)) (cond (decide (d.done<=1099511627776)) (cond (decide (d.pos.base>=0)) (cond (decide (d.pos.base<=1099511627776)) (cond (!decide (d.pos.block<0)) (cond (!decide (d.pos.block>=(s.blocks.length:Int))) (cond (!decide (d.pos.index<0)) (cond (!decide (d.pos.index>((u0 s e d.pos.block).length:Int))) (cD (-1) 1099511627776 (dP 16 d.ready)) false) false) false) false) false) false) false) false) false) false):=by
 unfold j5;rw[Bool.eq_iff_iff];simp only[<-a0G,zaG,zaK,Bool.not_eq_true',zaP];have e1:cD 0 (u0 s e d.pos.block).length [d.pos.index]=true↔0<=d.pos.index/\d.pos.index<=(u0 s e d.pos.block).length:=by rw[w1F,zaK]
 have e2:cD 0 1099511627776 [d.pos.base,d.wait,d.done]=true↔(0<=d.pos.base/\d.pos.base<=1099511627776)/\(0<=d.wait/\d.wait<=1099511627776)/\(0<=d.done/\d.done<=1099511627776):=by simp[cD]
 rw[e1,e2];constructor
 ·rintro ⟨⟨h1,h2⟩,⟨h3,h4⟩,⟨⟨h5,h6⟩,⟨h7,h8⟩,h9,h10⟩,h11⟩;exact⟨h7,h8,h9,h10,h5,h6,by omega,by omega,by omega,by omega,h11⟩
 ·rintro ⟨h7,h8,h9,h10,h5,h6,h1,h2,h3,h4,h11⟩;exact⟨⟨by omega,by omega⟩,⟨by omega,by omega⟩,⟨⟨h5,h6⟩,⟨h7,h8⟩,h9,h10⟩,h11⟩
def rdB (n:Int):Bool:=decide (-1<=n/\n<=1099511627776)
theorem a0H {d:cE}:cD (-1) 1099511627776 (dP 16 d.ready)=true↔∀ i,i<16->rdB (d.ready i)=true:=by unfold cD;rw[aMH,bG];exact⟨fun h i hi=>by have:=h i hi;rwa [kB hi]at this,fun h i hi=>by rw[kB hi];exact h i hi⟩
theorem a5H {s:Split} {d:cE}:bX (Ok zPr (Tab.q TO0)) fZ (XSt.mk [(7,.int .i64 0),(6,.bool false),(5,.ptr 1 [] 0)] [(1,some (aR d)),(0,some (aG s))] 2) [Frm.blk 0,Frm.seq iN] (dC [AR.tmp 6] (.bool (cD (-1) 1099511627776 (dP 16 d.ready)))):=by
 refine gT mix aTW (fun i:Nat=>bA5 d s i) (fun i=>i<=16/\∀ j,j<i->rdB (d.ready j)=true) (fun i=>16-i) 0 ⟨Nat.zero_le _,fun j hj=>by omega⟩ (.of (dL ⟨rfl,rfl,trivial⟩ ⟨rfl,rfl,trivial⟩ (zaF _))) ?_;rintro i ⟨hi,hp⟩;refine Eq.mpr (bE5 d s i _ _) ?_;by_cases hlt:i<16
 ·have h1:(i:Int)<16:=by omega
  have w1:IntKind.i64.wrap ((i:Int)+1)=((i+1:Nat):Int):=wrap_i64 (by omega) (by omega);have nx:rdB (d.ready i)=true->∃ j,(j<=16/\∀ k,k<j->rdB (d.ready k)=true)/\cJ 2 (XSt.st (XSt.mk [(7,.int .i64 ((i+1:Nat):Int)),(5,.ptr 1 [] 0)] [(1,some (aR d)),(0,some (aG s))] 2)) (bA5 d s j).st/\16-j<16-i:=fun h=>by
   refine⟨i+1,⟨hlt,fun j hj => ?_⟩,.of (dL ⟨rfl,rfl,trivial⟩ ⟨rfl,rfl,trivial⟩ (zaF _)),by omega⟩;by_cases hji:j=i
   ·subst hji;exact h
   ·exact hp j (by omega)
  simp only[g1,g2,g3,g4,g5,g6,g7,aD,zaB,zaF,zaC,cC,h1,hlt,w1,zaQ];by_cases hr:d.ready i = -1
  ·simp only[hr,zaN,zaE,zaD,zaH,zaB];exact nx (by unfold rdB;rw[hr];decide)
  ·simp only[hr,zaM,zaC,zaB];simp only[tD];refine kX (fun h => ?_) (fun h => ?_)
   ·have:cD (-1) 1099511627776 (dP 16 d.ready)=false:=by
     rw[<-Bool.not_eq_true,a0H];intro g;have:=g i hlt;simp[rdB]at this h;omega
    rw[this];exact .rfl
   ·refine nx ?_;simp[rdB]at h ⊢;omega
 ·have h1:¬(i:Int)<16:=by omega
  simp only[h1,zaE,zaD];rw[a0H.2 fun j hj=>hp j (by omega)];exact .rfl
theorem bA8:eV zPr (50,bE3):=bB fun⟨s,e,d⟩ _=>by
 have L:=a5H (s:=s) (d:=d);have g0:decide (0<=d.pos.block) = !decide (d.pos.block<0):=by rw[Bool.eq_iff_iff];simp
 have g1:decide (d.pos.block<(s.blocks.length:Int)) = !decide (d.pos.block>=(s.blocks.length:Int)):=by rw[Bool.eq_iff_iff];simp
 cases e with
 |false =>
  show Pure _ _ (cons [aG s,.bool false,aR d]) (con (.bool (j5 s false d)));refine j9 mix aTW nR (Nat.le_of_ble_eq_true rfl) ?_;refine Eq.mpr (bE4 s d _) ?_;rw[aTY];simp only[g0,g1];have ce:u0 s false d.pos.block=(ix s.blocks d.pos.block.toNat).a:=rfl;rw[ce];generalize cD (-1) 1099511627776 (dP 16 d.ready)=R at L ⊢;generalize decide (d.wait>=0)=w0;generalize decide (d.wait<=1099511627776)=w1;generalize decide (d.done>=0)=d0;generalize decide (d.done<=1099511627776)=d1;generalize decide (d.pos.base>=0)=p0;generalize decide (d.pos.base<=1099511627776)=p1;generalize decide (d.pos.block<0)=b0;generalize decide (d.pos.block>=(s.blocks.length:Int))=b1;generalize decide (d.pos.index<0)=i0;generalize decide (d.pos.index>((ix s.blocks d.pos.block.toNat).a.length:Int))=i1;cases w0 with
  |false=>first|exact .rfl|(cases w1<;>cases d0<;>cases d1<;>cases p0<;>cases p1<;>cases b0<;>cases b1<;>cases i0<;>cases i1<;>exact .rfl)
  |true =>
  cases w1 with
  |false=>first|exact .rfl|(cases d0<;>cases d1<;>cases p0<;>cases p1<;>cases b0<;>cases b1<;>cases i0<;>cases i1<;>exact .rfl)
  |true =>
  cases d0 with
  |false=>first|exact .rfl|(cases d1<;>cases p0<;>cases p1<;>cases b0<;>cases b1<;>cases i0<;>cases i1<;>exact .rfl)
  |true =>
  cases d1 with
  |false=>first|exact .rfl|(cases p0<;>cases p1<;>cases b0<;>cases b1<;>cases i0<;>cases i1<;>exact .rfl)
  |true =>
  cases p0 with
  |false=>first|exact .rfl|(cases p1<;>cases b0<;>cases b1<;>cases i0<;>cases i1<;>exact .rfl)
  |true =>
  cases p1 with
  |false=>first|exact .rfl|(cases b0<;>cases b1<;>cases i0<;>cases i1<;>exact .rfl)
  |true =>
  cases b0 with
  |true=>first|exact .rfl|(cases b1<;>cases i0<;>cases i1<;>exact .rfl)
  |false =>
  cases b1 with
  |true=>first|exact .rfl|(cases i0<;>cases i1<;>exact .rfl)
  |false =>
  cases i0 with
  |true=>first|exact .rfl|(cases i1<;>exact .rfl)
  |false =>
  cases i1 with
  |true=>first|exact .rfl|exact .rfl
  |false =>
  exact L
 |true =>
  show Pure _ _ (cons [aG s,.bool true,aR d]) (con (.bool (j5 s true d)));refine j9 mix aTW nR (Nat.le_of_ble_eq_true rfl) ?_;refine Eq.mpr (bA6 s d _) ?_;rw[aTY];simp only[g0,g1];have ce:u0 s true d.pos.block=(ix s.blocks d.pos.block.toNat).e:=rfl;rw[ce];generalize cD (-1) 1099511627776 (dP 16 d.ready)=R at L ⊢;generalize decide (d.wait>=0)=w0;generalize decide (d.wait<=1099511627776)=w1;generalize decide (d.done>=0)=d0;generalize decide (d.done<=1099511627776)=d1;generalize decide (d.pos.base>=0)=p0;generalize decide (d.pos.base<=1099511627776)=p1;generalize decide (d.pos.block<0)=b0;generalize decide (d.pos.block>=(s.blocks.length:Int))=b1;generalize decide (d.pos.index<0)=i0;generalize decide (d.pos.index>((ix s.blocks d.pos.block.toNat).e.length:Int))=i1;cases w0 with
  |false=>first|exact .rfl|(cases w1<;>cases d0<;>cases d1<;>cases p0<;>cases p1<;>cases b0<;>cases b1<;>cases i0<;>cases i1<;>exact .rfl)
  |true =>
  cases w1 with
  |false=>first|exact .rfl|(cases d0<;>cases d1<;>cases p0<;>cases p1<;>cases b0<;>cases b1<;>cases i0<;>cases i1<;>exact .rfl)
  |true =>
  cases d0 with
  |false=>first|exact .rfl|(cases d1<;>cases p0<;>cases p1<;>cases b0<;>cases b1<;>cases i0<;>cases i1<;>exact .rfl)
  |true =>
  cases d1 with
  |false=>first|exact .rfl|(cases p0<;>cases p1<;>cases b0<;>cases b1<;>cases i0<;>cases i1<;>exact .rfl)
  |true =>
  cases p0 with
  |false=>first|exact .rfl|(cases p1<;>cases b0<;>cases b1<;>cases i0<;>cases i1<;>exact .rfl)
  |true =>
  cases p1 with
  |false=>first|exact .rfl|(cases b0<;>cases b1<;>cases i0<;>cases i1<;>exact .rfl)
  |true =>
  cases b0 with
  |true=>first|exact .rfl|(cases b1<;>cases i0<;>cases i1<;>exact .rfl)
  |false =>
  cases b1 with
  |true=>first|exact .rfl|(cases i0<;>cases i1<;>exact .rfl)
  |false =>
  cases i0 with
  |true=>first|exact .rfl|(cases i1<;>exact .rfl)
  |false =>
  cases i1 with
  |true=>first|exact .rfl|exact .rfl
  |false =>
  exact L
theorem a0I:bT zPr TO1:=bQ dF trivial gM ⟨aTX,bA8,aTU,bA4,trivial⟩ trivial
theorem bA9 (c:Cfg) (s:Split) (x:Stt) (i:Nat) (r:XV) (A:XSt->Prop):(goQ zPr TO1 [(.tmp 6)] r (.run iD) [.lp iD A,.blk 0,.seq fQ] ⟨[(7,.int .i64 i),(5,.ptr 2 [] 0)],[(2,some (aP x)),(1,some (aG s)),(0,some (aV c))],3⟩)=(
 letI q1:=decide ((↑i:Int)<(↑(x.saq.length):Int));
 letI q2:=decide ((ix x.saq i).step>=0);
 letI q3:=fun(y:Bool)=>cond (!y) true (!cond q2 (decide ((ix x.saq i).step<=1099511627776)) false);
 letI q4:=fun(y:Bool) => !q3 y;
 letI q5:=fun(y:Bool) => !q4 y;
 letI q6:List (Nat×XV):=[(5,.ptr 2 [] 0)];
 letI q7:List (Nat×Option XV):=[(2,some (aP x)),(1,some (aG s)),(0,some (aV c))];cond q1 (cond q1 (∃(s:Int×Int×Int),aI [.int .i64 ((ix x.saq
  i).addr),.int .i64 ((ix x.saq i).size),.int .i64 (↑(x.mem.length):Int)] [.int .i64 s.1,.int .i64 s.2.1,.int .i64 s.2.2]/\aN (0<=s.2.2/\s.2.2<=1000000)/\∀(y:Bool),y
  = tO s.1 s.2.1 s.2.2->cond (!!y) (cond (cond q2 q2 true) (cond (cond (q4 y) true (q5 y)) (cond (cond (cond ((ix x.saq i).known) (cond (q4 y) ((ix x.saq i).known) false) true) true (q5 y)) (cond (cond (q3 y) true (q4 y)) (cond (cond (q3 y) true (cond ((ix x.saq i).known) (decide ((↑i:Int)>0)) false)) (aA
  (.bool false) r) (A (XSt.mk ((7,.int .i64 (IntKind.wrap .i64 ((↑i:Int)+1)))::q6) ((3,some (cB (ix x.saq i)))::q7) 4))) False) False) False) False) (cond (!y) (cond (cond (cond ((ix x.saq i).known) false true) true true) (aA (.bool false) r) False) False)) False) (bX (Ok zPr (Tab.q TO1))
  iF (XSt.mk ((10,.int .i64 0)::(9,.int .i64 0)::q6) q7 3) [Frm.blk 2,Frm.seq jX] (dC [AR.tmp 6] r))):=by kernel_rfl
theorem bBA (c:Cfg) (s:Split) (x:Stt) (i n:Nat) (r:XV) (A:XSt->Prop):(goQ zPr TO1 [(.tmp 6)] r (.run iF) [.lp iF A,.blk 2,.seq jX] ⟨[(10,.int .i64 i),(9,.int .i64 n),(5,.ptr 2 [] 0)],[(2,some (aP x)),(1,some (aG s)),(0,some (aV c))],3⟩)=(
 letI q1:=decide ((↑i:Int)<(↑(x.table.length):Int));
 letI q2:=decide (0<(↑(x.saq.length):Int));
 letI q3:=decide ((↑(x.saq.length):Int)=0);
 letI q4:=!q3;
 letI q5:=Entry.addr (ix x.saq (Int.toNat (0:Int)));
 letI q6:=cond q3 true (decide ¬(ix x.saq 0).addr=(ix x.table i).addr);
 letI q7:=!q6;
 letI q8:=Entry.size (ix x.saq (Int.toNat (0:Int)));
 letI q9:XV:=.int .i64 (IntKind.wrap .i64 ((↑i:Int)+1));
 letI q10:List (Nat×XV):=[(5,.ptr 2 [] 0)];
 letI q11:List (Nat×Option XV):=[(3,some (dS (ix x.table i))),(2,some (aP x)),(1,some (aG s)),(0,some (aV c))];
 letI q12:=decide ((↑(x.saq.length):Int)>0);
 letI q13:=decide ((↑n:Int)>1);
 letI q14:=decide (x.aT.kind>=0);
 letI q15:=cond q14 (decide (x.aT.kind<=4)) false;
 letI q16:=decide (x.aT.step>=0);
 letI q17:=cond q15 (cond q16 (decide (x.aT.step<=1099511627776)) false) false;
 letI q18:=decide (x.aT.pc>=0);
 letI q19:=cond q17 (cond q18 (decide (x.aT.pc<=1099511627776)) false) false;
 letI q20:=decide (x.aT.kind>0);
 letI q21:=cond q19 (!q20) false;
 letI q22:=!q21;
 letI q23:=decide (x.aT.step=0);
 letI q24:=!q19;
 letI q25:=cond (cond (cond q23 false true) true true) (cond (cond (cond q20 true false) true true) (aA (.bool false) r) False) False;
  cond q1 (cond q1 (∃(s:Req×Int),aI [dS (ix x.table i),.int .i64 (↑(x.mem.length):Int)] [dS s.1,.int .i64 s.2]/\aN (0<=s.2/\s.2<=1000000)/\∀(y:Bool),
  y=v8 s.1 s.2->cond (!y) (aA (.bool false) r) (cond ((ix x.table i).store) (cond (cond q2 true (!q4)) (cond (cond q3 true q4) (cond (cond q2 true (!q7)) (cond (cond q6 true q7) (cond (cond q6 true (decide ¬(ix x.saq 0).size=(ix x.table i).size)) (aA (.bool false) r) (A (XSt.mk ((10,q9)::(9,.int
  .i64 (IntKind.wrap .i64 ((↑n:Int)+1)))::q10) q11 4))) False) False) False) False) (A (XSt.mk ((10,q9)::(9,.int .i64 (↑n:Int))::q10) q11 4)))) False) (cond (cond q2 true (!q12)) (cond (cond q12 q12 true) (cond (cond q13 true (!q13)) (cond (cond q13 true (!(cond q12 ((ix x.saq 0).known) false)
  == decide ((↑n:Int)=1))) (aA (.bool false) r) (cond (cond q14 q14 true) (cond q15 (cond (cond q16 q16 true) (cond q17 (cond (cond q18 q18 true) (cond (cond q21 true q22) (cond (cond (cond q23 (cond q21 q23 false) true) true q22) (cond (cond q19 true q24) (cond (cond (cond q20 true q21) true q24) (cond (cond q19 q19 true) (aA (.bool (cond q19 (cond q20 true (cond q23 (decide (x.aT.pc=0)) false)) false)) r) False) False) False) False) False) False) (cond (!q17) q25 False)) False) (cond (!q15) q25 False)) False)) False) False) False)):=by kernel_rfl
def r5 (x:Stt):Bool:=u7 x&&aHX x.aT
def bE6 (c:Cfg) (s:Split) (x:Stt) (i:Nat):XSt:=⟨[(7,.int .i64 i),(5,.ptr 2 [] 0)],[(2,some (aP x)),(1,some (aG s)),(0,some (aV c))],3⟩
def bE7 (c:Cfg) (s:Split) (x:Stt) (i n:Nat):XSt:=⟨[(10,.int .i64 i),(9,.int .i64 n),(5,.ptr 2 [] 0)],[(2,some (aP x)),(1,some (aG s)),(0,some (aV c))],3⟩
theorem a5I {t:Trp}:aHX t=(decide (t.kind>=0)&&decide (t.kind<=4)&&(decide (t.step>=0)&&decide (t.step<=1099511627776))&&(decide (t.pc>=0)&&decide (t.pc<=1099511627776))&&(decide (t.kind>0)||(decide (t.step=0)&&decide (t.pc=0)))):=by
 unfold aHX aRO;rw[Bool.eq_iff_iff];split
 ·rename_i h;simp only[zaG,zaV,zaK];constructor
  ·rintro ⟨h1,h2⟩;omega
  ·rintro ⟨_,h2⟩;omega
 ·rename_i h;simp only[zaG,zaV,zaK];omega
theorem a5J {x:Stt} {n:Nat} (hn:n=eG x.table):(!(decide ((n:Int)>1) || !((cond (decide ((x.saq.length:Int)>0)) ((ix x.saq 0).known) false) == decide ((n:Int)=1))))=decide (eG x.table=if 0<x.saq.length/\(ix x.saq 0).known=true then 1 else 0):=by
 rw[<-hn];by_cases hz:0<x.saq.length
 ·have hz2:(x.saq.length:Int)>0:=by omega
  cases hk:(ix x.saq 0).known with
  |true => simp only[hz,hz2,zaC,zaB,and_self,if_true];rw[Bool.eq_iff_iff];simp;omega
  |false => simp only[hz,hz2,zaC,zaB,zaU,and_false,if_false];rw[Bool.eq_iff_iff];simp;omega
 ·have hz2:¬(x.saq.length:Int)>0:=by omega
  simp only[hz,hz2,zaE,zaD,false_and,if_false];rw[Bool.eq_iff_iff];simp;omega
theorem aWF {c:Cfg} {s:Split} {x:Stt} (ho:x.ok) (hs:gP (fun i=>aCT x i (ix x.saq i)) x.saq.length=true):bX (Ok zPr (Tab.q TO1)) iF (XSt.mk [(10,.int .i64 0),(9,.int .i64 0),(5,.ptr 2 [] 0)] [(2,some (aP x)),(1,some (aG s)),(0,some (aV c))] 3) [Frm.blk 2,Frm.seq jX] (dC [AR.tmp 6] (.bool (r5 x))):=by
 have hl:x.table.length<=1000000:=ho.2.2.2.2.2.2.2.1;have hm:x.mem.length<=1000000:=ho.2.2.2.2.2.2.2.2.1;refine gT mix a0I (fun i:Nat=>bE7 c s x i (eG (x.table.take i))) (fun i=>i<=x.table.length/\∀ j,j<i->v8 (ix x.table j) x.mem.length=true/\z8 x (ix x.table j)=true) (fun i=>x.table.length-i) 0 ⟨Nat.zero_le _,fun j hj=>by omega⟩ (.of (dL ⟨rfl,rfl,rfl,trivial⟩ ⟨rfl,rfl,rfl,trivial⟩ (zaF _))) ?_;rintro i ⟨hi,hp⟩;refine Eq.mpr (bBA c s x i _ _ _) ?_;have hc:eG (x.table.take i)<=1000000:=by have:eG (x.table.take i)<=(x.table.take i).length:=List.countP_le_length;have:=List.length_take_le i x.table;omega
 by_cases hlt:i<x.table.length
 ·have h1:(i:Int)<(x.table.length:Int):=by omega
  have w1:IntKind.i64.wrap ((i:Int)+1)=((i+1:Nat):Int):=wrap_i64 (by omega) (by omega);have w2:IntKind.i64.wrap ((eG (x.table.take i):Int)+1)=((eG (x.table.take i)+1:Nat):Int):=wrap_i64 (by omega) (by omega);have st:=a0D hlt;have nx:∀ n,n=eG (x.table.take (i+1))->v8 (ix x.table i) x.mem.length=true->z8 x (ix x.table i)=true->∃ j,(j<=x.table.length/\∀ k,k<j->v8 (ix x.table k) x.mem.length=true/\z8 x (ix x.table k)=true)/\cJ 3 (XSt.st (XSt.mk [(10,.int .i64 ((i+1:Nat):Int)),(9,.int .i64 (n:Nat)),(5,.ptr 2 [] 0)] [(3,some (dS (ix x.table i))),(2,some (aP x)),(1,some (aG s)),(0,some (aV c))] 4)) (bE7 c s x j (eG (x.table.take j))).st/\x.table.length-j<x.table.length-i:=fun n hn h h'=>by
   subst hn;refine⟨i+1,⟨hlt,fun j hj => ?_⟩,.ofL (aEU ⟨eF rfl,eF rfl,eF rfl,trivial⟩ ⟨rfl,rfl,rfl,trivial⟩ (zaF _) rfl),by omega⟩;by_cases hji:j=i
   ·subst hji;exact⟨h,h'⟩
   ·exact hp j (by omega)
  have bad1:v8 (ix x.table i) x.mem.length=false->r5 x=false:=fun h=>by unfold r5 u7;rw[a0E (p:=fun q=>v8 q x.mem.length) hlt h,hs];rfl
  have bad2:z8 x (ix x.table i)=false->r5 x=false:=fun h=>by unfold r5 u7 aTV;rw[a0E hlt h,hs,Bool.false_and,Bool.and_false];rfl
  simp only[h1,w1,w2,zaC,zaB];refine⟨(ix x.table i,(x.mem.length:Int)),.rfl,⟨⟨by show(0:Int)<=(x.mem.length:Int);omega,by show(x.mem.length:Int)<=1000000;omega⟩⟩, ?_⟩;intro y hy;replace hy:y=v8 (ix x.table i) x.mem.length:=hy;cases y with
  |false=>rw[bad1 hy.symm];exact .rfl
  |true =>
  simp only[zaI,zaD];cases hst:(ix x.table i).store with
  |false => rw[hst]at st;simp only[zaD];exact nx _ (by rw[st];rfl) hy.symm (by unfold z8;rw[hst];rfl)
  |true =>
   rw[hst]at st;simp only[zaB];by_cases hz:x.saq.length=0
   ·have hz':(x.saq.length:Int)=0:=by omega
    have hz2:¬(0:Int)<(x.saq.length:Int):=by omega
    rw[bad2 (by unfold z8;rw[hst];simp[hz])];simp only[hz',hz2,zaC,zaE,zaB,zaD,zaI,zaH,bor,Bool.true_or,Bool.or_true];exact .rfl
   ·have hz':¬(x.saq.length:Int)=0:=by omega
    have hz2:(0:Int)<(x.saq.length:Int):=by omega
    simp only[hz',hz2,zaC,zaE,zaB,zaD,zaI,zaH,bor,Bool.true_or,Bool.or_true,Bool.false_or,Bool.or_not_self];refine kX (fun h => ?_) (fun h => ?_)
    ·rw[bad2 (by
      unfold z8;rw[hst,decide_eq_true hz];simp only[decide_not,zaV,Bool.not_eq_true',zaP]at h;rcases h with h|h<;>simp[Ne.symm h])]
     exact .rfl
    ·refine nx _ (by rw[st];rfl) hy.symm ?_;unfold z8;rw[hst,decide_eq_true hz];simp only[decide_not,Bool.or_eq_false_iff,Bool.not_eq_false',zaK]at h;simp[h.1,h.2]
 ·have h1:¬(i:Int)<(x.table.length:Int):=by omega
  obtain rfl:i=x.table.length:=by omega
  simp only[h1,zaE,zaD];rw[List.take_length];have a1:x.table.all (fun q=>v8 q x.mem.length)=true:=aMH.2 fun j hj=>(hp j hj).1
  have a2:x.table.all (z8 x)=true:=aMH.2 fun j hj=>(hp j hj).2
  have e0:r5 x=((!(decide ((eG x.table:Int)>1) || !((cond (decide ((x.saq.length:Int)>0)) ((ix x.saq 0).known) false) == decide ((eG x.table:Int)=1))))&&aHX x.aT):=by rw[a5J rfl];unfold r5 u7 aTV;rw[hs,a1,a2];rfl
  have gz:decide ((0:Int)<(x.saq.length:Int))=decide ((x.saq.length:Int)>0):=rfl;rw[e0,a5I];simp only[g1,g2,g3,g4,g5,g6,g7,aD,zaB,zaF,zaC,cC,gz];simp only[bor,tD];refine kX (fun h=>by rw[h];exact .rfl) (fun h => ?_);rw[h];generalize decide (x.aT.kind>=0)=k0;generalize decide (x.aT.kind<=4)=k1;generalize decide (x.aT.kind>0)=k2;generalize decide (x.aT.step>=0)=s0;generalize decide (x.aT.step<=1099511627776)=s1;generalize decide (x.aT.pc>=0)=p0;generalize decide (x.aT.pc<=1099511627776)=p1;generalize decide (x.aT.step=0)=s2;generalize decide (x.aT.pc=0)=p2;cases k0<;>cases k1<;>(try exact .rfl)<;>cases s0<;>cases s1<;>(try exact .rfl)<;>cases p0<;>cases p1<;>cases k2<;>(try exact .rfl)<;>cases s2<;>cases p2<;>exact .rfl
theorem aWG {c:Cfg} {s:Split} {x:Stt} (ho:x.ok):bX (Ok zPr (Tab.q TO1)) iD (XSt.mk [(7,.int .i64 0),(6,.bool false),(5,.ptr 2 [] 0)] [(2,some (aP x)),(1,some (aG s)),(0,some (aV c))] 3) [Frm.blk 0,Frm.seq fQ] (dC [AR.tmp 6] (.bool (r5 x))):=by
 have hl:x.saq.length<=1000000:=ho.2.2.2.2.2.2.1;have hm:x.mem.length<=1000000:=ho.2.2.2.2.2.2.2.2.1;refine gT mix a0I (fun i:Nat=>bE6 c s x i) (fun i=>i<=x.saq.length/\∀ j,j<i->aCT x j (ix x.saq j)=true) (fun i=>x.saq.length-i) 0 ⟨Nat.zero_le _,fun j hj=>by omega⟩ (.of (dL ⟨rfl,rfl,trivial⟩ ⟨rfl,rfl,rfl,trivial⟩ (zaF _))) ?_;rintro i ⟨hi,hp⟩;refine Eq.mpr (bA9 c s x i _ _) ?_;by_cases hlt:i<x.saq.length
 ·have h1:(i:Int)<(x.saq.length:Int):=by omega
  have w1:IntKind.i64.wrap ((i:Int)+1)=((i+1:Nat):Int):=wrap_i64 (by omega) (by omega);have bad:aCT x i (ix x.saq i)=false->r5 x=false:=fun h=>by unfold r5 u7;rw[qL hlt h];rfl
  have nx:aCT x i (ix x.saq i)=true->∃ j,(j<=x.saq.length/\∀ k,k<j->aCT x k (ix x.saq k)=true)/\cJ 3 (XSt.st (XSt.mk [(7,.int .i64 ((i+1:Nat):Int)),(5,.ptr 2 [] 0)] [(3,some (cB (ix x.saq i))),(2,some (aP x)),(1,some (aG s)),(0,some (aV c))] 4)) (bE6 c s x j).st/\x.saq.length-j<x.saq.length-i:=fun h=>by
   refine⟨i+1,⟨hlt,fun j hj => ?_⟩,.ofL (aEU ⟨eF rfl,eF rfl,trivial⟩ ⟨rfl,rfl,rfl,trivial⟩ (zaF _) rfl),by omega⟩;by_cases hji:j=i
   ·subst hji;exact h
   ·exact hp j (by omega)
  have ed:decide ((i:Int)>0)=decide (0<i):=decide_eq_decide.2 (by omega);simp only[h1,w1,zaC,zaB,ed];refine⟨((ix x.saq i).addr,(ix x.saq i).size,(x.mem.length:Int)),.rfl,⟨⟨by show(0:Int)<=(x.mem.length:Int);omega,by show(x.mem.length:Int)<=1000000;omega⟩⟩, ?_⟩;intro y hy;replace hy:y=tO (ix x.saq i).addr (ix x.saq i).size x.mem.length:=hy;have eb:aRO (ix x.saq i).step=(cond (decide ((ix x.saq i).step>=0)) (decide ((ix x.saq i).step<=1099511627776)) false):=by unfold aRO;rw[Bool.eq_iff_iff,<-a0G];simp
  have e0:aCT x i (ix x.saq i)=(y&&(aRO (ix x.saq i).step && !((ix x.saq i).known&&decide (0<i)))):=by rw[hy];rfl
  rw[eb]at e0;clear hy eb;generalize decide ((ix x.saq i).step>=0)=s0 at e0 ⊢;generalize decide ((ix x.saq i).step<=1099511627776)=s1 at e0 ⊢;generalize (ix x.saq i).known=kn at e0 ⊢;generalize decide (0<i)=dz at e0 ⊢;have fin:aCT x i (ix x.saq i)=false->aA (.bool false) (.bool (r5 x)):=fun h=>by rw[bad h];exact .rfl
  cases y<;>cases s0<;>cases s1<;>cases kn<;>cases dz<;>first|exact fin e0|exact nx e0
 ·have h1:¬(i:Int)<(x.saq.length:Int):=by omega
  obtain rfl:i=x.saq.length:=by omega
  simp only[h1,zaE,zaD];exact aWF ho (dH.2 hp)
theorem bBB {c:Cfg} {s:Split} {x:Stt}:aU c s x=(cond (cX c) (cond (j5 s false x.a) (cond (j5 s true x.e) (cond (decide (x.aE>=0)) (cond (decide (x.aE<=1099511627776)) (cond (decide (x.dR>=0)) (cond (decide (x.dR<=1099511627776)) (cond (decide (x.cG>=0)) (cond (decide (x.cG<=1099511627776)) (cond (decide (x.tags>=0)) (cond (decide (x.tags<=1099511627776)) (cond (!decide ((x.ldq.length:Int)>c.ldq)) (cond (!decide ((x.sdq.length:Int)>c.sdq)) (cond (!decide ((x.aeq.length:Int)>c.aeq)) (cond (!decide ((x.abq.length:Int)>c.abq)) (cond (!decide ((x.ebq.length:Int)>c.ebq)) (cond (!decide ((x.saq.length:Int)>c.saq)) (cond (!decide ((x.table.length:Int)>c.bN)) (cond (!decide ((x.mem.length:Int)>65536)) (r5 x) false) false) false) false) false) false) false) false) false) false) false) false) false) false) false) false) false) false) false):=by
 have e2:cD 0 1099511627776 [x.aE,x.dR,x.cG,x.tags]=true↔(0<=x.aE/\x.aE<=1099511627776)/\(0<=x.dR/\x.dR<=1099511627776)/\(0<=x.cG/\x.cG<=1099511627776)/\(0<=x.tags/\x.tags<=1099511627776):=by simp[cD]
 unfold aU aPD r5;rw[Bool.eq_iff_iff];simp only[<-a0G,zaG,zaK,Bool.not_eq_true',zaP,e2,Int.not_lt,gt_iff_lt,ge_iff_le];constructor
 ·rintro ⟨a1,a2,a3,⟨⟨b1,b2⟩,⟨b3,b4⟩,⟨b5,b6⟩,b7,b8⟩,⟨c1,c2,c3,c4,c5,c6,c7,c8⟩,d1,d2⟩;exact⟨a1,a2,a3,b1,b2,b3,b4,b5,b6,b7,b8,c1,c2,c3,c4,c5,c6,c7,c8,d1,d2⟩
 ·rintro ⟨a1,a2,a3,b1,b2,b3,b4,b5,b6,b7,b8,c1,c2,c3,c4,c5,c6,c7,c8,d1,d2⟩;exact⟨a1,a2,a3,⟨⟨b1,b2⟩,⟨b3,b4⟩,⟨b5,b6⟩,b7,b8⟩,⟨c1,c2,c3,c4,c5,c6,c7,c8⟩,d1,d2⟩
theorem aMI:eV zPr (24,a0C):=bB fun⟨c,s,x⟩ h=>by
 have ho:x.ok:=h;show Pure _ _ (cons [aV c,aG s,aP x]) (con (.bool (aU c s x)));refine j9 mix a0I qS (Nat.le_of_ble_eq_true rfl) ?_;refine Eq.mpr (bA7 c s x _) ?_;have L:=aWG (c:=c) (s:=s) ho;rw[bBB];generalize r5 x=R at L ⊢;generalize decide (x.aE>=0)=cycle0;generalize decide (x.aE<=1099511627776)=cycle1;generalize decide (x.dR>=0)=lats0;generalize decide (x.dR<=1099511627776)=lats1;generalize decide (x.cG>=0)=picks0;generalize decide (x.cG<=1099511627776)=picks1;generalize decide (x.tags>=0)=tags0;generalize decide (x.tags<=1099511627776)=tags1;generalize decide ((x.ldq.length:Int)>c.ldq)=ldq0;generalize decide ((x.sdq.length:Int)>c.sdq)=sdq0;generalize decide ((x.aeq.length:Int)>c.aeq)=aeq0;generalize decide ((x.abq.length:Int)>c.abq)=abq0;generalize decide ((x.ebq.length:Int)>c.ebq)=ebq0;generalize decide ((x.saq.length:Int)>c.saq)=saq0;generalize decide ((x.table.length:Int)>c.bN)=t0;generalize decide ((x.mem.length:Int)>65536)=m0;refine⟨c,.rfl,⟨trivial⟩, ?_⟩;intro y hy;replace hy:y=cX c:=hy;rw[<-hy];clear hy;cases y with
 |false=>first|exact .rfl|(cases cycle0<;>cases lats0<;>cases picks0<;>cases tags0<;>exact .rfl)
 |true =>
 refine⟨(s,false,x.a),.rfl,⟨trivial⟩, ?_⟩;intro y hy;replace hy:y=j5 s false x.a:=hy;rw[<-hy];clear hy;cases y with
 |false=>first|exact .rfl|(cases cycle0<;>cases lats0<;>cases picks0<;>cases tags0<;>exact .rfl)
 |true =>
 refine⟨(s,true,x.e),.rfl,⟨trivial⟩, ?_⟩;intro y hy;replace hy:y=j5 s true x.e:=hy;rw[<-hy];clear hy;cases y with
 |false=>first|exact .rfl|(cases cycle0<;>cases lats0<;>cases picks0<;>cases tags0<;>exact .rfl)
 |true =>
 cases cycle0 with
 |false=>first|exact .rfl|(cases lats0<;>cases picks0<;>cases tags0<;>cases ldq0<;>cases sdq0<;>cases aeq0<;>cases abq0<;>cases ebq0<;>exact .rfl)
 |true =>
 cases cycle1 with
 |false=>first|exact .rfl|(cases lats0<;>cases picks0<;>cases tags0<;>cases ldq0<;>cases sdq0<;>cases aeq0<;>cases abq0<;>cases ebq0<;>exact .rfl)
 |true =>
 cases lats0 with
 |false=>first|exact .rfl|(cases picks0<;>cases tags0<;>cases ldq0<;>cases sdq0<;>cases aeq0<;>cases abq0<;>cases ebq0<;>cases saq0<;>exact .rfl)
 |true =>
 cases lats1 with
 |false=>first|exact .rfl|(cases picks0<;>cases tags0<;>cases ldq0<;>cases sdq0<;>cases aeq0<;>cases abq0<;>cases ebq0<;>cases saq0<;>exact .rfl)
 |true =>
 cases picks0 with
 |false=>first|exact .rfl|(cases tags0<;>cases ldq0<;>cases sdq0<;>cases aeq0<;>cases abq0<;>cases ebq0<;>cases saq0<;>cases t0<;>exact .rfl)
 |true =>
 cases picks1 with
 |false=>first|exact .rfl|(cases tags0<;>cases ldq0<;>cases sdq0<;>cases aeq0<;>cases abq0<;>cases ebq0<;>cases saq0<;>cases t0<;>exact .rfl)
 |true =>
 cases tags0 with
 |false=>first|exact .rfl|(cases ldq0<;>cases sdq0<;>cases aeq0<;>cases abq0<;>cases ebq0<;>cases saq0<;>cases t0<;>cases m0<;>exact .rfl)
 |true =>
 cases tags1 with
 |false=>first|exact .rfl|(cases ldq0<;>cases sdq0<;>cases aeq0<;>cases abq0<;>cases ebq0<;>cases saq0<;>cases t0<;>cases m0<;>exact .rfl)
 |true =>
 cases ldq0 with
 |true=>first|exact .rfl|(cases sdq0<;>cases aeq0<;>cases abq0<;>cases ebq0<;>cases saq0<;>cases t0<;>cases m0<;>exact .rfl)
 |false =>
 cases sdq0 with
 |true=>first|exact .rfl|(cases aeq0<;>cases abq0<;>cases ebq0<;>cases saq0<;>cases t0<;>cases m0<;>exact .rfl)
 |false =>
 cases aeq0 with
 |true=>first|exact .rfl|(cases abq0<;>cases ebq0<;>cases saq0<;>cases t0<;>cases m0<;>exact .rfl)
 |false =>
 cases abq0 with
 |true=>first|exact .rfl|(cases ebq0<;>cases saq0<;>cases t0<;>cases m0<;>exact .rfl)
 |false =>
 cases ebq0 with
 |true=>first|exact .rfl|(cases saq0<;>cases t0<;>cases m0<;>exact .rfl)
 |false =>
 cases saq0 with
 |true=>first|exact .rfl|(cases t0<;>cases m0<;>exact .rfl)
 |false =>
 cases t0 with
 |true=>first|exact .rfl|(cases m0<;>exact .rfl)
 |false =>
 cases m0 with
 |true=>first|exact .rfl
 |false =>
 exact L
end Go.Proofs.YtooojfbfobmkfaaGreat
namespace Go.Ra
set_option linter.unusedVariables false
set_option linter.unusedSimpArgs false
theorem ofI {A:Nat} (h:A<4294967296):(BitVec.ofInt 32 (A:Int)).toNat=A:=by rw[BitVec.toNat_ofInt];omega
theorem bE8 {A B:Nat} (ha:A<4294967296) (hb:B<4294967296):eR .and .u32 A B=((A &&& B:Nat):Int):=by show IntKind.u32.wrap (((BitVec.ofInt 32 (A:Int)) &&& (BitVec.ofInt 32 (B:Int))).toNat:Int)=_;have:A &&& B<=A:=Nat.and_le_left;rw[BitVec.toNat_and,ofI ha,ofI hb,wA];omega
theorem bOr {A B:Nat} (ha:A<4294967296) (hb:B<4294967296):eR .or .u32 A B=((A ||| B:Nat):Int):=by
 show IntKind.u32.wrap (((BitVec.ofInt 32 (A:Int)) ||| (BitVec.ofInt 32 (B:Int))).toNat:Int)=_;have:A ||| B<2^32:=Nat.or_lt_two_pow (by omega) (by omega)
 rw[BitVec.toNat_or,ofI ha,ofI hb,wA];omega
theorem bH6 {A B:Nat} (ha:A<4294967296) (hb:B<4294967296):eR .xor .u32 A B=((A ^^^ B:Nat):Int):=by show IntKind.u32.wrap (((BitVec.ofInt 32 (A:Int)) ^^^ (BitVec.ofInt 32 (B:Int))).toNat:Int)=_;have:A ^^^ B<2^32:=Nat.xor_lt_two_pow (by omega) (by omega);rw[BitVec.toNat_xor,ofI ha,ofI hb,wA];omega
theorem bE9 {A B:Nat} (ha:A<4294967296) (hb:B<4294967296):A ||| B<4294967296:=Nat.or_lt_two_pow (n:=32) ha hb
theorem bBC {A B:Nat} (ha:A<4294967296) (hb:B<4294967296):A ^^^ B<4294967296:=Nat.xor_lt_two_pow (n:=32) ha hb
theorem bBD {A B:Nat} (ha:A<4294967296):A &&& B<4294967296:=Nat.lt_of_le_of_lt Nat.and_le_left ha
end Go.Ra
namespace Go.Proofs.YtooojfbfobmkfaaGreat.Alu
open Go.Ra
set_option linter.unusedVariables false
set_option linter.unusedSimpArgs false
def TU0:Tab:=mkT qq fX [] []
def fmI (op:Int):Int:=if op<1\/op>41 then 0 else if op<=16 then 1 else if op<=24 then 2 else if op=25 then 3 else if op<=30 then 4 else if op<=33 then 5 else if op<=39 then 6 else if op=40 then 7 else 8
def aPE (b:Bool):Int:=cond b 1 0
def a0J:List XV->Option (List Bool×XV)
 |[.bool b]=>some ([],.int .u32 (aPE b))
 |_=>none
def rgP (n:Int) (h:Prop):Prop:=(h/\0<=n/\n<=15)\/(¬h/\n=0)
def rtP (op f d x y m:Int):Prop:=f≠0/\rgP d (1<=f/\f<=4)/\rgP x (f=1\/f=2\/f=4\/f=5\/f=6)/\rgP y (f=1\/f=5\/f=6)/\(m=0\/(2<=f/\f<=7/\((¬(op=22\/op=23\/op=24) /\ -8192<=m/\m<=8191)\/((op=22\/op=23\/op=24)/\0<=m/\m<=31))))
instance {n:Int} {h:Prop} [Decidable h]:Decidable (rgP n h):=by unfold rgP;infer_instance
instance {op f d x y m:Int}:Decidable (rtP op f d x y m):=by unfold rtP;infer_instance
def rtB (op d x y m:Int):Bool:=decide (rtP op (fmI op) d x y m)
def aFD:List XV->Option (List Bool×XV)
 |[.agg 5 [.int .i64 op,.int .i64 d,.int .i64 x,.int .i64 y,.int .i64 m]]=>some ([],.bool (rtB op d x y m))
 |_=>none
def aTZ (f:Int):List XV->Option (List Bool×XV)
 |[.int .i64 op]=>some ([decide (fmI op=f)],.int .i64 f)
 |_=>none
def TU1 (f:Int):Tab:=mkT qq fX [(41,aTZ f)] []
theorem a0K:bT zPr TU0:=sH dY trivial trivial
theorem bFA (a:Int) (K:XV->Prop):(aO TU0 80 (bL TU0 80 20) 41 [.int .i64 a] K)=(
 letI q1:=decide (a<1);cond (cond q1 true (!q1)) (cond (cond q1 true (decide (a>41))) (K (.int .i64 0)) (cond (decide (a<=16)) (K (.int .i64 1)) (cond (decide
  (a<=24)) (K (.int .i64 2)) (cond (decide (a=25)) (K (.int .i64 3)) (cond (decide (a<=30)) (K (.int .i64 4)) (cond (decide (a<=33)) (K (.int .i64 5)) (cond (decide
  (a<=39)) (K (.int .i64 6)) (cond (decide (a=40)) (K (.int .i64 7)) (K (.int .i64 8)))))))))) False):=by kernel_rfl
theorem bBE (a:Bool) (K:XV->Prop):(aO TU0 80 (bL TU0 80 20) 93 [.bool a] K)=(cond a (K (.int .u32 1)) (K (.int .u32 0))):=by kernel_rfl
theorem a5K (op d x y m:Int) (K:XV->Prop):(aO (TU1 0) 80 (bL (TU1 0) 80 20) 36 [.agg 5 [.int .i64 op,.int .i64 d,.int .i64 x,.int .i64 y,.int .i64 m]] K)=(cond (decide (fmI op=0)) (K (.bool false)) False):=by kernel_rfl
theorem a5L (op d x y m:Int) (K:XV->Prop):(aO (TU1 1) 80 (bL (TU1 1) 80 20) 36 [.agg 5 [.int .i64 op,.int .i64 d,.int .i64 x,.int .i64 y,.int .i64 m]] K)=(
 letI q1:=decide (d=0);
 letI q2:=!q1;
 letI q3:=!q2;
 letI q4:=cond q2 true q3;
 letI q5:=decide (d>0);
 letI q6:=!cond q1 true (cond q5 (decide (d<=15)) false);
 letI q7:=decide (x=0);
 letI q8:=!q7;
 letI q9:=!q8;
 letI q10:=cond q8 true q9;
 letI q11:=decide (x>0);
 letI q12:=cond q6 true (!cond q7 true (cond q11 (decide (x<=15)) false));
 letI q13:=decide (y=0);
 letI q14:=!q13;
 letI q15:=!q14;
 letI q16:=cond q14 true q15;
 letI q17:=decide (y>0);
 letI q18:=cond q12 true (!cond q13 true (cond q17 (decide (y<=15)) false));
 letI q19:=!q18;
 letI q20:=!q19;
 letI q21:=decide (op=22);
 letI q22:=cond q21 true (decide (op=23));
 letI q23:=decide (m>=0);
 letI q24:=decide (m>=(-8192:Int));cond (decide (fmI op=1)) (cond q4 (cond (cond (cond q2 true false) true q3) (cond q4 (cond (cond (cond q5 (cond q2 q5 false) true) true q3) (cond (cond q1 true q2) (cond (!q6) (cond q10 (cond (cond (cond q8 true false) true q9) (cond q10 (cond (cond (cond q11 (cond q8 q11 false) true) true q9) (cond (cond q7 true q8) (cond (!q12) (cond q16 (cond (cond (cond q14 true false) true q15) (cond q16 (cond (cond (cond q17 (cond q14 q17 false) true) true q15) (cond (cond q13 true q14) (cond (cond q19 true q20) (cond (cond (cond q19 true false) true q20) (cond (cond q18 true q19) (cond (cond q18 true (decide ¬m=0)) (K (.bool false)) (cond (cond q21 true (!q21)) (cond (cond q22 true (!q22)) (cond (cond q22 true (decide (op=24))) (cond (cond q23 q23 true) (K (.bool (cond q23 (decide (m<=31)) false))) False) (cond (cond q24 q24 true) (K (.bool (cond q24 (decide (m<=8191)) false))) False)) False) False)) False) False) False) False) False) False) False) False) (cond q12 (K (.bool false)) False)) False) False) False) False) False) (cond q6 (K (.bool
  false)) False)) False) False) False) False) False) False):=by kernel_rfl
theorem a5M (op d x y m:Int) (K:XV->Prop):(aO (TU1 2) 80 (bL (TU1 2) 80 20) 36 [.agg 5 [.int .i64 op,.int .i64 d,.int .i64 x,.int .i64 y,.int .i64 m]] K)=(
 letI q1:=decide (d=0);
 letI q2:=!q1;
 letI q3:=!q2;
 letI q4:=cond q2 true q3;
 letI q5:=decide (d>0);
 letI q6:=!cond q1 true (cond q5 (decide (d<=15)) false);
 letI q7:=decide (x=0);
 letI q8:=!q7;
 letI q9:=!q8;
 letI q10:=cond q8 true q9;
 letI q11:=decide (x>0);
 letI q12:=cond q6 true (!cond q7 true (cond q11 (decide (x<=15)) false));
 letI q13:=decide (y=0);
 letI q14:=!q13;
 letI q15:=cond q14 true (!q14);
 letI q16:=cond q12 true (!cond q13 true false);
 letI q17:=!q16;
 letI q18:=decide (op=22);
 letI q19:=cond q18 true (decide (op=23));
 letI q20:=decide (m>=0);
 letI q21:=decide (m>=(-8192:Int));cond (decide (fmI op=2)) (cond q4 (cond (cond (cond q2 true false) true q3) (cond q4 (cond (cond (cond q5 (cond q2 q5 false) true) true q3) (cond (cond q1 true q2) (cond (!q6) (cond q10 (cond (cond (cond q8 true false) true q9) (cond q10 (cond (cond (cond q11 (cond q8 q11 false) true) true q9) (cond (cond q7 true q8) (cond (!q12) (cond q15 (cond q15 (cond (cond q13 true q14) (cond (cond q17 true (!q17)) (cond (cond q16 true q17) (cond (cond q16 true false) (K (.bool false)) (cond (cond q18 true (!q18)) (cond (cond q19 true (!q19)) (cond (cond q19 true (decide (op=24))) (cond (cond q20 q20 true) (K (.bool (cond q20 (decide (m<=31)) false))) False) (cond (cond q21 q21 true) (K (.bool (cond q21 (decide (m<=8191)) false))) False)) False) False)) False) False) False) False) False) (cond q12 (K (.bool false)) False)) False) False) False) False) False) (cond q6 (K (.bool false)) False)) False) False) False) False) False) False):=by kernel_rfl
theorem a5N (op d x y m:Int) (K:XV->Prop):(aO (TU1 3) 80 (bL (TU1 3) 80 20) 36 [.agg 5 [.int .i64 op,.int .i64 d,.int .i64 x,.int .i64 y,.int .i64 m]] K)=(
 letI q1:=decide (d=0);
 letI q2:=!q1;
 letI q3:=!q2;
 letI q4:=cond q2 true q3;
 letI q5:=decide (d>0);
 letI q6:=!cond q1 true (cond q5 (decide (d<=15)) false);
 letI q7:=decide (x=0);
 letI q8:=!q7;
 letI q9:=cond q8 true (!q8);
 letI q10:=cond q6 true (!cond q7 true false);
 letI q11:=decide (y=0);
 letI q12:=!q11;
 letI q13:=cond q12 true (!q12);
 letI q14:=cond q10 true (!cond q11 true false);
 letI q15:=!q14;
 letI q16:=decide (op=22);
 letI q17:=cond q16 true (decide (op=23));
 letI q18:=decide (m>=0);
 letI q19:=decide (m>=(-8192:Int));cond (decide (fmI op=3)) (cond q4 (cond (cond (cond q2 true false) true q3) (cond q4 (cond (cond (cond q5 (cond q2 q5 false) true) true q3) (cond (cond q1 true q2) (cond (!q6) (cond q9 (cond q9 (cond (cond q7 true q8) (cond (!q10) (cond q13 (cond q13 (cond (cond q11 true q12) (cond (cond q15 true (!q15)) (cond (cond q14 true q15) (cond (cond q14 true false) (K (.bool false)) (cond (cond q16 true (!q16)) (cond (cond q17 true (!q17)) (cond (cond q17 true (decide (op=24))) (cond (cond q18 q18 true) (K (.bool (cond q18 (decide
  (m<=31)) false))) False) (cond (cond q19 q19 true) (K (.bool (cond q19 (decide (m<=8191)) false))) False)) False) False)) False) False) False) False) False) (cond q10 (K (.bool false)) False)) False) False) False) (cond q6 (K (.bool false)) False)) False) False) False) False) False) False):=by kernel_rfl
theorem a5O (op d x y m:Int) (K:XV->Prop):(aO (TU1 4) 80 (bL (TU1 4) 80 20) 36 [.agg 5 [.int .i64 op,.int .i64 d,.int .i64 x,.int .i64 y,.int .i64 m]] K)=(
 letI q1:=decide (d=0);
 letI q2:=!q1;
 letI q3:=!q2;
 letI q4:=cond q2 true q3;
 letI q5:=decide (d>0);
 letI q6:=!cond q1 true (cond q5 (decide (d<=15)) false);
 letI q7:=decide (x=0);
 letI q8:=!q7;
 letI q9:=!q8;
 letI q10:=cond q8 true q9;
 letI q11:=decide (x>0);
 letI q12:=cond q6 true (!cond q7 true (cond q11 (decide (x<=15)) false));
 letI q13:=decide (y=0);
 letI q14:=!q13;
 letI q15:=cond q14 true (!q14);
 letI q16:=cond q12 true (!cond q13 true false);
 letI q17:=!q16;
 letI q18:=decide (op=22);
 letI q19:=cond q18 true (decide (op=23));
 letI q20:=decide (m>=0);
 letI q21:=decide (m>=(-8192:Int));cond (decide (fmI op=4)) (cond q4 (cond (cond (cond q2 true false) true q3) (cond q4 (cond (cond (cond q5 (cond q2 q5 false) true) true q3) (cond (cond q1 true q2) (cond (!q6) (cond q10 (cond (cond (cond q8 true false) true q9) (cond q10 (cond (cond (cond q11 (cond q8 q11 false) true) true q9) (cond (cond q7 true q8) (cond (!q12) (cond q15 (cond q15 (cond (cond q13 true q14) (cond (cond q17 true (!q17)) (cond (cond q16 true q17) (cond (cond q16 true false) (K (.bool false)) (cond (cond q18 true (!q18)) (cond (cond q19 true (!q19)) (cond (cond q19 true (decide (op=24))) (cond (cond q20 q20 true) (K (.bool (cond q20 (decide (m<=31)) false))) False) (cond (cond q21 q21 true) (K (.bool (cond q21 (decide (m<=8191)) false))) False)) False) False)) False) False) False) False) False) (cond q12 (K (.bool false)) False)) False) False) False) False) False) (cond q6 (K (.bool false)) False)) False) False) False) False) False) False):=by kernel_rfl
theorem a5P (op d x y m:Int) (K:XV->Prop):(aO (TU1 5) 80 (bL (TU1 5) 80 20) 36 [.agg 5 [.int .i64 op,.int .i64 d,.int .i64 x,.int .i64 y,.int .i64 m]] K)=(
 letI q1:=decide (d=0);
 letI q2:=!q1;
 letI q3:=cond q2 true (!q2);
 letI q4:=!cond q1 true false;
 letI q5:=decide (x=0);
 letI q6:=!q5;
 letI q7:=!q6;
 letI q8:=cond q6 true q7;
 letI q9:=decide (x>0);
 letI q10:=cond q4 true (!cond q5 true (cond q9 (decide (x<=15)) false));
 letI q11:=decide (y=0);
 letI q12:=!q11;
 letI q13:=!q12;
 letI q14:=cond q12 true q13;
 letI q15:=decide (y>0);
 letI q16:=cond q10 true (!cond q11 true (cond q15 (decide (y<=15)) false));
 letI q17:=!q16;
 letI q18:=decide (op=22);
 letI q19:=cond q18 true (decide (op=23));
 letI q20:=decide (m>=0);
 letI q21:=decide (m>=(-8192:Int));cond (decide (fmI op=5)) (cond q3 (cond q3 (cond (cond q1 true q2) (cond (!q4) (cond q8 (cond (cond (cond q6 true false) true q7) (cond q8 (cond (cond (cond q9 (cond q6 q9 false) true) true q7) (cond (cond q5 true q6) (cond (!q10) (cond q14 (cond (cond (cond q12 true false) true q13) (cond q14 (cond (cond (cond q15 (cond q12 q15 false) true) true q13) (cond (cond q11 true q12) (cond (cond q17 true (!q17)) (cond (cond q16 true q17) (cond (cond q16 true false) (K (.bool false)) (cond (cond q18 true (!q18)) (cond (cond q19 true (!q19)) (cond (cond q19 true (decide (op=24))) (cond (cond q20 q20 true) (K (.bool (cond q20 (decide (m<=31)) false))) False) (cond (cond q21 q21 true) (K (.bool (cond q21 (decide (m<=8191)) false))) False)) False) False)) False) False) False) False) False) False) False) (cond q10 (K (.bool false)) False)) False) False) False) False) False) (cond q4 (K (.bool false)) False)) False) False) False) False):=by kernel_rfl
theorem a5Q (op d x y m:Int) (K:XV->Prop):(aO (TU1 6) 80 (bL (TU1 6) 80 20) 36 [.agg 5 [.int .i64 op,.int .i64 d,.int .i64 x,.int .i64 y,.int .i64 m]] K)=(
 letI q1:=decide (d=0);
 letI q2:=!q1;
 letI q3:=cond q2 true (!q2);
 letI q4:=!cond q1 true false;
 letI q5:=decide (x=0);
 letI q6:=!q5;
 letI q7:=!q6;
 letI q8:=cond q6 true q7;
 letI q9:=decide (x>0);
 letI q10:=cond q4 true (!cond q5 true (cond q9 (decide (x<=15)) false));
 letI q11:=decide (y=0);
 letI q12:=!q11;
 letI q13:=!q12;
 letI q14:=cond q12 true q13;
 letI q15:=decide (y>0);
 letI q16:=cond q10 true (!cond q11 true (cond q15 (decide (y<=15)) false));
 letI q17:=!q16;
 letI q18:=decide (op=22);
 letI q19:=cond q18 true (decide (op=23));
 letI q20:=decide (m>=0);
 letI q21:=decide (m>=(-8192:Int));cond (decide (fmI op=6)) (cond q3 (cond q3 (cond (cond q1 true q2) (cond (!q4) (cond q8 (cond (cond (cond q6 true false) true q7) (cond q8 (cond (cond (cond q9 (cond q6 q9 false) true) true q7) (cond (cond q5 true q6) (cond (!q10) (cond q14 (cond (cond (cond q12 true false) true q13) (cond q14 (cond (cond (cond q15 (cond q12 q15 false) true) true q13) (cond (cond q11 true q12) (cond (cond q17 true (!q17)) (cond (cond q16 true q17) (cond (cond q16 true false) (K (.bool false)) (cond (cond q18 true (!q18)) (cond (cond q19 true (!q19)) (cond (cond q19 true (decide (op=24))) (cond (cond q20 q20 true) (K (.bool (cond q20 (decide (m<=31)) false))) False) (cond (cond q21 q21 true) (K (.bool (cond q21 (decide (m<=8191)) false))) False)) False) False)) False) False) False) False) False) False) False) (cond q10 (K (.bool false)) False)) False) False) False) False) False) (cond q4 (K (.bool false)) False)) False) False) False) False):=by kernel_rfl
theorem a5R (op d x y m:Int) (K:XV->Prop):(aO (TU1 7) 80 (bL (TU1 7) 80 20) 36 [.agg 5 [.int .i64 op,.int .i64 d,.int .i64 x,.int .i64 y,.int .i64 m]] K)=(
 letI q1:=decide (d=0);
 letI q2:=!q1;
 letI q3:=cond q2 true (!q2);
 letI q4:=!cond q1 true false;
 letI q5:=decide (x=0);
 letI q6:=!q5;
 letI q7:=cond q6 true (!q6);
 letI q8:=cond q4 true (!cond q5 true false);
 letI q9:=decide (y=0);
 letI q10:=!q9;
 letI q11:=cond q10 true (!q10);
 letI q12:=cond q8 true (!cond q9 true false);
 letI q13:=!q12;
 letI q14:=decide (op=22);
 letI q15:=cond q14 true (decide (op=23));
 letI q16:=decide (m>=0);
 letI q17:=decide (m>=(-8192:Int));cond (decide (fmI op=7)) (cond q3 (cond q3 (cond (cond q1 true q2) (cond (!q4) (cond q7 (cond q7 (cond (cond q5 true q6) (cond (!q8) (cond q11 (cond q11 (cond (cond q9 true q10) (cond (cond q13 true (!q13)) (cond (cond q12 true q13) (cond (cond q12 true false) (K (.bool false)) (cond (cond q14 true (!q14)) (cond (cond q15 true (!q15)) (cond (cond q15 true (decide (op=24))) (cond (cond q16 q16 true) (K (.bool (cond q16 (decide (m<=31)) false))) False) (cond (cond q17 q17 true) (K (.bool (cond q17 (decide (m<=8191)) false))) False)) False) False)) False) False) False) False) False) (cond q8 (K (.bool false)) False)) False) False) False) (cond q4 (K (.bool false)) False)) False) False) False) False):=by kernel_rfl
theorem a5S (op d x y m:Int) (K:XV->Prop):(aO (TU1 8) 80 (bL (TU1 8) 80 20) 36 [.agg 5 [.int .i64 op,.int .i64 d,.int .i64 x,.int .i64 y,.int .i64 m]] K)=(
 letI q1:=decide (d=0);
 letI q2:=!q1;
 letI q3:=cond q2 true (!q2);
 letI q4:=!cond q1 true false;
 letI q5:=decide (x=0);
 letI q6:=!q5;
 letI q7:=cond q6 true (!q6);
 letI q8:=cond q4 true (!cond q5 true false);
 letI q9:=decide (y=0);
 letI q10:=!q9;
 letI q11:=cond q10 true (!q10);
 letI q12:=cond q8 true (!cond q9 true false);
 letI q13:=!q12;
 letI q14:=!q13;
 letI q15:=decide (op=22);
 letI q16:=cond q15 true (decide (op=23));
 letI q17:=decide (m>=0);
 letI q18:=decide (m>=(-8192:Int));cond (decide (fmI op=8)) (cond q3 (cond q3 (cond (cond q1 true q2) (cond (!q4) (cond q7 (cond q7 (cond (cond q5 true q6) (cond (!q8) (cond q11 (cond q11 (cond (cond q9 true q10) (cond (cond q13 true q14) (cond (cond (cond q13 true false) true q14) (cond (cond q12 true q13) (cond (cond q12 true (decide ¬m=0)) (K (.bool false)) (cond (cond q15 true (!q15)) (cond (cond q16 true (!q16)) (cond (cond q16 true (decide (op=24))) (cond (cond q17 q17 true) (K (.bool (cond q17 (decide (m<=31)) false))) False) (cond (cond q18 q18 true) (K (.bool (cond q18 (decide (m<=8191)) false))) False)) False) False)) False) False) False) False) False) False) (cond q8 (K (.bool false)) False)) False) False) False) (cond q4 (K (.bool false)) False)) False) False) False) False):=by kernel_rfl
theorem pk3 (p z:Bool):(cond (cond p (cond (!z) p false) true) true (!!z))=true:=by cases p<;>cases z<;>rfl
theorem pk4 (z:Bool):(cond (cond (!z) true false) true (!!z))=true:=by cases z<;>rfl
theorem a0L (op:Int):Pure zPr 41 (cons [.int .i64 op]) (con (.int .i64 (fmI op))):=by
 refine gQ (u:=80) (k:=20) mix a0K ?_;rw[bFA];unfold fmI;simp only[bI,zaB];by_cases h0:op<1\/op>41
 ·rw[if_pos h0];rcases h0 with h|h<;>simp[h]
 ·rw[if_neg h0];have h1:¬op<1:=fun h=>h0 (.inl h)
  have h2:¬op>41:=fun h=>h0 (.inr h)
  simp only[h1,h2,zaE,zaD];by_cases h3:op<=16
  ·simp only[h3,zaC,zaB,if_true]
  simp only[h3,zaE,zaD,if_false];by_cases h4:op<=24
  ·simp only[h4,zaC,zaB,if_true]
  simp only[h4,zaE,zaD,if_false];by_cases h5:op=25
  ·simp only[h5,zaC,zaB,if_true]
  simp only[h5,zaE,zaD,if_false];by_cases h6:op<=30
  ·simp only[h6,zaC,zaB,if_true]
  simp only[h6,zaE,zaD,if_false];by_cases h7:op<=33
  ·simp only[h7,zaC,zaB,if_true]
  simp only[h7,zaE,zaD,if_false];by_cases h8:op<=39
  ·simp only[h8,zaC,zaB,if_true]
  simp only[h8,zaE,zaD,if_false];by_cases h9:op=40
  ·simp only[h9,zaC,zaB,if_true]
  simp only[h9,zaE,zaD,if_false]
theorem aKG (f:Int):rD zPr (41,aTZ f):=fun args nd v h hn=>by
 simp only[aTZ]at h;split at h
 ·rename_i op;simp only[zaA,zaJ]at h;obtain⟨rfl,rfl⟩:=h;have:fmI op=f:=of_decide_eq_true (hn _ (by simp));rw[<-this];exact a0L _
 ·cases h
theorem aCU (f:Int):bT zPr (TU1 f):=sH dY ⟨aKG f,trivial⟩ trivial
theorem a74 (op:Int):fmI op=0\/fmI op=1\/fmI op=2\/fmI op=3\/fmI op=4\/fmI op=5\/fmI op=6\/fmI op=7\/fmI op=8:=by
 unfold fmI
 repeat' split
 all_goals omega
theorem bH7 (b:Bool):Pure zPr 93 (cons [.bool b]) (con (.int .u32 (aPE b))):=by refine gQ (u:=80) (k:=20) mix a0K ?_;rw[bBE];cases b<;>rfl
theorem a5T:rD zPr (93,a0J):=fun args nd v h hn=>by
 simp only[a0J]at h;split at h
 ·simp only[zaA,zaJ]at h;obtain⟨rfl,rfl⟩:=h;exact bH7 _
 ·cases h
theorem bFB (op d x y m:Int) (h:fmI op=0):Pure zPr 36 (cons [.agg 5 [.int .i64 op,.int .i64 d,.int .i64 x,.int .i64 y,.int .i64 m]]) (con (.bool (rtB op d x y m))):=by
 refine gQ (u:=80) (k:=20) mix (aCU 0) ?_;rw[a5K];have e:rtB op d x y m=false:=by unfold rtB rtP;rw[h];simp
 rw[e];simp only[h,bI,aS,pk3,pk4,zaC,zaB,zaD,zaI,zaH]
 try cases decide (op=22)<;>cases decide (op=23)<;>cases decide (op=24)<;>trivial
theorem bFC (op d x y m:Int) (h:fmI op=1):Pure zPr 36 (cons [.agg 5 [.int .i64 op,.int .i64 d,.int .i64 x,.int .i64 y,.int .i64 m]]) (con (.bool (rtB op d x y m))):=by
 refine gQ (u:=80) (k:=20) mix (aCU 1) ?_;rw[a5L];have e:rtB op d x y m=((cond (decide (d=0)) true (cond (decide (d>0)) (decide (d<=15)) false))&&((cond (decide (x=0)) true (cond (decide (x>0)) (decide (x<=15)) false))&&((cond (decide (y=0)) true (cond (decide (y>0)) (decide (y<=15)) false))&&decide (m=0)))):=by
  unfold rtB;rw[h,Bool.eq_iff_iff];by_cases ho:(op=22\/op=23\/op=24)
  ·have ho2:(cond (cond (decide (op=22)) true (decide (op=23))) true (decide (op=24)))=true:=by rcases ho with h|h|h<;>simp[h]
   try rw[ho2]
   simp only[zaK,zaG,zaB,rtP,rgP,Bool.cond_true_left,Bool.cond_false_right,Bool.cond_true_right,Bool.cond_false_left,Bool.or_eq_false_iff,zaV,zaG,zaW,zaP,zaK,Bool.not_eq_true',Bool.not_eq_false',Bool.not_not,Int.not_lt,Int.not_le,gt_iff_lt,ge_iff_le];simp<;>omega
  ·have ho2:(cond (cond (decide (op=22)) true (decide (op=23))) true (decide (op=24)))=false:=by simp only[not_or]at ho;simp[ho]
   try rw[ho2]
   simp only[zaK,zaG,zaD,rtP,rgP,Bool.cond_true_left,Bool.cond_false_right,Bool.cond_true_right,Bool.cond_false_left,Bool.or_eq_false_iff,zaV,zaG,zaW,zaP,zaK,Bool.not_eq_true',Bool.not_eq_false',Bool.not_not,Int.not_lt,Int.not_le,gt_iff_lt,ge_iff_le];simp<;>omega
 rw[e];simp only[h,bI,aS,pk3,pk4,zaC,zaB,decide_not];generalize (cond (decide (d=0)) true (cond (decide (d>0)) (decide (d<=15)) false))=D;generalize (cond (decide (x=0)) true (cond (decide (x>0)) (decide (x<=15)) false))=X;generalize (cond (decide (y=0)) true (cond (decide (y>0)) (decide (y<=15)) false))=Y;generalize (cond (cond (decide (op=22)) true (decide (op=23))) true (decide (op=24)))=O;by_cases hm:m=0
 ·subst hm;cases D<;>cases X<;>cases Y<;>cases O<;>rfl
 ·rw[decide_eq_false hm];generalize (cond (decide (m>=0)) (decide (m<=31)) false)=M1;generalize (cond (decide (m >= -8192)) (decide (m<=8191)) false)=M2;cases D<;>cases X<;>cases Y<;>cases O<;>rfl
theorem bFD (op d x y m:Int) (h:fmI op=2):Pure zPr 36 (cons [.agg 5 [.int .i64 op,.int .i64 d,.int .i64 x,.int .i64 y,.int .i64 m]]) (con (.bool (rtB op d x y m))):=by
 refine gQ (u:=80) (k:=20) mix (aCU 2) ?_;rw[a5M];have e:rtB op d x y m=((cond (decide (d=0)) true (cond (decide (d>0)) (decide (d<=15)) false))&&((cond (decide (x=0)) true (cond (decide (x>0)) (decide (x<=15)) false))&&(decide (y=0)&&(cond (cond (cond (decide (op=22)) true (decide (op=23))) true (decide (op=24))) (cond (decide (m>=0)) (decide (m<=31)) false) (cond (decide (m >= -8192)) (decide (m<=8191)) false))))):=by
  unfold rtB;rw[h,Bool.eq_iff_iff];by_cases ho:(op=22\/op=23\/op=24)
  ·have ho2:(cond (cond (decide (op=22)) true (decide (op=23))) true (decide (op=24)))=true:=by rcases ho with h|h|h<;>simp[h]
   try rw[ho2]
   simp only[zaK,zaG,zaB,rtP,rgP,Bool.cond_true_left,Bool.cond_false_right,Bool.cond_true_right,Bool.cond_false_left,Bool.or_eq_false_iff,zaV,zaG,zaW,zaP,zaK,Bool.not_eq_true',Bool.not_eq_false',Bool.not_not,Int.not_lt,Int.not_le,gt_iff_lt,ge_iff_le];simp<;>omega
  ·have ho2:(cond (cond (decide (op=22)) true (decide (op=23))) true (decide (op=24)))=false:=by simp only[not_or]at ho;simp[ho]
   try rw[ho2]
   simp only[zaK,zaG,zaD,rtP,rgP,Bool.cond_true_left,Bool.cond_false_right,Bool.cond_true_right,Bool.cond_false_left,Bool.or_eq_false_iff,zaV,zaG,zaW,zaP,zaK,Bool.not_eq_true',Bool.not_eq_false',Bool.not_not,Int.not_lt,Int.not_le,gt_iff_lt,ge_iff_le];simp<;>omega
 rw[e];simp only[h,bI,aS,pk3,pk4,zaC,zaB,decide_not];generalize (cond (decide (d=0)) true (cond (decide (d>0)) (decide (d<=15)) false))=D;generalize (cond (decide (x=0)) true (cond (decide (x>0)) (decide (x<=15)) false))=X;generalize decide (y=0)=Y;generalize (cond (cond (decide (op=22)) true (decide (op=23))) true (decide (op=24)))=O;generalize (cond (decide (m>=0)) (decide (m<=31)) false)=M1;generalize (cond (decide (m >= -8192)) (decide (m<=8191)) false)=M2;cases D<;>cases X<;>cases Y<;>cases O<;>cases M1<;>cases M2<;>rfl
theorem bFE (op d x y m:Int) (h:fmI op=3):Pure zPr 36 (cons [.agg 5 [.int .i64 op,.int .i64 d,.int .i64 x,.int .i64 y,.int .i64 m]]) (con (.bool (rtB op d x y m))):=by
 refine gQ (u:=80) (k:=20) mix (aCU 3) ?_;rw[a5N];have e:rtB op d x y m=((cond (decide (d=0)) true (cond (decide (d>0)) (decide (d<=15)) false))&&(decide (x=0)&&(decide (y=0)&&(cond (cond (cond (decide (op=22)) true (decide (op=23))) true (decide (op=24))) (cond (decide (m>=0)) (decide (m<=31)) false) (cond (decide (m >= -8192)) (decide (m<=8191)) false))))):=by
  unfold rtB;rw[h,Bool.eq_iff_iff];by_cases ho:(op=22\/op=23\/op=24)
  ·have ho2:(cond (cond (decide (op=22)) true (decide (op=23))) true (decide (op=24)))=true:=by rcases ho with h|h|h<;>simp[h]
   try rw[ho2]
   simp only[zaK,zaG,zaB,rtP,rgP,Bool.cond_true_left,Bool.cond_false_right,Bool.cond_true_right,Bool.cond_false_left,Bool.or_eq_false_iff,zaV,zaG,zaW,zaP,zaK,Bool.not_eq_true',Bool.not_eq_false',Bool.not_not,Int.not_lt,Int.not_le,gt_iff_lt,ge_iff_le];simp<;>omega
  ·have ho2:(cond (cond (decide (op=22)) true (decide (op=23))) true (decide (op=24)))=false:=by simp only[not_or]at ho;simp[ho]
   try rw[ho2]
   simp only[zaK,zaG,zaD,rtP,rgP,Bool.cond_true_left,Bool.cond_false_right,Bool.cond_true_right,Bool.cond_false_left,Bool.or_eq_false_iff,zaV,zaG,zaW,zaP,zaK,Bool.not_eq_true',Bool.not_eq_false',Bool.not_not,Int.not_lt,Int.not_le,gt_iff_lt,ge_iff_le];simp<;>omega
 rw[e];simp only[h,bI,aS,pk3,pk4,zaC,zaB,decide_not];generalize (cond (decide (d=0)) true (cond (decide (d>0)) (decide (d<=15)) false))=D;generalize decide (x=0)=X;generalize decide (y=0)=Y;generalize (cond (cond (decide (op=22)) true (decide (op=23))) true (decide (op=24)))=O;generalize (cond (decide (m>=0)) (decide (m<=31)) false)=M1;generalize (cond (decide (m >= -8192)) (decide (m<=8191)) false)=M2;cases D<;>cases X<;>cases Y<;>cases O<;>cases M1<;>cases M2<;>rfl
theorem bFF (op d x y m:Int) (h:fmI op=4):Pure zPr 36 (cons [.agg 5 [.int .i64 op,.int .i64 d,.int .i64 x,.int .i64 y,.int .i64 m]]) (con (.bool (rtB op d x y m))):=by
 refine gQ (u:=80) (k:=20) mix (aCU 4) ?_;rw[a5O];have e:rtB op d x y m=((cond (decide (d=0)) true (cond (decide (d>0)) (decide (d<=15)) false))&&((cond (decide (x=0)) true (cond (decide (x>0)) (decide (x<=15)) false))&&(decide (y=0)&&(cond (cond (cond (decide (op=22)) true (decide (op=23))) true (decide (op=24))) (cond (decide (m>=0)) (decide (m<=31)) false) (cond (decide (m >= -8192)) (decide (m<=8191)) false))))):=by
  unfold rtB;rw[h,Bool.eq_iff_iff];by_cases ho:(op=22\/op=23\/op=24)
  ·have ho2:(cond (cond (decide (op=22)) true (decide (op=23))) true (decide (op=24)))=true:=by rcases ho with h|h|h<;>simp[h]
   try rw[ho2]
   simp only[zaK,zaG,zaB,rtP,rgP,Bool.cond_true_left,Bool.cond_false_right,Bool.cond_true_right,Bool.cond_false_left,Bool.or_eq_false_iff,zaV,zaG,zaW,zaP,zaK,Bool.not_eq_true',Bool.not_eq_false',Bool.not_not,Int.not_lt,Int.not_le,gt_iff_lt,ge_iff_le];simp<;>omega
  ·have ho2:(cond (cond (decide (op=22)) true (decide (op=23))) true (decide (op=24)))=false:=by simp only[not_or]at ho;simp[ho]
   try rw[ho2]
   simp only[zaK,zaG,zaD,rtP,rgP,Bool.cond_true_left,Bool.cond_false_right,Bool.cond_true_right,Bool.cond_false_left,Bool.or_eq_false_iff,zaV,zaG,zaW,zaP,zaK,Bool.not_eq_true',Bool.not_eq_false',Bool.not_not,Int.not_lt,Int.not_le,gt_iff_lt,ge_iff_le];simp<;>omega
 rw[e];simp only[h,bI,aS,pk3,pk4,zaC,zaB,decide_not];generalize (cond (decide (d=0)) true (cond (decide (d>0)) (decide (d<=15)) false))=D;generalize (cond (decide (x=0)) true (cond (decide (x>0)) (decide (x<=15)) false))=X;generalize decide (y=0)=Y;generalize (cond (cond (decide (op=22)) true (decide (op=23))) true (decide (op=24)))=O;generalize (cond (decide (m>=0)) (decide (m<=31)) false)=M1;generalize (cond (decide (m >= -8192)) (decide (m<=8191)) false)=M2;cases D<;>cases X<;>cases Y<;>cases O<;>cases M1<;>cases M2<;>rfl
theorem bFG (op d x y m:Int) (h:fmI op=5):Pure zPr 36 (cons [.agg 5 [.int .i64 op,.int .i64 d,.int .i64 x,.int .i64 y,.int .i64 m]]) (con (.bool (rtB op d x y m))):=by
 refine gQ (u:=80) (k:=20) mix (aCU 5) ?_;rw[a5P];have e:rtB op d x y m=(decide (d=0)&&((cond (decide (x=0)) true (cond (decide (x>0)) (decide (x<=15)) false))&&((cond (decide (y=0)) true (cond (decide (y>0)) (decide (y<=15)) false))&&(cond (cond (cond (decide (op=22)) true (decide (op=23))) true (decide (op=24))) (cond (decide (m>=0)) (decide (m<=31)) false) (cond (decide (m >= -8192)) (decide (m<=8191)) false))))):=by
  unfold rtB;rw[h,Bool.eq_iff_iff];by_cases ho:(op=22\/op=23\/op=24)
  ·have ho2:(cond (cond (decide (op=22)) true (decide (op=23))) true (decide (op=24)))=true:=by rcases ho with h|h|h<;>simp[h]
   try rw[ho2]
   simp only[zaK,zaG,zaB,rtP,rgP,Bool.cond_true_left,Bool.cond_false_right,Bool.cond_true_right,Bool.cond_false_left,Bool.or_eq_false_iff,zaV,zaG,zaW,zaP,zaK,Bool.not_eq_true',Bool.not_eq_false',Bool.not_not,Int.not_lt,Int.not_le,gt_iff_lt,ge_iff_le];simp<;>omega
  ·have ho2:(cond (cond (decide (op=22)) true (decide (op=23))) true (decide (op=24)))=false:=by simp only[not_or]at ho;simp[ho]
   try rw[ho2]
   simp only[zaK,zaG,zaD,rtP,rgP,Bool.cond_true_left,Bool.cond_false_right,Bool.cond_true_right,Bool.cond_false_left,Bool.or_eq_false_iff,zaV,zaG,zaW,zaP,zaK,Bool.not_eq_true',Bool.not_eq_false',Bool.not_not,Int.not_lt,Int.not_le,gt_iff_lt,ge_iff_le];simp<;>omega
 rw[e];simp only[h,bI,aS,pk3,pk4,zaC,zaB,decide_not];generalize decide (d=0)=D;generalize (cond (decide (x=0)) true (cond (decide (x>0)) (decide (x<=15)) false))=X;generalize (cond (decide (y=0)) true (cond (decide (y>0)) (decide (y<=15)) false))=Y;generalize (cond (cond (decide (op=22)) true (decide (op=23))) true (decide (op=24)))=O;generalize (cond (decide (m>=0)) (decide (m<=31)) false)=M1;generalize (cond (decide (m >= -8192)) (decide (m<=8191)) false)=M2;cases D<;>cases X<;>cases Y<;>cases O<;>cases M1<;>cases M2<;>rfl
theorem bFH (op d x y m:Int) (h:fmI op=6):Pure zPr 36 (cons [.agg 5 [.int .i64 op,.int .i64 d,.int .i64 x,.int .i64 y,.int .i64 m]]) (con (.bool (rtB op d x y m))):=by
 refine gQ (u:=80) (k:=20) mix (aCU 6) ?_;rw[a5Q];have e:rtB op d x y m=(decide (d=0)&&((cond (decide (x=0)) true (cond (decide (x>0)) (decide (x<=15)) false))&&((cond (decide (y=0)) true (cond (decide (y>0)) (decide (y<=15)) false))&&(cond (cond (cond (decide (op=22)) true (decide (op=23))) true (decide (op=24))) (cond (decide (m>=0)) (decide (m<=31)) false) (cond (decide (m >= -8192)) (decide (m<=8191)) false))))):=by
  unfold rtB;rw[h,Bool.eq_iff_iff];by_cases ho:(op=22\/op=23\/op=24)
  ·have ho2:(cond (cond (decide (op=22)) true (decide (op=23))) true (decide (op=24)))=true:=by rcases ho with h|h|h<;>simp[h]
   try rw[ho2]
   simp only[zaK,zaG,zaB,rtP,rgP,Bool.cond_true_left,Bool.cond_false_right,Bool.cond_true_right,Bool.cond_false_left,Bool.or_eq_false_iff,zaV,zaG,zaW,zaP,zaK,Bool.not_eq_true',Bool.not_eq_false',Bool.not_not,Int.not_lt,Int.not_le,gt_iff_lt,ge_iff_le];simp<;>omega
  ·have ho2:(cond (cond (decide (op=22)) true (decide (op=23))) true (decide (op=24)))=false:=by simp only[not_or]at ho;simp[ho]
   try rw[ho2]
   simp only[zaK,zaG,zaD,rtP,rgP,Bool.cond_true_left,Bool.cond_false_right,Bool.cond_true_right,Bool.cond_false_left,Bool.or_eq_false_iff,zaV,zaG,zaW,zaP,zaK,Bool.not_eq_true',Bool.not_eq_false',Bool.not_not,Int.not_lt,Int.not_le,gt_iff_lt,ge_iff_le];simp<;>omega
 rw[e];simp only[h,bI,aS,pk3,pk4,zaC,zaB,decide_not];generalize decide (d=0)=D;generalize (cond (decide (x=0)) true (cond (decide (x>0)) (decide (x<=15)) false))=X;generalize (cond (decide (y=0)) true (cond (decide (y>0)) (decide (y<=15)) false))=Y;generalize (cond (cond (decide (op=22)) true (decide (op=23))) true (decide (op=24)))=O;generalize (cond (decide (m>=0)) (decide (m<=31)) false)=M1;generalize (cond (decide (m >= -8192)) (decide (m<=8191)) false)=M2;cases D<;>cases X<;>cases Y<;>cases O<;>cases M1<;>cases M2<;>rfl
theorem bFI (op d x y m:Int) (h:fmI op=7):Pure zPr 36 (cons [.agg 5 [.int .i64 op,.int .i64 d,.int .i64 x,.int .i64 y,.int .i64 m]]) (con (.bool (rtB op d x y m))):=by
 refine gQ (u:=80) (k:=20) mix (aCU 7) ?_;rw[a5R];have e:rtB op d x y m=(decide (d=0)&&(decide (x=0)&&(decide (y=0)&&(cond (cond (cond (decide (op=22)) true (decide (op=23))) true (decide (op=24))) (cond (decide (m>=0)) (decide (m<=31)) false) (cond (decide (m >= -8192)) (decide (m<=8191)) false))))):=by
  unfold rtB;rw[h,Bool.eq_iff_iff];by_cases ho:(op=22\/op=23\/op=24)
  ·have ho2:(cond (cond (decide (op=22)) true (decide (op=23))) true (decide (op=24)))=true:=by rcases ho with h|h|h<;>simp[h]
   try rw[ho2]
   simp only[zaK,zaG,zaB,rtP,rgP,Bool.cond_true_left,Bool.cond_false_right,Bool.cond_true_right,Bool.cond_false_left,Bool.or_eq_false_iff,zaV,zaG,zaW,zaP,zaK,Bool.not_eq_true',Bool.not_eq_false',Bool.not_not,Int.not_lt,Int.not_le,gt_iff_lt,ge_iff_le];simp<;>omega
  ·have ho2:(cond (cond (decide (op=22)) true (decide (op=23))) true (decide (op=24)))=false:=by simp only[not_or]at ho;simp[ho]
   try rw[ho2]
   simp only[zaK,zaG,zaD,rtP,rgP,Bool.cond_true_left,Bool.cond_false_right,Bool.cond_true_right,Bool.cond_false_left,Bool.or_eq_false_iff,zaV,zaG,zaW,zaP,zaK,Bool.not_eq_true',Bool.not_eq_false',Bool.not_not,Int.not_lt,Int.not_le,gt_iff_lt,ge_iff_le];simp<;>omega
 rw[e];simp only[h,bI,aS,pk3,pk4,zaC,zaB,decide_not];generalize decide (d=0)=D;generalize decide (x=0)=X;generalize decide (y=0)=Y;generalize (cond (cond (decide (op=22)) true (decide (op=23))) true (decide (op=24)))=O;generalize (cond (decide (m>=0)) (decide (m<=31)) false)=M1;generalize (cond (decide (m >= -8192)) (decide (m<=8191)) false)=M2;cases D<;>cases X<;>cases Y<;>cases O<;>cases M1<;>cases M2<;>rfl
theorem bFJ (op d x y m:Int) (h:fmI op=8):Pure zPr 36 (cons [.agg 5 [.int .i64 op,.int .i64 d,.int .i64 x,.int .i64 y,.int .i64 m]]) (con (.bool (rtB op d x y m))):=by
 refine gQ (u:=80) (k:=20) mix (aCU 8) ?_;rw[a5S];have e:rtB op d x y m=(decide (d=0)&&(decide (x=0)&&(decide (y=0)&&decide (m=0)))):=by
  unfold rtB;rw[h,Bool.eq_iff_iff];by_cases ho:(op=22\/op=23\/op=24)
  ·have ho2:(cond (cond (decide (op=22)) true (decide (op=23))) true (decide (op=24)))=true:=by rcases ho with h|h|h<;>simp[h]
   try rw[ho2]
   simp only[zaK,zaG,zaB,rtP,rgP,Bool.cond_true_left,Bool.cond_false_right,Bool.cond_true_right,Bool.cond_false_left,Bool.or_eq_false_iff,zaV,zaG,zaW,zaP,zaK,Bool.not_eq_true',Bool.not_eq_false',Bool.not_not,Int.not_lt,Int.not_le,gt_iff_lt,ge_iff_le];simp<;>omega
  ·have ho2:(cond (cond (decide (op=22)) true (decide (op=23))) true (decide (op=24)))=false:=by simp only[not_or]at ho;simp[ho]
   try rw[ho2]
   simp only[zaK,zaG,zaD,rtP,rgP,Bool.cond_true_left,Bool.cond_false_right,Bool.cond_true_right,Bool.cond_false_left,Bool.or_eq_false_iff,zaV,zaG,zaW,zaP,zaK,Bool.not_eq_true',Bool.not_eq_false',Bool.not_not,Int.not_lt,Int.not_le,gt_iff_lt,ge_iff_le];simp<;>omega
 rw[e];simp only[h,bI,aS,pk3,pk4,zaC,zaB,decide_not];generalize decide (d=0)=D;generalize decide (x=0)=X;generalize decide (y=0)=Y;generalize (cond (cond (decide (op=22)) true (decide (op=23))) true (decide (op=24)))=O;by_cases hm:m=0
 ·subst hm;cases D<;>cases X<;>cases Y<;>cases O<;>rfl
 ·rw[decide_eq_false hm];generalize (cond (decide (m>=0)) (decide (m<=31)) false)=M1;generalize (cond (decide (m >= -8192)) (decide (m<=8191)) false)=M2;cases D<;>cases X<;>cases Y<;>cases O<;>rfl
def i32 (a:Int):Int:=IntKind.i32.wrap a
def a0M:List XV->Option (List Bool×XV)
 |[.int .u32 w]=>some ([decide (0<=w),decide (w<=4294967295)],.int .i64 (i32 w))
 |_=>none
def alW (p a b:Int):Int :=
 if p=1 then(a+b)%4294967296
 else if p=2 then(a-b)%4294967296
 else if p=3 then eR .and .u32 a b
 else if p=4 then eR .or .u32 a b
 else if p=5 then eR .xor .u32 a b
 else if p=6 then(a*2^(b%32).toNat)%4294967296
 else if p=7 then a/2^(b%32).toNat
 else if p=8 then(i32 a/2^(b%32).toNat)%4294967296
 else if p=9 then aPE (decide (i32 a<i32 b))
 else if p=10 then aPE (decide (a<b))
 else if p=11 then(a*b)%4294967296
 else if p=12 then((i32 a*i32 b)/4294967296)%4294967296
 else if b=0 then 0
 else if p=13 then(Int.tdiv (i32 a) (i32 b))%4294967296
 else if p=14 then a/b
 else if p=15 then(Int.tmod (i32 a) (i32 b))%4294967296
 else a%b
def plI (op:Int):Int:=if op=17 then 1 else if op=18 then 3 else if op=19 then 4 else if op=20 then 5 else if op=21 then 9 else if op=22 then 6 else if op=23 then 7 else if op=24 then 8 else op
def doI (op d x y m a b:Int):Int:=if rtB op d x y m=false\/fmI op>3 then 0 else if op=25 then(m*262144)%4294967296 else if fmI op=2 then alW (plI op) a (m%4294967296)else alW op a b
def dkB (op d x y m b:Int):Bool:=if rtB op d x y m=false\/fmI op>3 then true else !decide (13<=op/\op<=16/\b=0)
def a0N:List XV->Option (List Bool×XV)
 |[.agg 5 [.int .i64 op,.int .i64 d,.int .i64 x,.int .i64 y,.int .i64 m],.int .u32 a,.int .u32 b]=>some ([decide (0<=a),decide (a<=4294967295),decide (0<=b),decide (b<=4294967295)],.tup [.int .u32 (doI op d x y m a b),.bool (dkB op d x y m b)])
 |_=>none
def TU2 (f:Int):Tab:=mkT qq fX [(41,aTZ f),(36,aFD),(93,a0J),(92,a0M)] []
theorem bFK (a:Int) (K:XV->Prop):(aO TU0 80 (bL TU0 80 20) 92 [.int .u32 a] K)=(cond (decide (IntKind.wrap .i64 a>=2147483648)) (K (.int .i64 (IntKind.wrap .i64 (IntKind.wrap .i64 a-4294967296)))) (K (.int .i64 (IntKind.wrap .i64 a)))):=by kernel_rfl
theorem aT0 (a:Int) : -2147483648<=IntKind.i32.wrap a/\IntKind.i32.wrap a<=2147483647:=by rw[aYW];omega
theorem a5U {x y:Int} (hx : -2147483648<=x/\x<=2147483647) (hy : -2147483648<=y/\y<=2147483647) : -4611686018427387904<=x*y/\x*y<=4611686018427387904:=by
 have h1:x.natAbs<=2147483648:=by omega
 have h2:y.natAbs<=2147483648:=by omega
 have h3:(x*y).natAbs<=2147483648*2147483648:=by rw[Int.natAbs_mul];exact Nat.mul_le_mul h1 h2
 omega
theorem aRP (n:Int):IntKind.u32.wrap (IntKind.i64.wrap n)=n%4294967296:=by rw[a3Y,wA];omega
theorem bBF (n:Int):IntKind.u32.wrap (IntKind.i32.wrap n)=n%4294967296:=by rw[aYW,wA];omega
theorem aT1 (a:Int):IntKind.i32.wrap a%4294967296=a%4294967296:=by rw[aYW];omega
theorem mul_mod (a b:Int):(IntKind.i32.wrap a*IntKind.i32.wrap b)%4294967296=(a*b)%4294967296:=by rw[Int.mul_emod,aT1,aT1,<-Int.mul_emod]
theorem a0O (a b:Int):IntKind.i64.wrap (IntKind.i32.wrap a*IntKind.i32.wrap b)=IntKind.i32.wrap a*IntKind.i32.wrap b:=by have:=a5U (aT0 a) (aT0 b);exact wrap_i64 (by omega) (by omega)
theorem a75 {b:Int} (h2:0<=b) (h3:b<=4294967295):eR .and .u32 b 31=b%32:=by obtain⟨B,rfl⟩:=Int.eq_ofNat_of_zero_le h2;have e:=bE8 (A:=B) (B:=31) (by omega) (by omega);have h:B &&& 31=B%32:=Nat.and_two_pow_sub_one_eq_mod B 5;rw[h]at e;exact e
theorem shA {b:Int} (h2:0<=b) (h3:b<=4294967295):Nat.min (Int.toNat (eR .and .u32 b 31)) 32=(b%32).toNat:=by rw[a75 h2 h3];exact Nat.min_eq_left (by omega)
theorem shB {b:Int} (h2:0<=b) (h3:b<=4294967295):Nat.min (Int.toNat (eR .and .u32 b 31)) 64=(b%32).toNat:=by rw[a75 h2 h3];exact Nat.min_eq_left (by omega)
theorem a76 (a:Int) (k:Nat):Int.fdiv a (2^k)=a/2^k:=Int.fdiv_eq_ediv_of_nonneg a (Int.pow_nonneg (by omega))
theorem a77 (a:Int):Int.fdiv a 4294967296=a/4294967296:=Int.fdiv_eq_ediv_of_nonneg a (by omega)
theorem bFL {b:Int} (h2:0<=b) (h3:b<=4294967295):IntKind.i32.wrap b=0↔b=0:=by rw[aYW];omega
theorem aPF {a b:Int} (h0:0<=a) (h1:a<=4294967295) (h2:0<=b):0<=a/b/\a/b<=4294967295:=by have:=Int.ediv_le_self b h0;have:=Int.ediv_nonneg h0 h2;omega
theorem a0P {a b:Int} (h0:0<=a) (h1:a<=4294967295) (h2:0<b) (h3:b<=4294967295):0<=a%b/\a%b<=4294967295:=by have:=Int.emod_lt_of_pos a h2;have:=Int.emod_nonneg a (show b≠0 by omega);omega
theorem a5V {a:Int} (h0:0<=a) (h1:a<=4294967295):Pure zPr 92 (cons [.int .u32 a]) (con (.int .i64 (i32 a))):=by
 refine gQ (u:=80) (k:=20) mix a0K ?_;rw[bFK];have e1:IntKind.i64.wrap a=a:=wrap_i64 (by omega) (by omega);have e2:IntKind.i64.wrap (a-4294967296)=a-4294967296:=wrap_i64 (by omega) (by omega);rw[e1,e2];unfold i32;rw[aYW];by_cases h:a>=2147483648
 ·rw[decide_eq_true h];exact aHC (by omega)
 ·rw[decide_eq_false h];exact aHC (by omega)
theorem bBG:rD zPr (92,a0M):=fun args nd v h hn=>by
 simp only[a0M]at h;split at h
 ·simp only[zaA,zaJ]at h;obtain⟨rfl,rfl⟩:=h;simp only[bH,zaK]at hn;exact a5V hn.1 hn.2.1
 ·cases h
theorem bBH (op d x y m:Int):Pure zPr 36 (cons [.agg 5 [.int .i64 op,.int .i64 d,.int .i64 x,.int .i64 y,.int .i64 m]]) (con (.bool (rtB op d x y m))):=by
 rcases a74 op with h|h|h|h|h|h|h|h|h
 ·exact bFB op d x y m h
 ·exact bFC op d x y m h
 ·exact bFD op d x y m h
 ·exact bFE op d x y m h
 ·exact bFF op d x y m h
 ·exact bFG op d x y m h
 ·exact bFH op d x y m h
 ·exact bFI op d x y m h
 ·exact bFJ op d x y m h
theorem aWH:rD zPr (36,aFD):=fun args nd v h hn=>by
 simp only[aFD]at h;split at h
 ·simp only[zaA,zaJ]at h;obtain⟨rfl,rfl⟩:=h;exact bBH _ _ _ _ _
 ·cases h
theorem z9 (f:Int):bT zPr (TU2 f):=sH dY ⟨aKG f,aWH,a5T,bBG,trivial⟩ trivial
theorem fm1 {op:Int} (h:fmI op=1):1<=op/\op<=16:=by unfold fmI at h;repeat' split at h;all_goals omega
theorem fm2 {op:Int} (h:fmI op=2):17<=op/\op<=24:=by unfold fmI at h;repeat' split at h;all_goals omega
theorem fm3 {op:Int} (h:fmI op=3):op=25:=by unfold fmI at h;repeat' split at h;all_goals omega
theorem a78 {op d x y m a b:Int} (h:rtB op d x y m=false\/fmI op>3):doI op d x y m a b=0:=by unfold doI;rw[if_pos h]
theorem a79 {op d x y m b:Int} (h:rtB op d x y m=false\/fmI op>3):dkB op d x y m b=true:=by unfold dkB;rw[if_pos h]
def oT (op m a b:Int) (K:XV->Prop):Prop :=
 let k:Int->Prop:=fun v=>K (.tup [.int .u32 v,.bool true])
 let w:Int->Prop:=fun v=>k (IntKind.wrap .u32 v)
 let s:Nat->Int:=fun n=>(2:Int)^Nat.min (Int.toNat (eR .and .u32 b (31:Int))) n
 let p:Int:=IntKind.wrap .i64 (i32 a*i32 b)
 cond (decide (op=1)) (w (a+b)) (cond (decide (op=2)) (w (a-b)) (cond (decide (op=3)) (k (eR .and .u32 a b)) (cond (decide (op=4)) (k (eR .or .u32 a b)) (cond (decide (op=5)) (k (eR .xor .u32 a b)) (cond (decide (op=6)) (w (a*s 32)) (cond (decide (op=7)) (k (Int.fdiv a (s 32))) (cond (decide (op=8)) (w (Int.fdiv (i32 a) (s 64))) (cond (decide (op=9)) (k (aPE (decide (i32 a<i32 b)))) (cond (decide (op=10)) (k (aPE (decide (a<b)))) (cond (decide (op=11)) (w p) (cond (decide (op=12)) (w (Int.fdiv p (4294967296:Int))) (cond (decide (op=25)) (w (IntKind.wrap .u32 m*(262144:Int))) (cond (decide (b=0)) (K (.tup [.int .u32 0,.bool false])) (cond (!decide (i32 b=0)) (cond (!decide (i32 b=0)) (cond (decide (op=13)) (w (IntKind.wrap .i64 (Int.tdiv (i32 a) (i32 b)))) (cond (decide (op=15)) (w (Int.tmod (i32 a) (i32 b))) (cond (decide (op=14)) (cond (!decide (b=0)) (w (Int.tdiv a b)) False) (cond (!decide (b=0)) (k (Int.tmod a b)) False)))) False) False))))))))))))))
def gD (r p q:Bool) (X Y:Prop):Prop:=cond (cond (!r) true (!!r)) (cond (cond (cond (!r) true p) true (!cond (!r) true p)) (cond (cond (cond (!r) true p) true q) X Y) False) False
theorem bFM (p q:Bool) (X Y:Prop):gD false p q X Y=X:=by cases p<;>cases q<;>rfl
theorem bFN (X Y:Prop):gD true false false X Y=Y:=rfl
theorem bH8 (X Y:Prop):gD true false true X Y=X:=rfl
def g4 (a b:Int) (X:Prop):Prop:=cond (decide (0<=a)) (cond (decide (a<=4294967295)) (cond (decide (0<=b)) (cond (decide (b<=4294967295)) X False) False) False) False
theorem bFO {a b:Int} (h0:0<=a) (h1:a<=4294967295) (h2:0<=b) (h3:b<=4294967295) (X:Prop):g4 a b X=X:=by unfold g4;rw[decide_eq_true h0,decide_eq_true h1,decide_eq_true h2,decide_eq_true h3];rfl
def lD (f op d x y m a b:Int) (K:XV->Prop):Prop:=aO (TU2 f) 80 (bL (TU2 f) 80 20) 44 [.agg 5 [.int .i64 op,.int .i64 d,.int .i64 x,.int .i64 y,.int .i64 m],.int .u32 a,.int .u32 b] K
def fD (f op d x y m a b:Int) (p q:Bool) (K:XV->Prop):Prop:=cond (decide (fmI op=f)) (gD (rtB op d x y m) p q (K (.tup [.int .u32 0,.bool true])) (g4 a b (oT op m a b K))) False
def f2 (op p d x y m a:Int) (K:XV->Prop):Prop:=gD (rtB op d x y m) false false (K (.tup [.int .u32 0,.bool true])) (g4 a (IntKind.wrap .u32 m) (oT p m a (IntKind.wrap .u32 m) K))
theorem bFP (op d x y m a b:Int) (K:XV->Prop):lD 0 op d x y m a b K=(fD 0 op d x y m a b true false K):=by kernel_rfl
theorem bFQ (op d x y m a b:Int) (K:XV->Prop):lD 1 op d x y m a b K=(fD 1 op d x y m a b false false K):=by kernel_rfl
theorem a5W (d x y m a b:Int) (K:XV->Prop):lD 2 17 d x y m a b K=(f2 17 1 d x y m a K):=by kernel_rfl
theorem a5X (d x y m a b:Int) (K:XV->Prop):lD 2 18 d x y m a b K=(f2 18 3 d x y m a K):=by kernel_rfl
theorem a5Y (d x y m a b:Int) (K:XV->Prop):lD 2 19 d x y m a b K=(f2 19 4 d x y m a K):=by kernel_rfl
theorem a5Z (d x y m a b:Int) (K:XV->Prop):lD 2 20 d x y m a b K=(f2 20 5 d x y m a K):=by kernel_rfl
theorem a50 (d x y m a b:Int) (K:XV->Prop):lD 2 21 d x y m a b K=(f2 21 9 d x y m a K):=by kernel_rfl
theorem a51 (d x y m a b:Int) (K:XV->Prop):lD 2 22 d x y m a b K=(f2 22 6 d x y m a K):=by kernel_rfl
theorem a52 (d x y m a b:Int) (K:XV->Prop):lD 2 23 d x y m a b K=(f2 23 7 d x y m a K):=by kernel_rfl
theorem a53 (d x y m a b:Int) (K:XV->Prop):lD 2 24 d x y m a b K=(f2 24 8 d x y m a K):=by kernel_rfl
theorem bFR (op d x y m a b:Int) (K:XV->Prop):lD 3 op d x y m a b K=(fD 3 op d x y m a b false false K):=by kernel_rfl
theorem bFS (op d x y m a b:Int) (K:XV->Prop):lD 4 op d x y m a b K=(fD 4 op d x y m a b false true K):=by kernel_rfl
theorem bFT (op d x y m a b:Int) (K:XV->Prop):lD 5 op d x y m a b K=(fD 5 op d x y m a b false true K):=by kernel_rfl
theorem bFU (op d x y m a b:Int) (K:XV->Prop):lD 6 op d x y m a b K=(fD 6 op d x y m a b false true K):=by kernel_rfl
theorem bFV (op d x y m a b:Int) (K:XV->Prop):lD 7 op d x y m a b K=(fD 7 op d x y m a b false true K):=by kernel_rfl
theorem bFW (op d x y m a b:Int) (K:XV->Prop):lD 8 op d x y m a b K=(fD 8 op d x y m a b false true K):=by kernel_rfl
theorem bBI {op d x y m b:Int} (hr:rtB op d x y m=true) (hf:fmI op<=3) (h:op<=12\/17<=op):dkB op d x y m b=true:=by unfold dkB;rw[hr,if_neg (by simp;omega)];simp;omega
theorem bH9 {op d x y m b:Int} (hr:rtB op d x y m=true) (hf:fmI op<=3) (h:13<=op/\op<=16):dkB op d x y m b = !decide (b=0):=by unfold dkB;rw[hr,if_neg (by simp;omega)];simp[h.1,h.2]
theorem bIA {op d x y m a b:Int} (h0:0<=a) (h1:a<=4294967295) (h2:0<=b) (h3:b<=4294967295):Pure zPr 44 (cons [.agg 5 [.int .i64 op,.int .i64 d,.int .i64 x,.int .i64 y,.int .i64 m],.int .u32 a,.int .u32 b]) (con (.tup [.int .u32 (doI op d x y m a b),.bool (dkB op d x y m b)])):=by
 have m0:0<=IntKind.u32.wrap m:=by rw[wA];omega
 have m1:IntKind.u32.wrap m<=4294967295:=by rw[wA];omega
 have no:∀ f p q,fmI op=f->(rtB op d x y m=false\/(q=true/\p=false/\f>3))->∀ K:XV->Prop,K (.tup [.int .u32 (doI op d x y m a b),.bool (dkB op d x y m b)])->fD f op d x y m a b p q K:=fun f p q h hr K hK=>by
  have hn:rtB op d x y m=false\/fmI op>3:=hr.imp id fun g=>by omega
  rw[a78 hn,a79 hn]at hK;unfold fD;rw[decide_eq_true h,zaB];cases hr':rtB op d x y m with
  |false=>rw[bFM];exact hK
  |true =>
   rcases hr with hr|⟨rfl,rfl,_⟩
   ·rw[hr']at hr;cases hr
   ·rw[bH8];exact hK
 have yes:∀ f,fmI op=f->rtB op d x y m=true->∀ K:XV->Prop,oT op m a b K->fD f op d x y m a b false false K:=fun f h hr K hK=>by unfold fD;rw[decide_eq_true h,hr,zaB,bFN,bFO h0 h1 h2 h3];exact hK
 rcases a74 op with h|h|h|h|h|h|h|h|h
 ·refine gQ (u:=80) (k:=20) mix (z9 0) (Eq.mpr (bFP op d x y m a b _) (no _ _ _ h (.inl ?_) _ rfl));unfold rtB rtP;rw[h];simp
 ·refine gQ (u:=80) (k:=20) mix (z9 1) (Eq.mpr (bFQ op d x y m a b _) ?_);cases hr:rtB op d x y m with
  |false=>exact no _ _ _ h (.inl hr) _ rfl
  |true =>
   refine yes _ h hr _ ?_;have e1:doI op d x y m a b=alW op a b:=by unfold doI;rw[hr,h,if_neg (by decide),if_neg (by have:=fm1 h;omega),if_neg (by decide)]
   have hc:=fm1 h;by_cases h12:op<=12
   ·rw[e1,bBI hr (by omega) (.inl h12)];have hc:op=1\/op=2\/op=3\/op=4\/op=5\/op=6\/op=7\/op=8\/op=9\/op=10\/op=11\/op=12:=by omega
    clear e1 hr h no yes h12;rcases hc with rfl|rfl|rfl|rfl|rfl|rfl|rfl|rfl|rfl|rfl|rfl|rfl
    all_goals
     simp only[oT,Int.reduceEq,zaC,zaE,zaB,zaD];refine aS9 (aHC ?_) rfl;simp only[alW,i32,shA h2 h3,shB h2 h3,a76,a77,aRP,a0O,mul_mod,if_true,if_false,Int.reduceEq]
     try rw[wA,mul_mod]
     try rfl
   ·rw[e1,bH9 hr (by omega) (by omega)];have hc:op=13\/op=14\/op=15\/op=16:=by omega
    clear e1 hr h no yes h12;by_cases hb:b=0
    ·subst hb;rcases hc with rfl|rfl|rfl|rfl<;>rfl
    have hi:¬IntKind.i32.wrap b=0:=fun h=>hb ((bFL h2 h3).1 h)
    have hi2:¬i32 b=0:=hi;rcases hc with rfl|rfl|rfl|rfl
    all_goals
     simp only[oT,hb,hi,hi2,Int.reduceEq,zaC,zaE,zaB,zaD,zaI,zaH];refine aS9 (aHC ?_) rfl;simp only[alW,i32,hb,if_false,if_true,bBF,aRP,Int.reduceEq]
     try rfl
    ·rw[Int.tdiv_eq_ediv_of_nonneg h0];have:=aPF (b:=b) h0 h1 h2;rw[wA];omega
    ·rw[Int.tmod_eq_emod_of_nonneg h0]
 ·have hc:=fm2 h;have key:∀ p,(fmI op=2->plI op=p)->∀ K:XV->Prop,(rtB op d x y m=true->doI op d x y m a b=alW p a (m%4294967296)->dkB op d x y m b=true->oT p m a (IntKind.u32.wrap m) K)->(rtB op d x y m=false->doI op d x y m a b=0->dkB op d x y m b=true->K (.tup [.int .u32 0,.bool true]))->f2 op p d x y m a K:=fun p hp K h5 h6=>by
   unfold f2;cases hr:rtB op d x y m with
   |false=>rw[bFM];exact h6 hr (a78 (.inl hr)) (a79 (.inl hr))
   |true => rw[bFN,bFO h0 h1 m0 m1];refine h5 hr ?_ (bBI hr (by omega) (.inr (by omega)));unfold doI;rw[hr,h,if_neg (by decide),if_neg (by omega),if_pos rfl,hp h]
  have ho:op=17\/op=18\/op=19\/op=20\/op=21\/op=22\/op=23\/op=24:=by omega
  refine gQ (u:=80) (k:=20) mix (z9 2) ?_;clear no yes hc;rcases ho with rfl|rfl|rfl|rfl|rfl|rfl|rfl|rfl
  refine Eq.mpr (a5W d x y m a b _) (key _ (fun _=>rfl) _ (fun _ e1 e2 => ?_) (fun _ e1 e2=>by rw[e1,e2]))
  rotate_left
  refine Eq.mpr (a5X d x y m a b _) (key _ (fun _=>rfl) _ (fun _ e1 e2 => ?_) (fun _ e1 e2=>by rw[e1,e2]))
  rotate_left
  refine Eq.mpr (a5Y d x y m a b _) (key _ (fun _=>rfl) _ (fun _ e1 e2 => ?_) (fun _ e1 e2=>by rw[e1,e2]))
  rotate_left
  refine Eq.mpr (a5Z d x y m a b _) (key _ (fun _=>rfl) _ (fun _ e1 e2 => ?_) (fun _ e1 e2=>by rw[e1,e2]))
  rotate_left
  refine Eq.mpr (a50 d x y m a b _) (key _ (fun _=>rfl) _ (fun _ e1 e2 => ?_) (fun _ e1 e2=>by rw[e1,e2]))
  rotate_left
  refine Eq.mpr (a51 d x y m a b _) (key _ (fun _=>rfl) _ (fun _ e1 e2 => ?_) (fun _ e1 e2=>by rw[e1,e2]))
  rotate_left
  refine Eq.mpr (a52 d x y m a b _) (key _ (fun _=>rfl) _ (fun _ e1 e2 => ?_) (fun _ e1 e2=>by rw[e1,e2]))
  rotate_left
  refine Eq.mpr (a53 d x y m a b _) (key _ (fun _=>rfl) _ (fun _ e1 e2 => ?_) (fun _ e1 e2=>by rw[e1,e2]))
  rotate_left
  all_goals
   rw[e1,e2]
  all_goals
   simp only[oT,Int.reduceEq,zaC,zaE,zaB,zaD];refine aS9 (aHC ?_) rfl;simp only[alW,i32,shA m0 m1,shB m0 m1,a76,a77,aRP,a0O,mul_mod,if_true,if_false,Int.reduceEq]
   try rw[wA,mul_mod]
   try rfl
 ·have:=fm3 h;subst this;refine gQ (u:=80) (k:=20) mix (z9 3) (Eq.mpr (bFR 25 d x y m a b _) ?_);cases hr:rtB 25 d x y m with
  |false=>exact no _ _ _ h (.inl hr) _ rfl
  |true =>
   refine yes _ h hr _ ?_;have e1:doI 25 d x y m a b=(m*262144)%4294967296:=by unfold doI;rw[hr,if_neg (by decide)];rfl
   rw[e1,bBI hr (by omega) (.inr (by omega))];simp only[oT,Int.reduceEq,zaC,zaE,zaB,zaD];refine aS9 (aHC ?_) rfl;rw[wA,wA];omega
 ·exact gQ (u:=80) (k:=20) mix (z9 4) (Eq.mpr (bFS op d x y m a b _) (no _ _ _ h (.inr ⟨rfl,rfl,by omega⟩) _ rfl))
 ·exact gQ (u:=80) (k:=20) mix (z9 5) (Eq.mpr (bFT op d x y m a b _) (no _ _ _ h (.inr ⟨rfl,rfl,by omega⟩) _ rfl))
 ·exact gQ (u:=80) (k:=20) mix (z9 6) (Eq.mpr (bFU op d x y m a b _) (no _ _ _ h (.inr ⟨rfl,rfl,by omega⟩) _ rfl))
 ·exact gQ (u:=80) (k:=20) mix (z9 7) (Eq.mpr (bFV op d x y m a b _) (no _ _ _ h (.inr ⟨rfl,rfl,by omega⟩) _ rfl))
 ·exact gQ (u:=80) (k:=20) mix (z9 8) (Eq.mpr (bFW op d x y m a b _) (no _ _ _ h (.inr ⟨rfl,rfl,by omega⟩) _ rfl))
theorem aRQ:rD zPr (44,a0N):=fun args nd v h hn=>by
 simp only[a0N]at h;split at h
 ·simp only[zaA,zaJ]at h;obtain⟨rfl,rfl⟩:=h;simp only[bH,zaK]at hn;exact bIA hn.1 hn.2.1 hn.2.2.1 hn.2.2.2.1
 ·cases h
def tkB (op a b:Int):Bool :=
 if op=34 then decide (a=b)else if op=35 then !decide (a=b)else if op=36 then decide (i32 a<i32 b)else if op=37 then !decide (i32 a<i32 b)
 else if op=38 then decide (a<b)else if op=39 then !decide (a<b)else false
def a0Q:List XV->Option (List Bool×XV)
 |[.int .i64 op,.int .u32 a,.int .u32 b]=>some ([decide (0<=a),decide (a<=4294967295),decide (0<=b),decide (b<=4294967295)],.bool (tkB op a b))
 |_=>none
theorem bFX (op a b:Int) (K:XV->Prop):(aO (TU2 0) 80 (bL (TU2 0) 80 20) 49 [.int .i64 op,.int .u32 a,.int .u32 b] K)=(
 letI q1:=decide (0<=a);
 letI q2:=decide (a<=4294967295);
 letI q3:=decide (0<=b);
 letI q4:=decide (b<=4294967295);cond (decide (op=34)) (K (.bool (decide (a=b)))) (cond (decide (op=35)) (K (.bool (decide ¬a=b))) (cond (decide (op=36)) (cond q1 (cond q2 (cond q3 (cond q4 (K (.bool (decide (i32 a<i32 b)))) False) False) False) False) (cond (decide (op=37)) (cond q1 (cond q2 (cond q3 (cond q4 (K (.bool (decide (i32 a>=i32 b)))) False) False) False) False) (cond (decide (op=38)) (K (.bool (decide (a<b)))) (cond (decide (op=39)) (K (.bool (decide (a>=b)))) (K (.bool false)))))))):=by kernel_rfl
theorem tk2 {op a b:Int} (h0:0<=a) (h1:a<=4294967295) (h2:0<=b) (h3:b<=4294967295):Pure zPr 49 (cons [.int .i64 op,.int .u32 a,.int .u32 b]) (con (.bool (tkB op a b))):=by
 refine gQ (u:=80) (k:=20) mix (z9 0) ?_;rw[bFX]
 try simp only[h0,h1,h2,h3,zaC,zaB,bI,aS]
 unfold tkB i32;by_cases g34:op=34
 ·subst g34;simp[<-Int.not_lt]
 by_cases g35:op=35
 ·subst g35;simp[<-Int.not_lt]
 by_cases g36:op=36
 ·subst g36;simp[<-Int.not_lt]
 by_cases g37:op=37
 ·subst g37;simp[<-Int.not_lt]
 by_cases g38:op=38
 ·subst g38;simp[<-Int.not_lt]
 by_cases g39:op=39
 ·subst g39;simp[<-Int.not_lt]
 simp[g34,g35,g36,g37,g38,g39]
theorem aRR:rD zPr (49,a0Q):=fun args nd v h hn=>by
 simp only[a0Q]at h;split at h
 ·simp only[zaA,zaJ]at h;obtain⟨rfl,rfl⟩:=h;simp only[bH,zaK]at hn;exact tk2 hn.1 hn.2.1 hn.2.2.1 hn.2.2.2.1
 ·cases h
theorem aT2 (b:Bool):0<=aPE b/\aPE b<=1:=by cases b<;>decide
theorem a54 (n:Int):0<=n%4294967296/\n%4294967296<=4294967295:=by omega
theorem a55 {c:Prop} [Decidable c] {x y:Int} (h1:c->0<=x/\x<=4294967295) (h2:¬c->0<=y/\y<=4294967295):0<=(if c then x else y)/\(if c then x else y)<=4294967295:=by
 by_cases h:c
 ·rw[if_pos h];exact h1 h
 ·rw[if_neg h];exact h2 h
theorem aFN (p:Int) {a b:Int} (h0:0<=a) (h1:a<=4294967295) (h2:0<=b) (h3:b<=4294967295):0<=alW p a b/\alW p a b<=4294967295:=by
 obtain⟨A,rfl⟩:=Int.eq_ofNat_of_zero_le h0;obtain⟨B,rfl⟩:=Int.eq_ofNat_of_zero_le h2;have hA:A<4294967296:=by omega
 have hB:B<4294967296:=by omega
 have g1:=bBD (B:=B) hA;have g2:=bE9 hA hB;have g3:=bBC hA hB;have g4:=aT2 (decide (i32 (A:Int)<i32 (B:Int)));have g5:=aT2 (decide ((A:Int)<(B:Int)));have g6:0<=(A:Int)/2^((B:Int)%32).toNat:=Int.ediv_nonneg h0 (Int.pow_nonneg (by omega));have g7:(A:Int)/2^((B:Int)%32).toNat<=A:=Int.ediv_le_self _ h0;have g8:=aPF (b:=(B:Int)) h0 h1 h2;unfold alW;rw[bE8 hA hB,bOr hA hB,bH6 hA hB]
 repeat' refine a55 (fun _ => ?_) (fun _ => ?_)
 all_goals first|exact a54 _|omega|exact a0P h0 h1 (by omega) h3
theorem bBJ (op d x y m:Int) {a b:Int} (h0:0<=a) (h1:a<=4294967295) (h2:0<=b) (h3:b<=4294967295):0<=doI op d x y m a b/\doI op d x y m a b<=4294967295:=by
 unfold doI;split
 ·omega
 split
 ·omega
 split
 ·exact aFN _ h0 h1 (by omega) (by omega)
 ·exact aFN _ h0 h1 h2 h3
end Go.Proofs.YtooojfbfobmkfaaGreat.Alu
namespace Go.Proofs.YtooojfbfobmkfaaGreat
open Go.Ra
set_option linter.unusedVariables false
set_option linter.unusedSimpArgs false
def TP0:Tab:=fW qq eU [] [] [] []
def lF (s:Split) (e:Bool) (b:Int):List Cell:=if b<0\/b>=s.blocks.length then []else if e then(ix s.blocks b.toNat).e else(ix s.blocks b.toNat).a
def bBK:List XV->Option ((XV->Prop)->Prop):=eZ (fun q:Split×Bool×Int=>[aG q.1,.bool q.2.1,.int .i64 q.2.2]) (fun _=>True) (fun q=>lF q.1 q.2.1 q.2.2) (fun y=>aB 9 dD y)
def aCV (s:Split) (b:Int):Int:=if b<0\/b>=s.blocks.length then 0 else IntKind.i64.wrap ((ix s.blocks b.toNat).dst-(ix s.blocks b.toNat).src)
def bBL:List XV->Option ((XV->Prop)->Prop):=eZ (fun q:Split×Int=>[aG q.1,.int .i64 q.2]) (fun _=>True) (fun q=>aCV q.1 q.2) (fun y=>.int .i64 y)
def goF (s:Split) (p:Pos) (t:Bool):Pos:=if t=true/\0<=p.block/\p.block<s.blocks.length/\0<=(ix s.blocks p.block.toNat).taken/\(ix s.blocks p.block.toNat).taken<s.blocks.length then⟨(ix s.blocks p.block.toNat).taken,0,IntKind.i64.wrap (p.base+aCV s p.block)⟩else { p with index:=IntKind.i64.wrap (p.index+1) }
def goS':List XV->Option ((XV->Prop)->Prop):=eZ (fun q:Split×Pos×Bool=>[aG q.1,dZ q.2.1,.bool q.2.2]) (fun _=>True) (fun q=>goF q.1 q.2.1 q.2.2) (fun y=>dZ y)
def lU (s:Split) (e:Bool):Nat->Pos->Pos×Bool
 |0,p=>(p,true)
 |k+1,p=>if p.block<0\/p.block>=s.blocks.length then(p,true)else if p.index<(lF s e p.block).length then(p,false)else if(ix s.blocks p.block.toNat).next<0\/k=0 then(p,true)else lU s e k ⟨(ix s.blocks p.block.toNat).next,0,IntKind.i64.wrap (p.base+aCV s p.block)⟩
def a56:List XV->Option ((XV->Prop)->Prop):=eZ (fun q:Split×Bool×Pos=>[aG q.1,.bool q.2.1,dZ q.2.2]) (fun q=>q.1.blocks.length<=1000000) (fun q=>lU q.1 q.2.1 (q.1.blocks.length+1) q.2.2) (fun y=>.tup [dZ y.1,.bool y.2])
def TP1:Tab:=fW qq eU [] [] [(96,bBK),(97,bBL)] []
def bFY (s:Split) (e:Bool) (n:Nat) (p:Pos):XSt:=⟨[(8,.int .i64 n),(6,.ptr 2 [] 0),(5,.ptr 1 [] 0),(3,.ptr 0 [] 0),(1,.bool e)],[(2,some (.agg 3 [.int .i64 0,.int .i64 0,.int .i64 0])),(1,some (dZ p)),(0,some (aG s))],3⟩
def TP2:Tab:=fW qq eU [] [] [(96,bBK),(97,bBL),(57,a56)] []
def noCell:Cell:=⟨0,⟨0,0,0,0,0⟩,0,0,0⟩
def aQ (s:Split) (e:Bool) (p:Pos):Pos×Bool:=lU s e (s.blocks.length+1) p
def aW (s:Split) (e:Bool) (p:Pos):Cell×Int×Bool:=if(aQ s e p).2=true\/(aQ s e p).1.index<0 then(noCell,IntKind.i64.wrap ((aQ s e p).1.base+aCV s (aQ s e p).1.block),false)else(ix (lF s e (aQ s e p).1.block) (aQ s e p).1.index.toNat,IntKind.i64.wrap ((aQ s e p).1.base+(ix (lF s e (aQ s e p).1.block) (aQ s e p).1.index.toNat).off),true)
def a0R:List XV->Option ((XV->Prop)->Prop):=eZ (fun q:Split×Bool×Pos=>[aG q.1,.bool q.2.1,dZ q.2.2]) (fun q=>q.1.blocks.length<=1000000) (fun q=>aW q.1 q.2.1 q.2.2) (fun y=>.tup [dD y.1,.int .i64 y.2.1,.bool y.2.2])
theorem bFZ (s:Split) (e:Bool) (b:Int) (r:XV):(aO TP0 80 (bL TP0 80 20) 96 [aG s,.bool e,.int .i64 b] (fun v=>aA v r))=(
 let q1:=decide (b<0);
 let q2:=decide (0<=b);
 let q3:=decide (b<(↑(s.blocks.length):Int));cond (cond q1 true (!q1)) (cond (cond q1 true (decide (b>=(↑(s.blocks.length):Int)))) (aA (.row true 0 0 fun
  x=>.unk) r) (cond e (cond q2 (cond q3 (aA (aB 9 dD (Block.e (ix s.blocks (Int.toNat b)))) r) False) False) (cond q2 (cond q3 (aA (aB 9
  dD (Block.a (ix s.blocks (Int.toNat b)))) r) False) False))) False):=by kernel_rfl
theorem bF0 (s:Split) (b:Int) (r:XV):(aO TP0 80 (bL TP0 80 20) 97 [aG s,.int .i64 b] (fun v=>aA v r))=(
 let q1:=decide (b<0);
 let q2:=decide (0<=b);
 let q3:=decide (b<(↑(s.blocks.length):Int));cond (cond q1 true (!q1)) (cond (cond q1 true (decide (b>=(↑(s.blocks.length):Int)))) (aA (.int .i64 0) r) (cond q2 (cond q3 (cond q2 (cond q3 (aA (.int .i64 (IntKind.wrap .i64 (Block.dst (ix s.blocks (Int.toNat b))-Block.src (ix s.blocks (Int.toNat b))))) r) False) False) False) False)) False):=by kernel_rfl
theorem bIB (s:Split) (p:Pos) (t:Bool) (r:XV):(aO TP0 80 (bL TP0 80 20) 103 [aG s,dZ p,.bool t] (fun v=>aA v r))=(
 let q1:=cond t (decide (p.block>=0)) false;
 let q2:=decide (0<=p.block);
 let q3:=decide (p.block<(↑(s.blocks.length):Int));
 let q4:=cond q1 q3 false;
 let q5:=!q4;
 let q6:=cond q4 (decide (Block.taken (ix s.blocks (Int.toNat p.block))>=0)) false;
 let q7:=!q6;
 let q8:=decide (p.block<0);cond (cond t t true) (cond (cond q1 q1 true) (cond (cond q2 true q5) (cond (cond q3 true q5) (cond (cond q4 q4 true) (cond (cond q2 true q7) (cond (cond q3 true q7) (cond (cond q6 q6 true) (cond (cond q6 (decide (Block.taken (ix s.blocks (Int.toNat p.block))
  < (↑(s.blocks.length):Int))) false) (cond q2 (cond q3 (cond (cond q8 true (!q8)) (cond (cond q8 true (decide (p.block>=(↑(s.blocks.length):Int)))) (aA (.agg 3 [.int .i64 (Block.taken (ix s.blocks (Int.toNat p.block))),.int .i64 0,.int .i64 (IntKind.wrap .i64 (p.base+0))]) r) (cond q2 (cond q3 (cond q2 (cond q3 (aA (.agg 3 [.int .i64 (Block.taken (ix s.blocks (Int.toNat p.block))),.int .i64 0,.int .i64 (IntKind.wrap .i64 (p.base+IntKind.wrap .i64 (Block.dst (ix s.blocks (Int.toNat
  p.block))-Block.src (ix s.blocks (Int.toNat p.block)))))]) r) False) False) False) False)) False) False) False) (aA (.agg 3 [.int .i64 p.block,.int
  .i64 (IntKind.wrap .i64 (p.index+1)),.int .i64 p.base]) r)) False) False) False) False) False) False) False) False):=by kernel_rfl
theorem bBM (s:Split) (e:Bool) (p:Pos) (r:XV):(goQ zPr TP1 [(.cell 6 .true 3),(.tmp 7)] r (.run kM) [] ⟨kF 0 [aG s,.bool e,dZ p],[],0⟩)=(bX (Ok zPr (Tab.q TP1)) nS (XSt.mk [(8,.int .i64 0),(7,.bool false),(6,.ptr 2 [] 0),(5,.ptr 1 [] 0),(3,.ptr 0 [] 0),(1,.bool e)] [(2,some (.agg
 3 [.int .i64 0,.int .i64 0,.int .i64 0])),(1,some (dZ p)),(0,some (aG s))] 3) [Frm.blk 0,Frm.seq rW] (dC [AR.cell 6 true 3,AR.tmp 7] r)):=by kernel_rfl
theorem ctt (b:Bool):(cond b true true)=true:=by cases b<;>rfl
theorem a0S:bT zPr TP0:=bQ dF trivial trivial trivial trivial
theorem a0T:eV zPr (96,bBK):=bB fun⟨s,e,b⟩ _=>by
 show Pure _ _ (cons [aG s,.bool e,.int .i64 b]) (con (aB 9 dD (lF s e b)));refine fF (u:=80) (k:=20) mix a0S ?_;refine Eq.mpr (bFZ s e b _) ?_;unfold lF;by_cases h:b<0\/b>=s.blocks.length
 ·rw[if_pos h];rcases h with h|h
  ·simp only[h,zaC,zaE,zaB,zaD,aD,zaF,zaO,zaQ,aS,bI,zaI,zaH,zaN,zaM,zaT,zaR,zaS,ge_iff_le,Int.le_refl,if_true,if_false,reduceCtorEq,eq_self,BEq.rfl];exact⟨cM⟩
  ·simp only[show ¬b<0 by omega,h,zaC,zaE,zaB,zaD,aD,zaF,zaO,zaQ,aS,bI,zaI,zaH,zaN,zaM,zaT,zaR,zaS,ge_iff_le,Int.le_refl,if_true,if_false,reduceCtorEq,eq_self,BEq.rfl];exact⟨cM⟩
 ·rw[if_neg h];have h1:¬b<0:=by omega
  have h2:0<=b:=by omega
  have h3:b<s.blocks.length:=by omega
  have h4:¬(s.blocks.length:Int)<=b:=by omega
  cases e<;>simp only[h1,h2,h3,h4,zaC,zaE,zaB,zaD,aD,zaF,zaO,zaQ,aS,bI,zaI,zaH,zaN,zaM,zaT,zaR,zaS,ge_iff_le,Int.le_refl,if_true,if_false,reduceCtorEq,eq_self,BEq.rfl]<;>exact .rfl
theorem a0U:eV zPr (97,bBL):=bB fun⟨s,b⟩ _=>by
 show Pure _ _ (cons [aG s,.int .i64 b]) (con (.int .i64 (aCV s b)));refine fF (u:=80) (k:=20) mix a0S ?_;refine Eq.mpr (bF0 s b _) ?_;unfold aCV;by_cases h:b<0\/b>=s.blocks.length
 ·rw[if_pos h];rcases h with h|h
  ·simp only[h,zaC,zaE,zaB,zaD,aD,zaF,zaO,zaQ,aS,bI,zaI,zaH,zaN,zaM,zaT,zaR,zaS,ge_iff_le,Int.le_refl,if_true,if_false,reduceCtorEq,eq_self,BEq.rfl];exact .rfl
  ·simp only[show ¬b<0 by omega,h,zaC,zaE,zaB,zaD,aD,zaF,zaO,zaQ,aS,bI,zaI,zaH,zaN,zaM,zaT,zaR,zaS,ge_iff_le,Int.le_refl,if_true,if_false,reduceCtorEq,eq_self,BEq.rfl];exact .rfl
 ·rw[if_neg h];have h1:¬b<0:=by omega
  have h2:0<=b:=by omega
  have h3:b<s.blocks.length:=by omega
  have h4:¬(s.blocks.length:Int)<=b:=by omega
  simp only[h1,h2,h3,h4,zaC,zaE,zaB,zaD,aD,zaF,zaO,zaQ,aS,bI,zaI,zaH,zaN,zaM,zaT,zaR,zaS,ge_iff_le,Int.le_refl,if_true,if_false,reduceCtorEq,eq_self,BEq.rfl];exact .rfl
theorem a8A:eV zPr (103,goS'):=bB fun⟨s,p,t⟩ _=>by
 show Pure _ _ (cons [aG s,dZ p,.bool t]) (con (dZ (goF s p t)));refine fF (u:=80) (k:=20) mix a0S ?_;refine Eq.mpr (bIB s p t _) ?_;unfold goF aCV;cases t with
 |false=>simp only[zaU,false_and,ctt,zaC,zaE,zaB,zaD,aD,zaF,zaO,zaQ,aS,bI,zaI,zaH,zaN,zaM,zaT,zaR,zaS,ge_iff_le,Int.le_refl,if_true,if_false,reduceCtorEq,eq_self,BEq.rfl];exact .rfl
 |true =>
  by_cases h2:0<=p.block
  ·by_cases h3:p.block<s.blocks.length
   ·by_cases h4:0<=(ix s.blocks p.block.toNat).taken
    ·by_cases h5:(ix s.blocks p.block.toNat).taken<s.blocks.length
     ·have h1:¬p.block<0:=by omega
      have h6:¬(s.blocks.length:Int)<=p.block:=by omega
      simp only[h1,h2,h3,h4,h5,h6,and_self,or_self,zaC,zaE,zaB,zaD,aD,zaF,zaO,zaQ,aS,bI,zaI,zaH,zaN,zaM,zaT,zaR,zaS,ge_iff_le,Int.le_refl,if_true,if_false,reduceCtorEq,eq_self,BEq.rfl];exact .rfl
     ·simp only[h2,h3,h4,h5,and_false,and_true,ctt,zaC,zaE,zaB,zaD,aD,zaF,zaO,zaQ,aS,bI,zaI,zaH,zaN,zaM,zaT,zaR,zaS,ge_iff_le,Int.le_refl,if_true,if_false,reduceCtorEq,eq_self,BEq.rfl];exact .rfl
    ·simp only[h2,h3,h4,false_and,and_false,ctt,zaC,zaE,zaB,zaD,aD,zaF,zaO,zaQ,aS,bI,zaI,zaH,zaN,zaM,zaT,zaR,zaS,ge_iff_le,Int.le_refl,if_true,if_false,reduceCtorEq,eq_self,BEq.rfl];exact .rfl
   ·simp only[h2,h3,false_and,and_false,ctt,zaC,zaE,zaB,zaD,aD,zaF,zaO,zaQ,aS,bI,zaI,zaH,zaN,zaM,zaT,zaR,zaS,ge_iff_le,Int.le_refl,if_true,if_false,reduceCtorEq,eq_self,BEq.rfl];exact .rfl
  ·simp only[h2,false_and,and_false,ctt,zaC,zaE,zaB,zaD,aD,zaF,zaO,zaQ,aS,bI,zaI,zaH,zaN,zaM,zaT,zaR,zaS,ge_iff_le,Int.le_refl,if_true,if_false,reduceCtorEq,eq_self,BEq.rfl];exact .rfl
theorem bBN (s:Split) (e:Bool) (p:Pos) (n:Nat) (r:XV) (A:XSt->Prop):(goQ zPr TP1 [(.cell 6 .true 3),(.tmp 7)] r (.run nS) [.lp nS A,.blk 0,.seq rW] (bFY s e n p))=(
 let q1:=decide (p.block<0);
 let q2:=aA (.tup [dZ p,.bool true]) r;
 let q3:=decide (Block.next (ix s.blocks (Int.toNat p.block))<0);cond (decide ((↑n:Int)<=(↑(s.blocks.length):Int))) (cond (cond q1 true (!q1)) (cond (cond q1 true (decide (p.block>=(↑(s.blocks.length):Int)))) q2 (∃(s_1:Split×Bool×Int),aI [aG s,.bool e,.int .i64 p.block] [aG s_1.1,.bool s_1.2.1,.int .i64
  s_1.2.2]/\aN True/\∀(y:List Cell),y=lF s_1.1 s_1.2.1 s_1.2.2->cond (decide (p.index<(↑(y.length):Int))) (aA (.tup [dZ p,.bool false]) r) (cond (decide (0
  <= p.block)) (cond (decide (p.block<(↑(s.blocks.length):Int))) (cond (cond q3 true (!q3)) (cond (cond q3 true (decide ((↑n:Int)=(↑(s.blocks.length):Int)))) q2 (∃(s_2:Split×Int),aI [aG s,.int .i64 p.block] [aG s_2.1,.int .i64 s_2.2]/\aN True/\∀(y:Int),y=aCV s_2.1 s_2.2->A (XSt.mk [(8,.int .i64
  (IntKind.wrap .i64 ((↑n:Int)+1))),(6,.ptr 2 [] 0),(5,.ptr 1 [] 0),(3,.ptr 0 [] 0),(1,.bool e)] [(2,some (.agg 3 [.int .i64 0,.int .i64 0,.int .i64 0])),(1,some (.agg
  3 [.int .i64 (Block.next (ix s.blocks (Int.toNat p.block))),.int .i64 0,.int .i64 (IntKind.wrap .i64 (p.base+y))])),(0,some (aG s))] 3))) False) False) False))) False) q2):=by kernel_rfl
theorem aCW (s:Split) (e:Bool) (k:Nat) (p:Pos):lU s e (k+1) p=if p.block<0\/p.block>=s.blocks.length then(p,true)else if p.index<(lF s e p.block).length then(p,false)else if(ix s.blocks p.block.toNat).next<0\/k=0 then(p,true)else lU s e k ⟨(ix s.blocks p.block.toNat).next,0,IntKind.i64.wrap (p.base+aCV s p.block)⟩:=rfl
theorem a8B:bT zPr TP1:=bQ dF trivial trivial ⟨a0T,a0U,trivial⟩ trivial
theorem aRS:eV zPr (57,a56):=bB fun⟨s,e,p0⟩ hl=>by
 have hl:s.blocks.length<=1000000:=hl;show Pure _ _ (cons [aG s,.bool e,dZ p0]) (con (.tup [dZ (lU s e (s.blocks.length+1) p0).1,.bool (lU s e (s.blocks.length+1) p0).2]));refine j9 mix a8B xM (Nat.le_of_ble_eq_true rfl) ?_;refine Eq.mpr (bBM s e p0 _) ?_;refine gT mix a8B (fun i:Nat×Pos=>bFY s e i.1 i.2) (fun i=>i.1<=s.blocks.length/\lU s e (s.blocks.length+1-i.1) i.2=lU s e (s.blocks.length+1) p0) (fun i=>s.blocks.length+1-i.1) (0,p0) ⟨Nat.zero_le _,rfl⟩ (.of (dL ⟨rfl,rfl,rfl,rfl,rfl,trivial⟩ ⟨rfl,rfl,rfl,trivial⟩ (zaF _))) ?_;rintro ⟨n,p⟩ ⟨hn,hp⟩;replace hn:n<=s.blocks.length:=hn;replace hp:lU s e (s.blocks.length+1-n) p=lU s e (s.blocks.length+1) p0:=hp;refine Eq.mpr (bBN s e p n _ _) ?_;obtain⟨k,hk⟩:∃ k,s.blocks.length+1-n=k+1:=⟨s.blocks.length-n,by omega⟩;rw[<-hp,hk,aCW];have hn':(n:Int)<=s.blocks.length:=by omega
 by_cases hb:p.block<0\/p.block>=s.blocks.length
 ·simp only[if_pos hb];rcases hb with h|h
  ·simp only[hn',h,zaC,zaE,zaB,zaD,aD,zaF,zaO,zaQ,aS,bI,zaI,zaH,zaN,zaM,zaT,zaR,zaS,ge_iff_le,Int.le_refl,if_true,if_false,reduceCtorEq,eq_self,BEq.rfl];exact .rfl
  ·simp only[hn',show ¬p.block<0 by omega,h,zaC,zaE,zaB,zaD,aD,zaF,zaO,zaQ,aS,bI,zaI,zaH,zaN,zaM,zaT,zaR,zaS,ge_iff_le,Int.le_refl,if_true,if_false,reduceCtorEq,eq_self,BEq.rfl];exact .rfl
 ·simp only[if_neg hb];have h1:¬p.block<0:=by omega
  have h2:0<=p.block:=by omega
  have h3:p.block<s.blocks.length:=by omega
  have h4:¬(s.blocks.length:Int)<=p.block:=by omega
  simp only[hn',h1,h2,h3,h4,zaC,zaE,zaB,zaD,aD,zaF,zaO,zaQ,aS,bI,zaI,zaH,zaN,zaM,zaT,zaR,zaS,ge_iff_le,Int.le_refl,if_true,if_false,reduceCtorEq,eq_self,BEq.rfl];refine⟨(s,e,p.block),.rfl,⟨trivial⟩, ?_⟩;rintro y rfl;show cond (decide (p.index<((lF s e p.block).length:Int))) _ _;by_cases hi:p.index<(lF s e p.block).length
  ·simp only[if_pos hi,decide_eq_true hi,zaB];exact .rfl
  ·simp only[if_neg hi,decide_eq_false hi,zaD];have hz:((n:Int)=s.blocks.length)↔k=0:=by omega
   by_cases hx:(ix s.blocks p.block.toNat).next<0
   ·simp only[hx,true_or,if_true,zaC,zaE,zaB,zaD,aD,zaF,zaO,zaQ,aS,bI,zaI,zaH,zaN,zaM,zaT,zaR,zaS,ge_iff_le,Int.le_refl,if_true,if_false,reduceCtorEq,eq_self,BEq.rfl];exact .rfl
   ·by_cases hk0:k=0
    ·have:=hz.2 hk0;simp only[hx,hk0,this,or_true,if_true,zaC,zaE,zaB,zaD,aD,zaF,zaO,zaQ,aS,bI,zaI,zaH,zaN,zaM,zaT,zaR,zaS,ge_iff_le,Int.le_refl,if_true,if_false,reduceCtorEq,eq_self,BEq.rfl];exact .rfl
    ·have h5:¬(n:Int)=s.blocks.length:=fun h=>hk0 (hz.1 h)
     simp only[hx,h5,hk0,or_self,if_false,zaC,zaE,zaB,zaD,aD,zaF,zaO,zaQ,aS,bI,zaI,zaH,zaN,zaM,zaT,zaR,zaS,ge_iff_le,Int.le_refl,if_true,if_false,reduceCtorEq,eq_self,BEq.rfl];refine⟨(s,p.block),.rfl,⟨trivial⟩, ?_⟩;rintro y rfl;have w1:IntKind.i64.wrap ((n:Int)+1)=((n+1:Nat):Int):=wrap_i64 (by omega) (by omega);rw[w1];refine⟨(n+1,⟨(ix s.blocks p.block.toNat).next,0,IntKind.i64.wrap (p.base+aCV s p.block)⟩),⟨by show n+1<=_;omega, ?_⟩,.of (dL ⟨rfl,rfl,rfl,rfl,rfl,trivial⟩ ⟨rfl,rfl,rfl,trivial⟩ (zaF _)),by show s.blocks.length+1-(n+1)<k+1;omega⟩;show lU s e (s.blocks.length+1-(n+1)) _=_;rw[show s.blocks.length+1-(n+1)=k by omega]
theorem bF1 (s:Split) (e:Bool) (p:Pos) (r:XV):(aO TP2 80 (bL TP2 80 20) 54 [aG s,.bool e,dZ p] (fun v=>aA v r))=(
 let q1:List XV:=[.int .i64 0,.int .i64 0,.int .i64 0];
 let q2:Pos×Bool->Prop:=fun y=>∃(s_1:Split×Int),aI [aG s,.int .i64 y.1.block] [aG s_1.1,.int .i64 s_1.2]/\aN True/\∀(y_1:Int),y_1=aCV s_1.1
  s_1.2->aA (.tup [.agg 9 (.int .i64 0::.agg 5 (.int .i64 0::.int .i64 0::q1)::q1),.int .i64 (IntKind.wrap .i64 (y.1.base+y_1)),.bool false]) r;
 let q3:Pos×Bool->Bool:=fun y=>decide (0<=y.1.index);
 let q4:Pos×Bool->List Cell->Bool:=fun y y_1=>decide (y.1.index<(↑(y_1.length):Int));∃(s_1:Split×Bool×Pos),aI [aG s,.bool e,dZ p] [aG s_1.1,
  .bool s_1.2.1,dZ s_1.2.2]/\aN (s_1.1.blocks.length<=1000000)/\∀(y:Pos×Bool),y=lU s_1.1 s_1.2.1 (s_1.1.blocks.length+1) s_1.2.2->cond y.2 (q2 y) (∃(s_2
  : Split×Bool×Int),aI [aG s,.bool e,.int .i64 y.1.block] [aG s_2.1,.bool s_2.2.1,.int .i64 s_2.2.2]/\aN True/\∀(y_1:List Cell),y_1=lF s_2.1 s_2.2.1
  s_2.2.2->cond (decide (y.1.index<0)) (q2 y) (cond (q3 y) (cond (q4 y y_1) (cond (q3 y) (cond (q4 y y_1) (aA (.tup [dD (ix y_1 (Int.toNat y.1.index)),.int .i64 (IntKind.wrap
  .i64 (y.1.base+Cell.off (ix y_1 (Int.toNat y.1.index)))),.bool true]) r) False) False) False) False))):=by kernel_rfl 
theorem bF2:bT zPr TP2:=bQ dF trivial trivial ⟨a0T,a0U,aRS,trivial⟩ trivial
theorem aT3 (s:Split) (e:Bool):∀(k:Nat) (p:Pos),(lU s e k p).2=false->(lU s e k p).1.index<(lF s e (lU s e k p).1.block).length
 |0,p,h=>by cases h
 |k+1,p,h=>by
  rw[aCW]at h ⊢;by_cases h1:p.block<0\/p.block>=s.blocks.length
  ·rw[if_pos h1]at h;cases h
  rw[if_neg h1]at h ⊢;by_cases h2:p.index<(lF s e p.block).length
  ·rw[if_pos h2];exact h2
  rw[if_neg h2]at h ⊢;by_cases h3:(ix s.blocks p.block.toNat).next<0\/k=0
  ·rw[if_pos h3]at h;cases h
  rw[if_neg h3]at h ⊢;exact aT3 s e k _ h
theorem aMJ:eV zPr (54,a0R):=bB fun⟨s,e,p⟩ hl=>by
 have hl:s.blocks.length<=1000000:=hl;show Pure _ _ (cons [aG s,.bool e,dZ p]) (con (.tup [dD (aW s e p).1,.int .i64 (aW s e p).2.1,.bool (aW s e p).2.2]));refine fF (u:=80) (k:=20) mix bF2 ?_;refine Eq.mpr (bF1 s e p _) ?_;refine⟨(s,e,p),.rfl,⟨hl⟩, ?_⟩;intro y hy;replace hy:y=aQ s e p:=hy;unfold aW;have h0:y.2=false->y.1.index<(lF s e y.1.block).length:=by rw[hy];exact aT3 s e _ p
 rw[<-hy];clear hy;cases h:y.2 with
 |true => simp only[true_or,if_true,zaB];refine⟨(s,y.1.block),.rfl,⟨trivial⟩, ?_⟩;rintro z rfl;exact .rfl
 |false =>
  have h1:=h0 h;simp only[zaD,zaU,false_or];refine⟨(s,e,y.1.block),.rfl,⟨trivial⟩, ?_⟩;rintro z rfl;replace h1:y.1.index<(lF s e y.1.block).length:=h1;show cond (decide (y.1.index<0)) _ _;by_cases h2:y.1.index<0
  ·simp only[decide_eq_true h2,zaB,if_pos h2];refine⟨(s,y.1.block),.rfl,⟨trivial⟩, ?_⟩;rintro z rfl;exact .rfl
  ·have h3:0<=y.1.index:=by omega
   simp only[decide_eq_false h2,zaD,if_neg h2,decide_eq_true h3,zaB];show cond (decide (y.1.index<((lF s e y.1.block).length:Int))) (cond (decide (y.1.index<((lF s e y.1.block).length:Int))) _ _) _;simp only[decide_eq_true h1,zaB];exact .rfl
def TP3:Tab:=fW qq eU [(104,aTO),(41,lM),(43,aRK),(95,aTK)] jA [] []
def aI6 (addr size:Int) (e:Entry):Bool:=qR e.addr e.size addr size
def r6 (l:List Entry) (addr size:Int):Nat->Entry×Bool
 |0=>(⟨0,0,0,false,0⟩,false)
 |k+1=>if aI6 addr size (ix l k)then(ix l k,true)else r6 l addr size k
def fK (l:List Entry) (addr size:Int):Entry×Bool:=r6 l addr size l.length
def bF3:List XV->Option ((XV->Prop)->Prop):=eZ (fun q:List Entry×Int×Int=>[aB 5 cB q.1,.int .i64 q.2.1,.int .i64 q.2.2]) (fun q=>q.1.length<=1000000/\(∀ e∈q.1,e.wf)/\bK q.2.1/\bK q.2.2) (fun q=>fK q.1 q.2.1 q.2.2) (fun y=>.tup [cB y.1,.bool y.2])
def bF4 (l:List Entry) (a s:Int) (i:Int):XSt:=⟨[(8,.int .i64 i),(6,.ptr 0 [] 0),(0,aB 5 cB l),(1,.int .i64 a),(2,.int .i64 s)],[(0,some (.agg 5 [.int .i64 0,.int .i64 0,.int .i64 0,.bool false,.int .u32 0]))],1⟩
def o9 (e:Entry) (op a:Int):Int×Bool:=if aC op=4/\e.known=true/\e.addr=a/\e.size=szI op then(aDV op e.val,true)else(0,false)
def bF5:List XV->Option ((XV->Prop)->Prop):=eZ (fun q:Entry×Int×Int=>[cB q.1,.int .i64 q.2.1,.int .i64 q.2.2]) (fun q=>q.1.wf) (fun q=>o9 q.1 q.2.1 q.2.2) (fun y=>.tup [.int .u32 y.1,.bool y.2])
def aVT (l:List Slot) (n t:Int):List Slot×Bool:=if(l.length:Int)>=n then(l,false)else(l++[⟨t,false,0⟩],true)
def qU (l:List Slot):List Slot×Int×Bool:=if l=[]\/(ix l 0).full=false then(l,0,false)else(l.tail,(ix l 0).val,true)
theorem a0V:bT zPr TP3:=bQ dF ⟨aTP,kC,xI,aZQ,trivial⟩ gM trivial trivial
theorem bBO (l:List Entry) (a s:Int) (r:XV):(goQ zPr TP3 [(.cell 6 .true 5),(.tmp 7)] r (.run kN) [] ⟨kF 0 [aB 5 cB l,.int .i64 a,.int .i64 s],[],0⟩)=(bX (Ok zPr (Tab.q TP3)) nT (XSt.mk [(8,.int .i64 (IntKind.wrap .i64 ((↑(l.length):Int)-1))),(7,.bool false),(6,.ptr 0 [] 0),(0,aB 5 cB
 l),(1,.int .i64 a),(2,.int .i64 s)] [(0,some (.agg 5 [.int .i64 0,.int .i64 0,.int .i64 0,.bool false,.int .u32 0]))] 1) [Frm.blk 0,Frm.seq rY] (dC [AR.cell
 6 true 5,AR.tmp 7] r)):=by kernel_rfl
theorem bF6 (e:Entry) (op a:Int) (r:XV):(aO TP3 80 (bL TP3 80 20) 100 [cB e,.int .i64 op,.int .i64 a] (fun v=>aA v r))=(
 let q1:=decide ¬aC op=4;
 let q2:=cond q1 true (!e.known);
 let q3:=cond q2 true (decide ¬e.addr=a);cond (cond q1 true (!q1)) (cond (cond q2 true (!q2)) (cond (cond q3 true (!q3)) (cond (bif q3 then true else
  decide ¬e.size=szI op) (aA (.tup [.int .u32 0,.bool false]) r) (cond (decide (0<=e.val)) (cond (decide (e.val<=4294967295)) (aA (.tup [.int .u32 (aDV op e.val),
  .bool true]) r) False) False)) False) False) False):=by kernel_rfl
theorem bBP (l:List Entry) (a s i:Int) (r:XV) (A:XSt->Prop):(goQ zPr TP3 [(.cell 6 .true 5),(.tmp 7)] r (.run nT) [.lp nT A,.blk 0,.seq rY] (bF4 l a s i))=(
 let q1:=decide (0<=i);
 let q2:=decide (i<(↑(l.length):Int));
 let q3:XV:=.agg 5 [.int .i64 0,.int .i64 0,.int .i64 0,.bool false,.int .u32 0];cond (decide (i>=0)) (cond q1 (cond q2 (cond q1 (cond q2 (cond (aAZ (Entry.addr
  (ix l (Int.toNat i)))) (cond (aAZ (Entry.size (ix l (Int.toNat i)))) (cond (aAZ a) (cond (aAZ s) (cond (qR (Entry.addr (ix l (Int.toNat i))) (Entry.size (ix l (Int.toNat i)))
  a s) (cond q1 (cond q2 (aA (.tup [cB (ix l (Int.toNat i)),.bool true]) r) False) False) (A (XSt.mk [(8,.int .i64 (IntKind.wrap .i64 (i-1))),(6,.ptr
  0 [] 0),(0,aB 5 cB l),(1,.int .i64 a),(2,.int .i64 s)] [(0,some q3)] 1))) False) False) False) False) False) False) False) False) (aA
  (.tup [q3,.bool false]) r)):=by kernel_rfl
theorem bBQ:eV zPr (99,bF3):=bB fun⟨l,a,s⟩ h=>by
 obtain⟨hl,hw,ha,hs⟩:l.length<=1000000/\(∀ e∈l,e.wf)/\bK a/\bK s:=h;show Pure _ _ (cons [aB 5 cB l,.int .i64 a,.int .i64 s]) (con (.tup [cB (fK l a s).1,.bool (fK l a s).2]));refine j9 mix a0V xN (Nat.le_of_ble_eq_true rfl) ?_;refine Eq.mpr (bBO l a s _) ?_;rw[wrap_i64 (x:=(l.length:Int)-1) (by omega) (by omega)];refine gT mix a0V (fun i:Nat=>bF4 l a s ((i:Int)-1)) (fun i=>i<=l.length/\r6 l a s i=fK l a s) (fun i=>i) l.length ⟨zaF _,rfl⟩ (.of (dL ⟨rfl,rfl,rfl,rfl,rfl,trivial⟩ ⟨rfl,trivial⟩ (zaF _))) ?_;rintro i ⟨hi,hp⟩;refine Eq.mpr (bBP l a s ((i:Int)-1) _ _) ?_;rw[<-hp];cases i with
 |zero=>simp only[show ¬((0:Nat):Int)-1>=0 by omega,zaE,zaD];exact .rfl
 |succ k =>
  have e1:((k+1:Nat):Int)-1=(k:Int):=by omega
  have hk:k<l.length:=by omega
  have he:=hw _ (cA hk);have h0:(0:Int)<=k:=by omega
  have h1:(k:Int)<l.length:=by omega
  have w1:IntKind.i64.wrap ((k:Int)-1)=(k:Int)-1:=wrap_i64 (by omega) (by omega);rw[e1];simp only[h0,h1,w1,rZ he.1,rZ he.2.1,rZ ha,rZ hs,zaC,zaE,zaB,zaD,aD,zaF,zaO,zaQ,aS,bI,zaI,zaH,zaN,zaM,zaT,zaR,zaS,ge_iff_le,Int.le_refl,if_true,if_false,reduceCtorEq,eq_self,BEq.rfl];show cond (qR (ix l k).addr (ix l k).size a s) _ _;have e2:r6 l a s (k+1)=if qR (ix l k).addr (ix l k).size a s then(ix l k,true)else r6 l a s k:=rfl;rw[e2]at hp ⊢;cases hh:qR (ix l k).addr (ix l k).size a s with
  |true=>exact .rfl
  |false => exact⟨k,⟨by omega,rfl⟩,.of (dL ⟨rfl,rfl,rfl,rfl,rfl,trivial⟩ ⟨rfl,trivial⟩ (zaF _)),by omega⟩
theorem bBR:eV zPr (100,bF5):=bB fun⟨e,op,a⟩ h=>by
 have h:e.wf:=h;show Pure _ _ (cons [cB e,.int .i64 op,.int .i64 a]) (con (.tup [.int .u32 (o9 e op a).1,.bool (o9 e op a).2]));refine fF (u:=80) (k:=20) mix a0V ?_;refine Eq.mpr (bF6 e op a _) ?_;have hv:gC e.val:=h.2.2.2;unfold gC at hv;unfold o9;by_cases h1:aC op=4
 ·cases h2:e.known with
  |false=>simp[h1,h2];exact .rfl
  |true =>
   by_cases h3:e.addr=a
   ·by_cases h4:e.size=szI op
    ·simp[h1,h2,h3,h4,hv];exact .rfl
    ·simp[h1,h2,h3,h4];exact .rfl
   ·simp[h1,h2,h3];exact .rfl
 ·simp[h1];exact .rfl
theorem qV {α:Type} [Inhabited α] {x:Bool} {es:Nat} {f:Nat->XV} {en:α->XV} {l:List α} {a:α} (h1:∀ i,i<l.length->con (f i)=con (en (ix l i))) (h2:con (f l.length)=con (en a)):leQ (con (.row x es (l.length+1) f)) (con (aB es en (l++[a]))):=by
 refine gZ (by simp) (.inl rfl) fun i hi=>aHE ?_
 by_cases hlt:i<l.length
 ·rw[fM hlt];exact h1 i hlt
 ·obtain rfl:i=l.length:=by omega
  rw[fN];exact h2
def TP4:Tab:=fW qq (jB++fX) [(41,lM),(36,aFD)] [] [] []
def aWI (i:Ins):Int:=if bY i then i.d else 0
def bF7:List XV->Option ((XV->Prop)->Prop):=eZ (fun i:Ins=>[cT i]) (fun _=>True) (fun i=>aWI i) (fun y=>.int .i64 y)
def TPm:Tab:=fW qq fX [(41,lM),(90,aOS),(36,aFD)] [] [] []
def bF8:List XV->XSt->Option ((XV->XSt->Prop)->Prop):=aYZ (fun i:Ins=>[cT i]) (fun _=>True) (fun i=>aY i) (fun n y=>.sl n [] 0 0 y.length 1) (fun y=>.tab y.length 1 (fun i=>bJ (ix y i)))
def TP5:Tab:=fW qq (jB++fX) [] [] [(109,bF7)] [(79,bF8)]
def aPG (l out:List Int) (i:Nat):XSt:=⟨[(5,.int .i64 i),(4,.sl 3 [] 0 0 out.length 1),(3,aB 1 bJ l)],[(3,some (.tab out.length 1 (fun i=>bJ (ix out i))))],4⟩
def pA (n:Int):Bool:=decide (1<=n/\n<=15)
def tQ (c:Cell):List Int:=(if c.kind=1\/c.kind=2 then aY c.ins++[aWI c.ins]else if c.kind=3\/c.kind=4 then [c.ins.a]else if c.kind=7 then [c.ins.d]else if c.kind=5\/c.kind=6\/c.kind=8 then [c.reg]else if c.kind=9 then aY c.ins else []).filter pA
def bF9:List XV->Option ((XV->Prop)->Prop):=eZ (fun c:Cell=>[dD c]) (fun _=>True) (fun c=>tQ c) (fun y=>aB 1 bJ y)
theorem bGA (i:Ins) (r:XV):(aO TP4 80 (bL TP4 80 20) 109 [cT i] (fun v=>aA v r))=(cond (!bY i) (aA (.int .i64 0) r) (aA (.int .i64 i.d) r)):=by kernel_rfl
theorem bGB (i:Ins) (r t:XV):(goM zPr TPm [(.tmp 2)] r t (.run uQ) [] ⟨kF 0 [cT i],[],0⟩)=(
 let q1:XV:=.row true 0 0 fun x=>.unk;
 let q2:List (Nat×XV):=[(10,.bool !bY i),(9,.bool (bY i)),(8,cT i),(2,q1),(1,.ptr 0 [] 0),(0,cT i)];
 let q3:List (Nat×Option XV):=[(0,some (cT i))];
 let q4:=decide ¬i.a=0;
 let q5:=cond (oG (aC i.op)) q4 false;
 let q6:=decide ¬i.b=0;
 let q7:=cond (hasB (aC i.op)) q6 false;
 let q8:XV:=.sl 2 [] 0 0 2 1;
 let q9:XV:=.row true 1 1 fun a=>.int .i64 i.b;
 let q10:XV:=.ptr 0 [3] 3;
 let q11:XV:=.sl 1 [] 0 0 1 1;
 let q12:XV:=.bool q7;
 let q13:XV:=.opt (hasB (aC i.op)) (.bool q6);
 let q14:XV:=.opt (hasB (aC i.op)) q10;
 let q15:XV:=.ptr 0 [2] 2;
 let q16:XV:=.tup [.bool (aLT (aC i.op)),.bool (oG (aC i.op)),.bool (hasB (aC i.op)),.bool (aDS (aC i.op))];
 let q17:List (Nat×XV):=(25,.bool q5)::(24,.opt (oG (aC i.op)) (.bool q4))::(23,.opt (oG (aC i.op)) (.int .i64 i.a))::(22,.opt (oG (aC i.op)) q15)::(21,
  .bool (oG (aC i.op)))::(20,.bool (oG (aC i.op)))::(7,q1)::(6,.bool (aDS (aC i.op)))::(5,.bool (hasB (aC i.op)))::(4,.bool (oG (aC i.op)))::(3,
  .bool (aLT (aC i.op)))::(19,.bool (aDS (aC i.op)))::(18,.bool (hasB (aC i.op)))::(17,.bool (oG (aC i.op)))::(16,.bool (aLT (aC i.op)))::(11,q16) ::
  (15,q16)::(14,.int .i64 (aC i.op))::(13,.int .i64 i.op)::(12,.ptr 0 [0] 0)::q2;
 let q18:List (Nat×XV):=(36,q12)::(35,q13)::(34,.opt (hasB (aC i.op)) (.int .i64 i.b))::(33,q14)::(32,.bool (hasB (aC i.op)))::(31,.bool (hasB (aC i.op)))
  :: (7,q11)::(30,q11)::(29,.row true 1 1 fun a=>.int .i64 i.a)::(28,.int .i64 i.a)::(27,q15)::(26,q1)::q17;
 let q19:List (Nat×XV):=(36,q12)::(35,q13)::(34,.opt (hasB (aC i.op)) (.int .i64 i.b))::(33,q14)::(32,.bool (hasB (aC i.op)))::(31,.bool (hasB (aC i.op)))
  :: q17;cond (!bY i) (eB q1 (XSt.mk ((2,q1)::q2) q3 1) r t) (cond (cond (oG (aC i.op)) (oG (aC i.op)) true) (cond q5 (cond (cond (hasB (aC i.op)) (hasB (aC i.op)) true) (cond q7 (eB q8 (XSt.mk ((2,q8)::(42,q8)::(7,q8)::(41,q8)::(40,q9)::(39,.int .i64 i.b)::(38,q10)::(37,q11)::q18)
  ((2,some (.tab 2 1 fun i_1=>.int .i64 (cond (decide (i_1<1)) i.a i.b)))::(1,none)::q3) 3) r t) (eB q11 (XSt.mk ((2,q11)::(42,q11)::q18) ((1,some (.tab
  1 1 fun a=>.int .i64 i.a))::q3) 2) r t)) False) (cond (cond (hasB (aC i.op)) (hasB (aC i.op)) true) (cond q7 (eB q11 (XSt.mk ((2,q11)::(42,q11) ::
  (7,q11)::(41,q11)::(40,q9)::(39,.int .i64 i.b)::(38,q10)::(37,q1)::q19) ((1,some (.tab 1 1 fun a=>.int .i64 i.b))::q3) 2) r t) (eB q1 (XSt.mk ((2,q1)
  :: (42,q1)::q19) q3 1) r t)) False)) False)):=by kernel_rfl
theorem bBS (c:Cell) (r:XV):(goQ zPr TP5 [(.tmp 2)] r (.run lT) [] ⟨kF 0 [dD c],[],0⟩)=(
 let q1:=decide (c.kind=1);
 let q2:=fun(s:Ins)=>aI [cT c.ins] [cT s];
 let q3:XV:=.row true 0 0 fun x=>.unk;
 let q4:List (Nat×XV):=[(2,q3)];
 let q5:List (Nat×Option XV):=[(0,some (dD c))];
 let q6:List Frm:=[Frm.blk 1,Frm.seq oJ];
 let q7:=∃(s:Ins),q2 s/\aN True/\∀(y:List Int),y=aY s->∃(s:Ins),q2 s/\aN True/\∀(y_1:Int),y_1=aWI s->cond (decide (y.length<=y.length)) (cond (decide (pl y.length 1*8<=140737488355328)) (bX (Ok zPr (Tab.q TP5)) eK (XSt.mk ((5,.int .i64 0)::(4,q3)::(3,.sl 2 [] 0 0 (pl y.length 1) 1)::q4)
  ((2,some (.tab (pl y.length 1) 1 fun i=>.int .i64 (cond (decide (i<y.length)) (ix y i) y_1)))::(1,none)::q5) 3) q6 (dC [AR.tmp 2] r)) False) False;
 let q8:=decide (c.kind=3);
 let q9:=bX (Ok zPr (Tab.q TP5)) eK (XSt.mk ((5,.int .i64 0)::(4,q3)::(3,.row true 1 1 fun a=>.int .i64 c.ins.a)::q4) q5 1) q6 (dC [AR.tmp 2]
  r);
 let q10:=decide (c.kind=5);
 let q11:=bX (Ok zPr (Tab.q TP5)) eK (XSt.mk ((5,.int .i64 0)::(4,q3)::(3,.row true 1 1 fun a=>.int .i64 c.reg)::q4) q5 1) q6 (dC [AR.tmp 2] r);
 let q12:=cond (decide (c.kind=9)) (∃(s:Ins),q2 s/\aN True/\∀(y:List Int),y=aY s->bX (Ok zPr (Tab.q TP5)) eK (XSt.mk ((5,.int .i64 0)
  :: (4,q3)::(3,.sl 1 [] 0 0 y.length 1)::q4) ((1,some (.tab y.length 1 fun i=>bJ (ix y i)))::q5) 2) q6 (dC [AR.tmp 2] r)) (bX (Ok zPr (Tab.q TP5)) eK
  (XSt.mk ((5,.int .i64 0)::(4,q3)::(3,q3)::q4) q5 1) q6 (dC [AR.tmp 2] r));
 let q13:=decide (c.kind=6);
 let q14:=cond (decide (c.kind=7)) (bX (Ok zPr (Tab.q TP5)) eK (XSt.mk ((5,.int .i64 0)::(4,q3)::(3,.row true 1 1 fun a=>.int .i64 c.ins.d)::q4)
  q5 1) q6 (dC [AR.tmp 2] r)) (cond q10 (cond q10 q11 q12) (cond q13 (cond q13 q11 q12) (cond (decide (c.kind=8)) q11 q12)));
 let q15:=cond q8 (cond q8 q9 q14) (cond (decide (c.kind=4)) q9 q14);cond q1 (cond q1 q7 q15) (cond (decide (c.kind=2)) q7 q15)):=by kernel_rfl
theorem bBT (l out:List Int) (i:Nat) (r:XV) (A:XSt->Prop):(goQ zPr TP5 [(.tmp 2)] r (.run eK) [.lp eK A,.blk 1,.seq oJ] (aPG l out i))=(
 let q1:=decide ((↑i:Int)<(↑(l.length):Int));
 let q2:=decide (ix l i>=1);
 let q3:=decide (out.length<=out.length);
 let q4:XV:=.int .i64 (IntKind.wrap .i64 ((↑i:Int)+1));
 let q5:List (Nat×XV):=[(3,aB 1 bJ l)];cond q1 (cond q1 (cond (cond q1 true (!q2)) (cond (cond q2 q2 true) (cond (cond q2 (decide (ix l i<=15)) false) (cond q1 (cond q3 (cond (decide (pl out.length 1*8<=140737488355328)) (A (XSt.mk ((5,q4)::(4,.sl 4 [] 0 0 (pl out.length 1) 1)::q5) [(4,some (.tab (pl
  out.length 1) 1 fun i_1=>.int .i64 (cond (decide (i_1<out.length)) (ix out i_1) (ix l i)))),(3,none)] 5)) False) False) False) (A (XSt.mk ((5,q4)::(4,.sl
  3 [] 0 0 out.length 1)::q5) [(3,some (.tab out.length 1 fun i=>bJ (ix out i)))] 4))) False) False) False) (cond q3 (aA (aB 1 bJ out) r) False))
  := by kernel_rfl
theorem bGC:bT zPr TP4:=bQ (gN.app dY) ⟨kC,aJ8,trivial⟩ trivial trivial trivial
theorem bGD:bT zPr TPm:=bQ dY ⟨kC,aRB,aJ8,trivial⟩ trivial trivial trivial
theorem bBU:eV zPr (109,bF7):=bB fun i _=>by show Pure _ _ (cons [cT i]) (con (.int .i64 (aWI i)));refine fF (u:=80) (k:=20) mix bGC ?_;refine Eq.mpr (bGA i _) ?_;unfold aWI;cases bY i<;>exact .rfl
theorem a0W:aYG zPr qq (79,bF8):=aLS (fun n y=>rfl) fun i _=>by
 refine a7L mix bGD aBN (Nat.le_of_ble_eq_true rfl) (rJ _ (dH.2 fun i _=>rfl)) rfl ?_;refine Eq.mpr (bGB i _ _) ?_;unfold aY;cases bY i with
 |false=>exact⟨.inr ⟨_,_,rfl,rfl,rfl⟩⟩
 |true =>
  by_cases ha:i.a=0
  ·by_cases hb:i.b=0
   ·cases oG (aC i.op)<;>cases hasB (aC i.op)<;>simp only[ha,hb,zaC,zaE,zaB,zaD,aD,zaF,zaO,zaQ,aS,bI,zaI,zaH,zaN,zaM,zaT,zaR,zaS,ge_iff_le,Int.le_refl,if_true,if_false,reduceCtorEq,eq_self,BEq.rfl,if_true,if_false,List.append_nil]<;>exact⟨.inr ⟨_,_,rfl,rfl,rfl⟩⟩
   ·cases oG (aC i.op)<;>cases hasB (aC i.op)<;>simp[ha,hb]<;>first|exact⟨.inr ⟨_,_,rfl,rfl,rfl⟩⟩|exact⟨.inl ⟨1,rfl,rfl⟩⟩
  ·by_cases hb:i.b=0
   ·cases oG (aC i.op)<;>cases hasB (aC i.op)<;>simp[ha,hb]<;>first|exact⟨.inr ⟨_,_,rfl,rfl,rfl⟩⟩|exact⟨.inl ⟨1,rfl,rfl⟩⟩
   ·cases oG (aC i.op)<;>cases hasB (aC i.op)<;>simp[ha,hb]<;>first|exact⟨.inr ⟨_,_,rfl,rfl,rfl⟩⟩|exact⟨.inl ⟨1,rfl,rfl⟩⟩|exact⟨.inl ⟨2,rfl,rfl⟩⟩
theorem a8C:bT zPr TP5:=bQ (gN.app dY) trivial trivial ⟨bBU,trivial⟩ ⟨a0W,trivial⟩
theorem aFO {α:Type} [Inhabited α] {l:List α} {i:Nat} (h:i<l.length):l.take (i+1)=l.take i++[ix l i]:=by rw[gW h];exact(List.take_append_getElem h).symm
theorem bBV {v:Int}:∀ i,i<1->con (.int .i64 v)=con (bJ (ix [v] i)):=fun i hi=>by
 obtain rfl:i=0:=by omega
 rfl
theorem aCX {l:List Int} (hl:l.length<=10) {e:List (Nat×XV)} {h:List (Nat×Option XV)} {n:Nat} (hk:aYT [(0,0),(1,1),(2,2),(3,4)] n=true) (hb:Nat.ble n 4=true) (hn:cJ n (XSt.st (XSt.mk e h n)) (aPG l [] 0).st):bX (Ok zPr (Tab.q TP5)) eK (XSt.mk e h n) [Frm.blk 1,Frm.seq oJ] (dC [AR.tmp 2] (aB 1 bJ (l.filter pA))):=by
 refine gT mix a8C (fun i:Nat=>aPG l ((l.take i).filter pA) i) (fun i=>i<=l.length) (fun i=>l.length-i) 0 (Nat.zero_le _) hn ?_;intro i hi;refine Eq.mpr (bBT l _ i _ _) ?_;by_cases hlt:i<l.length
 ·have h1:(i:Int)<(l.length:Int):=by omega
  have w1:IntKind.i64.wrap ((i:Int)+1)=((i+1:Nat):Int):=wrap_i64 (by omega) (by omega);have hs:((l.take i).filter pA).length<=10:=by have:=List.length_filter_le pA (l.take i);rw[List.length_take]at this;omega
  have st:(l.take (i+1)).filter pA=(l.take i).filter pA++(if pA (ix l i)then [ix l i]else []):=by rw[aFO hlt,List.filter_append];cases h:pA (ix l i)<;>simp[h]
  generalize (l.take i).filter pA=out at hs st;have b:(out.length+1)*8<=140737488355328:=by omega
  simp only[h1,w1,b,cC,aS,tD,zaC,zaE,zaB,zaD,aD,zaF,zaO,zaQ,aS,bI,zaI,zaH,zaN,zaM,zaT,zaR,zaS,ge_iff_le,Int.le_refl,if_true,if_false,reduceCtorEq,eq_self,BEq.rfl];have e:(decide (1<=ix l i)&&decide (ix l i<=15))=pA (ix l i):=by unfold pA;rw[Bool.decide_and]
  rw[e];refine kX (fun h => ?_) (fun h => ?_)
  ·rw[h]at st;refine⟨i+1,hlt, ?_,by omega⟩;rw[st];simp only[if_true];unfold aPG;rw[bD];exact rN [(0,0),(1,1),(2,2),(3,4)] hk rfl rfl hb rfl ⟨aH rfl rfl,.sl rfl,aH rfl rfl,trivial⟩ ⟨aOR (fun i hi=>by simp only[hi,zaC,zaB];rfl) (by simp;rfl) rfl,trivial⟩
  ·rw[h]at st;refine⟨i+1,hlt, ?_,by omega⟩;rw[st];simp only[zaU,if_false,List.append_nil];exact .of (dL ⟨rfl,rfl,rfl,trivial⟩ ⟨rfl,trivial⟩ (zaF _))
 ·have h1:¬(i:Int)<(l.length:Int):=by omega
  simp only[h1,zaC,zaE,zaB,zaD,aD,zaF,zaO,zaQ,aS,bI,zaI,zaH,zaN,zaM,zaT,zaR,zaS,ge_iff_le,Int.le_refl,if_true,if_false,reduceCtorEq,eq_self,BEq.rfl];have:i=l.length:=by omega
  subst this;rw[List.take_length];exact .rfl
theorem bBW:eV zPr (98,bF9):=bB fun c _=>by
 show Pure _ _ (cons [dD c]) (con (aB 1 bJ (tQ c)));refine j9 mix a8C z6 (Nat.le_of_ble_eq_true rfl) ?_;refine Eq.mpr (bBS c _) ?_;have one:∀ v:Int,cJ 1 (XSt.st (XSt.mk [(5,.int .i64 0),(4,.row true 0 0 fun x=>.unk),(3,.row true 1 1 fun a=>.int .i64 v),(2,.row true 0 0 fun x=>.unk)] [(0,some (dD c))] 1)) (aPG [v] [] 0).st:=fun v => rN [(0,0)] rfl rfl rfl rfl rfl ⟨aH rfl rfl,wW rfl,aHB rfl (.inl rfl) bBV,trivial⟩ ⟨⟨1,rfl⟩,trivial⟩
 have zero:cJ 1 (XSt.st (XSt.mk [(5,.int .i64 0),(4,.row true 0 0 fun x=>.unk),(3,.row true 0 0 fun x=>.unk),(2,.row true 0 0 fun x=>.unk)] [(0,some (dD c))] 1)) (aPG [] [] 0).st := rN [(0,0)] rfl rfl rfl rfl rfl ⟨aH rfl rfl,wW rfl,aHB rfl (.inr rfl) (fun i hi=>by omega),trivial⟩ ⟨⟨1,rfl⟩,trivial⟩;have two:∀ y:List Int,cJ 2 (XSt.st (XSt.mk [(5,.int .i64 0),(4,.row true 0 0 fun x=>.unk),(3,.sl 1 [] 0 0 y.length 1),(2,.row true 0 0 fun x=>.unk)] [(1,some (.tab y.length 1 fun i=>bJ (ix y i))),(0,some (dD c))] 2)) (aPG y [] 0).st:=fun y=>by
  refine cJ.trans (τ:=XSt.st (XSt.mk [(5,.int .i64 0),(4,.row true 0 0 fun x=>.unk),(3,aB 1 bJ y),(2,.row true 0 0 fun x=>.unk)] [(0,some (dD c))] 2)) ?_ ?_
  ·refine cJ.frz ?_;refine aB7 (L:=[1]) rfl ?_ ?_
   ·exact⟨rfl,.same,rfl,.same,rfl,mF rfl rfl,rfl,.same,trivial⟩
   ·exact⟨rfl,.same,trivial⟩
  ·exact rN [(0,0),(1,1)] rfl rfl rfl rfl rfl ⟨aH rfl rfl,wW rfl,aH rfl rfl,trivial⟩ ⟨⟨1,rfl⟩,trivial⟩
 have three:∀(y:List Int) (w:Int),cJ 3 (XSt.st (XSt.mk [(5,.int .i64 0),(4,.row true 0 0 fun x=>.unk),(3,.sl 2 [] 0 0 (y.length+1) 1),(2,.row true 0 0 fun x=>.unk)] [(2,some (.tab (y.length+1) 1 fun i=>.int .i64 (cond (decide (i<y.length)) (ix y i) w))),(1,none),(0,some (dD c))] 3)) (aPG (y++[w]) [] 0).st:=fun y w=>by
  refine cJ.trans (τ:=XSt.st (XSt.mk [(5,.int .i64 0),(4,.row true 0 0 fun x=>.unk),(3,.row false 1 (y.length+1) fun i=>.int .i64 (cond (decide (i<y.length)) (ix y i) w)),(2,.row true 0 0 fun x=>.unk)] [(0,some (dD c))] 3)) ?_ ?_
  ·refine cJ.frz ?_;refine aB7 (L:=[2]) rfl ?_ ?_
   ·exact⟨rfl,.same,rfl,.same,rfl,mF rfl rfl,rfl,.same,trivial⟩
   ·exact⟨rfl,.same,trivial⟩
  ·refine rN [(0,0),(1,1),(2,2)] rfl rfl rfl rfl rfl ⟨aH rfl rfl,wW rfl,aHB (bD y w).symm (.inl rfl) (fun i hi => ?_),trivial⟩ ⟨⟨1,rfl⟩,trivial⟩;by_cases h:i<y.length
   ·rw[fM h,decide_eq_true h];rfl
   ·obtain rfl:i=y.length:=by omega
    rw[fN,decide_eq_false h];rfl
 have h2:=(kK (i:=c.ins)).1;have L0:=aCX (l:=[]) (Nat.zero_le _) rfl rfl zero;have L1:=fun v:Int=>aCX (l:=[v]) (Nat.le_of_ble_eq_true rfl) rfl rfl (one v)
 have L2:=fun(y:List Int) (hy:y.length<=2)=>aCX (Nat.le_trans hy (Nat.le_of_ble_eq_true rfl)) rfl rfl (two y)
 have L3:=fun(y:List Int) (hy:y.length<=2) (w:Int)=>aCX (l:=y++[w]) (by rw[bD];omega) rfl rfl (three y w)
 unfold tQ;clear one zero two three;have D:∀ y:List Int,y.length<=2->decide ((y.length+1)*8<=140737488355328)=true:=fun y hy=>decide_eq_true (by omega)
 by_cases k1:c.kind=1
 ·simp only[k1,Int.reduceEq,true_or,zaC,zaE,zaB,zaD,aD,zaF,zaO,zaQ,aS,bI,zaI,zaH,zaN,zaM,zaT,zaR,zaS,ge_iff_le,Int.le_refl,if_true,if_false,reduceCtorEq,eq_self,BEq.rfl];refine⟨c.ins,.rfl,⟨trivial⟩, ?_⟩;rintro y rfl;refine⟨c.ins,.rfl,⟨trivial⟩, ?_⟩;rintro w rfl;simp only[cC,D _ h2,zaC,zaE,zaB,zaD,aD,zaF,zaO,zaQ,aS,bI,zaI,zaH,zaN,zaM,zaT,zaR,zaS,ge_iff_le,Int.le_refl,if_true,if_false,reduceCtorEq,eq_self,BEq.rfl];exact L3 _ h2 _
 by_cases k2:c.kind=2
 ·simp only[k2,Int.reduceEq,or_true,zaC,zaE,zaB,zaD,aD,zaF,zaO,zaQ,aS,bI,zaI,zaH,zaN,zaM,zaT,zaR,zaS,ge_iff_le,Int.le_refl,if_true,if_false,reduceCtorEq,eq_self,BEq.rfl];refine⟨c.ins,.rfl,⟨trivial⟩, ?_⟩;rintro y rfl;refine⟨c.ins,.rfl,⟨trivial⟩, ?_⟩;rintro w rfl;simp only[cC,D _ h2,zaC,zaE,zaB,zaD,aD,zaF,zaO,zaQ,aS,bI,zaI,zaH,zaN,zaM,zaT,zaR,zaS,ge_iff_le,Int.le_refl,if_true,if_false,reduceCtorEq,eq_self,BEq.rfl];exact L3 _ h2 _
 by_cases k3:c.kind=3
 ·simp only[k3,Int.reduceEq,or_false,true_or,zaC,zaE,zaB,zaD,aD,zaF,zaO,zaQ,aS,bI,zaI,zaH,zaN,zaM,zaT,zaR,zaS,ge_iff_le,Int.le_refl,if_true,if_false,reduceCtorEq,eq_self,BEq.rfl];exact L1 _
 by_cases k4:c.kind=4
 ·simp only[k4,Int.reduceEq,or_true,or_false,zaC,zaE,zaB,zaD,aD,zaF,zaO,zaQ,aS,bI,zaI,zaH,zaN,zaM,zaT,zaR,zaS,ge_iff_le,Int.le_refl,if_true,if_false,reduceCtorEq,eq_self,BEq.rfl];exact L1 _
 by_cases k5:c.kind=5
 ·simp only[k5,Int.reduceEq,true_or,or_false,zaC,zaE,zaB,zaD,aD,zaF,zaO,zaQ,aS,bI,zaI,zaH,zaN,zaM,zaT,zaR,zaS,ge_iff_le,Int.le_refl,if_true,if_false,reduceCtorEq,eq_self,BEq.rfl];exact L1 _
 by_cases k6:c.kind=6
 ·simp only[k6,Int.reduceEq,true_or,or_true,or_false,zaC,zaE,zaB,zaD,aD,zaF,zaO,zaQ,aS,bI,zaI,zaH,zaN,zaM,zaT,zaR,zaS,ge_iff_le,Int.le_refl,if_true,if_false,reduceCtorEq,eq_self,BEq.rfl];exact L1 _
 by_cases k7:c.kind=7
 ·simp only[k7,Int.reduceEq,or_false,zaC,zaE,zaB,zaD,aD,zaF,zaO,zaQ,aS,bI,zaI,zaH,zaN,zaM,zaT,zaR,zaS,ge_iff_le,Int.le_refl,if_true,if_false,reduceCtorEq,eq_self,BEq.rfl];exact L1 _
 by_cases k8:c.kind=8
 ·simp only[k8,Int.reduceEq,or_true,or_false,zaC,zaE,zaB,zaD,aD,zaF,zaO,zaQ,aS,bI,zaI,zaH,zaN,zaM,zaT,zaR,zaS,ge_iff_le,Int.le_refl,if_true,if_false,reduceCtorEq,eq_self,BEq.rfl];exact L1 _
 by_cases k9:c.kind=9
 ·simp only[k9,Int.reduceEq,or_false,zaC,zaE,zaB,zaD,aD,zaF,zaO,zaQ,aS,bI,zaI,zaH,zaN,zaM,zaT,zaR,zaS,ge_iff_le,Int.le_refl,if_true,if_false,reduceCtorEq,eq_self,BEq.rfl];refine⟨c.ins,.rfl,⟨trivial⟩, ?_⟩;rintro y rfl;exact L2 _ h2
 simp only[k1,k2,k3,k4,k5,k6,k7,k8,k9,or_false,zaC,zaE,zaB,zaD,aD,zaF,zaO,zaQ,aS,bI,zaI,zaH,zaN,zaM,zaT,zaR,zaS,ge_iff_le,Int.le_refl,if_true,if_false,reduceCtorEq,eq_self,BEq.rfl];exact L0
def TP6:Tab:=fW qq (jB++fX) [] [] [(98,bF9)] []
def pX (d:cE) (c:Cell) (n:Int):Bool:=(tQ c).all fun r => !(decide (d.ready r.toNat<0)||decide (d.ready r.toNat>n))
def bBX:List XV->Option ((XV->Prop)->Prop):=eZ (fun q:cE×Cell×Int=>[aR q.1,dD q.2.1,.int .i64 q.2.2]) (fun _=>True) (fun q=>pX q.1 q.2.1 q.2.2) (fun y=>.bool y)
def a8D (d:cE) (l:List Int) (c:Int) (i:Nat):XSt:=⟨[(8,.int .i64 i),(7,aB 1 bJ l),(3,.ptr 0 [] 0),(2,.int .i64 c)],[(0,some (aR d))],2⟩
def aZ (x:Stt) (n:Int):Bool:=decide (¬x.aT.kind=0)&&decide (n>=x.aT.step)
def a57:List XV->Option ((XV->Prop)->Prop):=eZ (fun q:Stt×Int=>[aP q.1,.int .i64 q.2]) (fun _=>True) (fun q=>aZ q.1 q.2) (fun y=>.bool y)
def aCY (s:Split) (n:Int):Int:=if n<0\/n>=s.blocks.length then 0 else(ix s.blocks n.toNat).dst
def endS':List XV->Option ((XV->Prop)->Prop):=eZ (fun q:Split×Int=>[aG q.1,.int .i64 q.2]) (fun _=>True) (fun q=>aCY q.1 q.2) (fun y=>.int .i64 y)
def iU (d:cE) (n:Int):Int:=if n<1\/n>15 then 0 else d.bC n.toNat
def bBY:List XV->Option ((XV->Prop)->Prop):=eZ (fun q:cE×Int=>[aR q.1,.int .i64 q.2]) (fun _=>True) (fun q=>iU q.1 q.2) (fun y=>.int .u32 y)
def u9 (c:Cfg) (op:Int):Int:=if op=11\/op=12 then(if c.mul<1\/c.mul>50 then 1 else c.mul)else if 13<=op/\op<=16 then(if c.div<1\/c.div>50 then 1 else c.div)else 1
def bBZ:List XV->Option ((XV->Prop)->Prop):=eZ (fun q:Cfg×Int=>[aV q.1,.int .i64 q.2]) (fun _=>True) (fun q=>u9 q.1 q.2) (fun y=>.int .i64 y)
def TP7:Tab:=fW qq (jB++eU) [] jA [] []
def cF (x:Stt) (k st pc:Int):Stt:=if x.aT.kind=0\/x.aT.step>st then { x with aT:=⟨k,st,pc⟩ } else x
def bB0:List XV->Option ((XV->Prop)->Prop):=eZ (fun q:Stt×Int×Int×Int=>[aP q.1,.int .i64 q.2.1,.int .i64 q.2.2.1,.int .i64 q.2.2.2]) (fun q=>q.1.ok) (fun q=>cF q.1 q.2.1 q.2.2.1 q.2.2.2) (fun y=>aP y)
theorem bB1 (d:cE) (c:Cell) (n:Int) (r:XV):(goQ zPr TP6 [(.tmp 6)] r (.run nW) [] ⟨kF 0 [aR d,dD c,.int .i64 n],[],0⟩)=(∃(s:Cell),aI [dD c] [dD s]/\aN True/\∀(y:List Int),y=tQ s->bX (Ok zPr (Tab.q TP6)) pO (XSt.mk [(8,.int .i64 0),(7,aB 1 bJ
 y),(6,.bool false),(3,.ptr 0 [] 0),(2,.int .i64 n)] [(1,some (dD c)),(0,some (aR d))] 2) [Frm.blk 0,Frm.seq vZ] (dC [AR.tmp 6] r)):=by kernel_rfl
theorem bGE (x:Stt) (n:Int) (r:XV):(aO TP6 80 (bL TP6 80 20) 55 [aP x,.int .i64 n] (fun v=>aA v r))=(
 let q1:=decide ¬x.aT.kind=0;cond (cond q1 q1 true) (aA (.bool (cond q1 (decide (n>=x.aT.step)) false)) r) False):=by kernel_rfl
theorem bB2 (s:Split) (n:Int) (r:XV):(aO TP6 80 (bL TP6 80 20) 59 [aG s,.int .i64 n] (fun v=>aA v r))=(
 let q1:=decide (n<0);cond (cond q1 true (!q1)) (cond (cond q1 true (decide (n>=(↑(s.blocks.length):Int)))) (aA (.int .i64 0) r) (cond (decide (0<=n)) (cond (decide (n<(↑(s.blocks.length):Int))) (aA (.int .i64 (Block.dst (ix s.blocks (Int.toNat n)))) r) False) False)) False):=by kernel_rfl
theorem bGF (d:cE) (n:Int) (r:XV):(aO TP6 80 (bL TP6 80 20) 62 [aR d,.int .i64 n] (fun v=>aA v r))=(
 let q1:=decide (n<1);
 let q2:=Int.toNat n*1;cond (cond q1 true (!q1)) (cond (cond q1 true (decide (n>15))) (aA (.int .u32 0) r) (cond (decide (0<=n)) (cond (decide (n<16)) (cond (Nat.beq q2 q2) (cond (decide (Int.toNat n<16)) (aA (.int .u32 (d.bC (Int.toNat n))) r) False) False) False) False)) False):=by kernel_rfl
theorem bGG (c:Cfg) (n:Int) (r:XV):(aO TP6 80 (bL TP6 80 20) 64 [aV c,.int .i64 n] (fun v=>aA v r))=(
 let q1:=decide (n=11);
 let q2:=decide (c.mul<1);
 let q3:=decide (n>=13);
 let q4:=decide (c.div<1);cond (cond q1 true (!q1)) (cond (cond q1 true (decide (n=12))) (cond (cond q2 true (!q2)) (cond (cond q2 true (decide (c.mul
  > 50))) (aA (.int .i64 1) r) (aA (.int .i64 c.mul) r)) False) (cond (cond q3 q3 true) (cond (cond q3 (decide (n<=16)) false) (cond (cond q4 true (!q4)) (cond (cond q4 true (decide (c.div>50))) (aA (.int .i64 1) r) (aA (.int .i64 c.div) r)) False) (aA (.int .i64 1) r)) False)) False) :=
 by kernel_rfl
theorem bGH (x:Stt) (k st pc:Int) (r:XV):(aO TP7 80 (bL TP7 80 20) 58 [aP x,.int .i64 k,.int .i64 st,.int .i64 pc] (fun v=>aA v r))=(
 let q1:=x.ldq.length*16;
 let q2:=decide (x.aT.kind=0);
 let q3:=decide (x.ldq.length<=x.ldq.length);
 let q4:=decide (x.sdq.length<=x.sdq.length);
 let q5:=decide (x.aeq.length<=x.aeq.length);
 let q6:=decide (x.abq.length<=x.abq.length);
 let q7:=decide (x.ebq.length<=x.ebq.length);
 let q8:=decide (x.saq.length<=x.saq.length);
 let q9:=decide (x.table.length<=x.table.length);
 let q10:=decide (x.mem.length<=x.mem.length);
 let q11:=decide (x.writes.length<=x.writes.length);cond (decide (q1<=140737488355328)) (cond (gP (fun i=>true) x.ldq.length) (cond (decide (x.sdq.length*4<=140737488355328)) (cond (decide (x.aeq.length*4<=140737488355328)) (cond (decide (x.abq.length*1<=140737488355328)) (cond (decide (x.ebq.length*1<=140737488355328)) (cond (decide (x.saq.length
  * 32<=140737488355328)) (cond (decide (x.table.length*64<=140737488355328)) (cond (decide (x.mem.length*1<=140737488355328)) (cond (decide (x.writes.length*24<=140737488355328)) (cond (cond q2 true (!q2)) (cond (cond q2 true (decide (x.aT.step>st))) (cond q3 (cond q4 (cond q5 (cond q6 (cond q7 (cond q8 (cond q9 (cond q10 (cond q11 (aA (.agg 92 [.int .i64 x.aE,aR x.a,aR x.e,aB 3 cO x.ldq,aB 1 dA x.sdq,aB 1 dA x.aeq,aB 1 cL x.abq,aB 1 cL
  x.ebq,aB 5 cB x.saq,aB 8 dS x.table,aB 1 eP x.mem,aB 3 mQ x.writes,.agg 3 [.int .i64 k,.int .i64 st,.int .i64 pc],.int .i64 x.dR,.int .i64 x.cG,
  .int .i64 x.tags]) r) False) False) False) False) False) False) False) False) False) (cond q3 (cond q4 (cond q5 (cond q6 (cond q7 (cond q8 (cond q9 (cond q10 (cond q11 (aA (aP x) r) False) False) False) False) False) False) False) False) False)) False) False) False) False) False) False) False) False) False) False) False):=by kernel_rfl
theorem bB3 (d:cE) (l:List Int) (n:Int) (i:Nat) (r:XV) (A:XSt->Prop):(goQ zPr TP6 [(.tmp 6)] r (.run pO) [.lp pO A,.blk 0,.seq vZ] (a8D d l n i))=(
 let q1:=decide ((↑i:Int)<(↑(l.length):Int));
 let q2:=decide (0<=ix l i);
 let q3:=decide (ix l i<16);
 let q4:=pl 16 (Int.toNat (ix l i)*1);
 let q5:=Nat.beq q4 q4;
 let q6:=decide (Int.toNat (ix l i)<16);
 let q7:=d.ready (Int.toNat (ix l (Int.toNat (↑i:Int))));
 let q8:=decide (d.ready (Int.toNat (ix l i))<0);
 let q9:=!q8;
 let q10:=!q9;cond q1 (cond q1 (cond q2 (cond q3 (cond q5 (cond q6 (cond (cond q1 true q10) (cond (cond q2 true q10) (cond (cond q3 true q10) (cond (cond q5 true q10) (cond (cond q6 true q10) (cond (cond q8 true q9) (cond (cond q8 true (decide (d.ready (Int.toNat (ix l i))>n))) (aA (.bool false) r) (A (XSt.mk [(8,.int .i64 (IntKind.wrap .i64 ((↑i:Int)+1))),(7,aB 1 bJ l),(3,.ptr 0 [] 0),(2,.int .i64 n)] [(0,some (aR d))] 2))) False) False) False) False) False) False) False) False) False) False) False) (aA (.bool true) r)):=by kernel_rfl
theorem aKH:bT zPr TP6:=bQ (gN.app dY) trivial trivial ⟨bBW,trivial⟩ trivial
theorem bGI:bT zPr TP7:=bQ (gN.app dF) trivial gM trivial trivial
theorem aRT:eV zPr (55,a57):=bB fun⟨x,n⟩ _=>by show Pure _ _ (cons [aP x,.int .i64 n]) (con (.bool (aZ x n)));refine fF (u:=80) (k:=20) mix aKH ?_;rw[bGE];simp only[aS,zaB];simp only[tD];exact .rfl
theorem aT4:eV zPr (59,endS'):=bB fun⟨s,b⟩ _=>by
 show Pure _ _ (cons [aG s,.int .i64 b]) (con (.int .i64 (aCY s b)));refine fF (u:=80) (k:=20) mix aKH ?_;refine Eq.mpr (bB2 s b _) ?_;unfold aCY;by_cases h:b<0\/b>=s.blocks.length
 ·rw[if_pos h];rcases h with h|h
  ·simp only[h,zaC,zaE,zaB,zaD,aD,zaF,zaO,zaQ,aS,bI,zaI,zaH,zaN,zaM,zaT,zaR,zaS,ge_iff_le,Int.le_refl,if_true,if_false,reduceCtorEq,eq_self,BEq.rfl];exact .rfl
  ·simp only[show ¬b<0 by omega,h,zaC,zaE,zaB,zaD,aD,zaF,zaO,zaQ,aS,bI,zaI,zaH,zaN,zaM,zaT,zaR,zaS,ge_iff_le,Int.le_refl,if_true,if_false,reduceCtorEq,eq_self,BEq.rfl];exact .rfl
 ·rw[if_neg h];have h1:¬b<0:=by omega
  have h2:0<=b:=by omega
  have h3:b<s.blocks.length:=by omega
  have h4:¬(s.blocks.length:Int)<=b:=by omega
  simp only[h1,h2,h3,h4,zaC,zaE,zaB,zaD,aD,zaF,zaO,zaQ,aS,bI,zaI,zaH,zaN,zaM,zaT,zaR,zaS,ge_iff_le,Int.le_refl,if_true,if_false,reduceCtorEq,eq_self,BEq.rfl];exact .rfl
theorem a0X:eV zPr (62,bBY):=bB fun⟨d,n⟩ _=>by
 show Pure _ _ (cons [aR d,.int .i64 n]) (con (.int .u32 (iU d n)));refine fF (u:=80) (k:=20) mix aKH ?_;refine Eq.mpr (bGF d n _) ?_;unfold iU;by_cases h:n<1\/n>15
 ·rw[if_pos h];rcases h with h|h
  ·simp only[h,zaC,zaE,zaB,zaD,aD,zaF,zaO,zaQ,aS,bI,zaI,zaH,zaN,zaM,zaT,zaR,zaS,ge_iff_le,Int.le_refl,if_true,if_false,reduceCtorEq,eq_self,BEq.rfl];exact .rfl
  ·have h':¬n<1:=by omega
   simp only[h',h,zaC,zaE,zaB,zaD,aD,zaF,zaO,zaQ,aS,bI,zaI,zaH,zaN,zaM,zaT,zaR,zaS,ge_iff_le,Int.le_refl,if_true,if_false,reduceCtorEq,eq_self,BEq.rfl];exact .rfl
 ·rw[if_neg h];have h1:¬n<1:=by omega
  have h2:0<=n:=by omega
  have h3:n<16:=by omega
  have h4:¬n>15:=by omega
  have h5:n.toNat<16:=by omega
  simp only[h1,h2,h3,h4,h5,zaC,zaE,zaB,zaD,aD,zaF,zaO,zaQ,aS,bI,zaI,zaH,zaN,zaM,zaT,zaR,zaS,ge_iff_le,Int.le_refl,if_true,if_false,reduceCtorEq,eq_self,BEq.rfl];exact .rfl
theorem a0Y:eV zPr (64,bBZ):=bB fun⟨c,n⟩ _=>by
 show Pure _ _ (cons [aV c,.int .i64 n]) (con (.int .i64 (u9 c n)));refine fF (u:=80) (k:=20) mix aKH ?_;refine Eq.mpr (bGG c n _) ?_;unfold u9;simp only[bI,aS,zaB];simp only[bor,tD];refine kX (fun h => ?_) (fun h => ?_)
 ·have h':n=11\/n=12:=by simpa using h
  rw[if_pos h'];refine kX (fun h => ?_) (fun h => ?_)
  ·rw[if_pos (by simpa using h)];exact .rfl
  ·rw[if_neg (by simpa using h)];exact .rfl
 ·have h':¬(n=11\/n=12):=by simpa using h
  rw[if_neg h'];refine kX (fun h => ?_) (fun h => ?_)
  ·rw[if_pos (by simpa using h)];refine kX (fun h => ?_) (fun h => ?_)
   ·rw[if_pos (by simpa using h)];exact .rfl
   ·rw[if_neg (by simpa using h)];exact .rfl
  ·rw[if_neg (by simpa using h)];exact .rfl
theorem a0Z:eV zPr (58,bB0):=bB fun⟨x,k,st,pc⟩ h=>by
 have h:x.ok:=h;show Pure _ _ (cons [aP x,.int .i64 k,.int .i64 st,.int .i64 pc]) (con (aP (cF x k st pc)));refine fF (u:=80) (k:=20) mix bGI ?_;refine Eq.mpr (bGH x k st pc _) ?_;obtain⟨b1,b2,b3,b4,b5,b6,b7,b8,b9⟩:=aZ9 h;simp only[b1,b2,b3,b4,b5,b6,b7,b8,b9,aD,zaF,cC,zaC,zaB,bI];simp only[bor];unfold cF;refine kX (fun h => ?_) (fun h => ?_)
 ·rw[if_pos (by simpa using h)];exact .rfl
 ·rw[if_neg (by simpa using h)];exact .rfl
theorem a00:eV zPr (61,bBX):=bB fun⟨d,c,n⟩ _=>by
 show Pure _ _ (cons [aR d,dD c,.int .i64 n]) (con (.bool (pX d c n)));refine j9 mix aKH aCN (Nat.le_of_ble_eq_true rfl) ?_;refine Eq.mpr (bB1 d c n _) ?_;refine⟨c,.rfl,⟨trivial⟩, ?_⟩;rintro l rfl;have hr:∀ r∈tQ c,1<=r/\r<=15:=fun r hr=>by have:=(List.mem_filter.1 hr).2;simpa [pA]using this
 have hl:(tQ c).length<=1000:=by
  refine Nat.le_trans (List.length_filter_le _ _) ?_;have:=(kK (i:=c.ins)).1
  repeat' split
  all_goals simp<;>omega
 unfold pX;generalize tQ c=l at hr hl;refine gT mix aKH (fun i:Nat=>a8D d l n i) (fun i=>i<=l.length/\∀ j,j<i->(decide (d.ready (ix l j).toNat<0)||decide (d.ready (ix l j).toNat>n))=false) (fun i=>l.length-i) 0 ⟨Nat.zero_le _,fun j hj=>by omega⟩ (.of (dL ⟨rfl,rfl,rfl,rfl,trivial⟩ ⟨rfl,trivial⟩ (zaF _))) ?_;rintro i ⟨hi,hp⟩;refine Eq.mpr (bB3 d l n i _ _) ?_;by_cases hlt:i<l.length
 ·have h1:(i:Int)<(l.length:Int):=by omega
  have w1:IntKind.i64.wrap ((i:Int)+1)=((i+1:Nat):Int):=wrap_i64 (by omega) (by omega);have h2:=hr _ (cA hlt);have h3:0<=ix l i:=by omega
  have h4:ix l i<16:=by omega
  have h5:(ix l i).toNat<16:=by omega
  simp only[h1,w1,h3,h4,h5,zaC,zaE,zaB,zaD,aD,zaF,zaO,zaQ,aS,bI,zaI,zaH,zaN,zaM,zaT,zaR,zaS,ge_iff_le,Int.le_refl,if_true,if_false,reduceCtorEq,eq_self,BEq.rfl];simp only[bor];refine kX (fun h => ?_) (fun h => ?_)
  ·have e:(l.all fun r => !(decide (d.ready r.toNat<0)||decide (d.ready r.toNat>n)))=false:=by
    rw[<-Bool.not_eq_true,List.all_eq_true];intro ha;have:=ha _ (cA hlt);rw[h]at this;cases this
   rw[e];exact .rfl
  ·refine⟨i+1,⟨hlt,fun j hj => ?_⟩,.of (dL ⟨rfl,rfl,rfl,rfl,trivial⟩ ⟨rfl,trivial⟩ (zaF _)),by omega⟩;by_cases hji:j=i
   ·subst hji;exact h
   ·exact hp j (by omega)
 ·have h1:¬(i:Int)<(l.length:Int):=by omega
  simp only[h1,zaC,zaE,zaB,zaD,aD,zaF,zaO,zaQ,aS,bI,zaI,zaH,zaN,zaM,zaT,zaR,zaS,ge_iff_le,Int.le_refl,if_true,if_false,reduceCtorEq,eq_self,BEq.rfl];have e:(l.all fun r => !(decide (d.ready r.toNat<0)||decide (d.ready r.toNat>n)))=true:=by rw[List.all_eq_true];intro x hx;obtain⟨j,hj,rfl⟩:=List.mem_iff_getElem.1 hx;have:=hp j (by omega);rw[gW hj]at this;rw[this];rfl
  rw[e];exact .rfl
theorem aWJ {l:List Int} (hs:l.Pairwise (· < ·)) {i j:Nat} (hi:i<l.length) (hj:j<l.length) (h:ix l i<ix l j):i<j:=by
 rcases Nat.lt_trichotomy i j with h1|h1|h1
 ·exact h1
 ·subst h1;omega
 ·have:=aOW hs h1 hi;omega
theorem aT5 {l:List Int} (hs:l.Pairwise (· < ·)) {i:Nat} (hi:i<l.length):findF l (ix l i)=i:=by
 unfold findF;refine tC hi (by simp) fun j hj => ?_
 have:=aOW hs hj hi;simp only[zaP];omega
theorem a58 {l:List Int} {x:Int} (hx:x∉l):findF l x = -1:=by
 unfold findF;refine yR fun j hj => ?_
 simp only[zaP];intro h;exact hx (h ▸ cA hj)
theorem vB {α:Type} [Inhabited α] {l:List α} {x:α} (h:x∈l):∃ i,i<l.length/\ix l i=x:=by obtain⟨i,hi,rfl⟩:=List.mem_iff_getElem.1 h;exact⟨i,hi,gW hi⟩
section
variable {p:Prog} (hr:aL p=true)
include hr
theorem lN:1<=p.code.length/\p.code.length<=2000:=by simp only[aL,zaG,zaK]at hr;exact⟨hr.1.1,hr.1.2.1⟩
theorem aHY {x:Int}:x∈aM p↔∃ j:Nat,j<p.code.length/\mM p p.code.length j=true/\(j:Int)=x:=by
 unfold aM rT;rw[if_pos hr,List.mem_map];constructor
 ·rintro ⟨j,hj,rfl⟩;obtain⟨h1,h2⟩:=List.mem_filter.1 hj;exact⟨j,List.mem_range.1 h1,h2,rfl⟩
 ·rintro ⟨j,h1,h2,rfl⟩;exact⟨j,List.mem_filter.2 ⟨List.mem_range.2 h1,h2⟩,rfl⟩
theorem aKI:(0:Int)∈aM p:=(aHY hr).2 ⟨0,(lN hr).1,by unfold mM;simp,rfl⟩
theorem a01 {i:Nat} (hi:i<p.code.length) (h:0<=bV p i):bV p i∈aM p:=by have h1:=aRG h;refine(aHY hr).2 ⟨(bV p i).toNat,by omega, ?_,by omega⟩;unfold mM;rw[zaV,List.any_eq_true];refine .inr ⟨i,List.mem_range.2 hi, ?_⟩;rw[zaV,zaK];exact .inl (by omega)
theorem a02 {i:Nat} (hi:i+1<p.code.length) (h:gG (ix p.code i)=true):((i+1:Nat):Int)∈aM p:=by refine(aHY hr).2 ⟨i+1,hi, ?_,rfl⟩;unfold mM;rw[zaV,List.any_eq_true];refine .inr ⟨i,List.mem_range.2 (by omega), ?_⟩;simp[h,hi]
end
def cW (p:Prog) (b:Nat):Nat:=(ix (aM p) b).toNat
def dM (p:Prog) (b:Nat):Nat:=(cU p (aM p) b).toNat
def nbN (p:Prog):Nat:=(aM p).length
theorem vC {p:Prog} {b:Nat} (h:b<nbN p):ix (aM p) b=(cW p b:Int):=by have:=(mB (p:=p)).1 _ (cA h);unfold cW;omega
theorem vD {p:Prog} {b:Nat} (h:b<nbN p):cU p (aM p) b=(dM p b:Int):=by have:=xD h;unfold dM;omega
theorem eO {p:Prog} {b:Nat} (h:b<nbN p):cW p b<dM p b/\dM p b<=p.code.length:=by have h1:=xD h;rw[vC h,vD h]at h1;omega
theorem aPH {p:Prog} {b:Nat} (h:b+1<nbN p):dM p b=cW p (b+1):=by have h1:=vD (show b<nbN p by omega);unfold cU at h1;rw[if_pos (show b+1<(aM p).length from h),vC h]at h1;omega
theorem aPI {p:Prog} {b:Nat} (h:b+1=nbN p):dM p b=p.code.length:=by have h1:=vD (show b<nbN p by omega);unfold cU at h1;rw[if_neg (by unfold nbN at h;omega)]at h1;omega
section
variable {p:Prog} (hr:aL p=true)
include hr
theorem a03:0<nbN p:=List.length_pos_of_mem (aKI hr)
theorem a04:cW p 0=0:=by
 have h0:=a03 hr;obtain⟨k,hk,he⟩:=vB (aKI hr);have h1:=vC h0;rcases Nat.eq_zero_or_pos k with rfl|hp
 ·omega
 ·have:=aOW (mB (p:=p)).2.1 hp hk;omega
theorem bB4 {b:Nat} {x:Int} (hb:b<nbN p) (hx:x∈aM p) (h1:(cW p b:Int)<x):(dM p b:Int)<=x:=by
 have _:=hr;obtain⟨k,hk,rfl⟩:=vB hx;rw[<-vC hb]at h1;have h2:=aWJ (mB (p:=p)).2.1 hb hk h1;have h3:b+1<nbN p:=Nat.lt_of_le_of_lt h2 hk;rw[aPH h3,<-vC h3];rcases Nat.lt_or_ge (b+1) k with h|h
 ·exact Int.le_of_lt (aOW (mB (p:=p)).2.1 h hk)
 ·obtain rfl:k=b+1:=by omega
  exact Int.le_refl _
theorem a05 {b i:Nat} (hb:b<nbN p) (h1:cW p b<=i) (h2:i+1<dM p b):gG (ix p.code i)=false:=by
 have:=eO hb;cases h:gG (ix p.code i)with
 |false=>rfl
 |true => have:=bB4 hr hb (a02 hr (by omega) h) (by omega);omega
theorem aT6 {b:Nat} (hb:b<nbN p) (h1:¬(ix p.code (dM p b-1)).op=40) (h2:¬(ix p.code (dM p b-1)).op=41):vS p (aM p) b=if b+1<nbN p then((b+1:Nat):Int)else -1:=by
 have _:=hr;unfold vS;have e:(cU p (aM p) b-1).toNat=dM p b-1:=by rw[vD hb];omega
 rw[e,if_pos ⟨h1,h2⟩];split
 ·rename_i h;have:cU p (aM p) b=ix (aM p) (b+1):=by unfold cU;rw[if_pos (show b+1<(aM p).length from h)]
  rw[this,aT5 (mB (p:=p)).2.1 h]
 ·rename_i h;refine a58 fun hx => ?_
  have h3:=(mB (p:=p)).1 _ hx;rw[vD hb,aPI (by omega)]at h3;omega
theorem bB5 {b:Nat} (hb:b<nbN p) (h:0<=bV p (dM p b-1)):∃ t,t<nbN p/\rU p (aM p) b=(t:Int)/\(cW p t:Int)=bV p (dM p b-1):=by
 have h0:=eO hb;obtain⟨t,ht,he⟩:=vB (a01 hr (by omega) h);have ht:t<nbN p:=ht;refine⟨t,ht, ?_, ?_⟩
 ·unfold rU;have e:(cU p (aM p) b-1).toNat=dM p b-1:=by rw[vD hb];omega
  rw[e,if_pos h,<-he,aT5 (mB (p:=p)).2.1 ht]
 ·rw[<-vC ht];exact he
theorem aKJ {i:Nat} (hi:i<p.code.length) (hf:aC (ix p.code i).op=6\/aC (ix p.code i).op=7):0<=bV p i:=by simp only[aL,zaG]at hr;have:=dH.1 hr.2.2 i hi;simp only[aEX,Bool.not_eq_true',zaW,Bool.or_eq_false_iff,zaP]at this;omega
end
theorem a06 {p:Prog}:(xC p).length=nbN p:=aB4
theorem a59 {p:Prog} {l:List Int} {k b:Nat} (h:b<k):ix (rE p l k) b=tG p l b:=by unfold rE;rw[nI (by simpa using h)];congr 1;rw[gW (by simpa using h)];simp
structure Spl (p:Prog) (o:Nat->Int) (s:Split):Prop where
 cl:eJ p o=true
 eq:s=⟨(xC p).map (aTH p o),o⟩
theorem bB6 {p:Prog} {o:Nat->Int} (h:eJ p o=true):Spl p o (pV p o).1:=⟨h,by unfold pV;rw[if_pos h]⟩
section
variable {p:Prog} {o:Nat->Int} {s:Split} (hs:Spl p o s)
include hs
theorem Spl.rp:aL p=true:=by have:=hs.cl;simp only[eJ,zaG]at this;exact this.1
theorem Spl.nb:s.blocks.length=nbN p:=by rw[hs.eq];simp[a06]
theorem Spl.blk {b:Nat} (hb:b<nbN p):ix s.blocks b=⟨(cW p b:Int),(dM p b:Int),vS p (aM p) b,rU p (aM p) b,emA p o (tG p (aM p) b) (dM p b-cW p b),emE p o (tG p (aM p) b) (dM p b-cW p b)⟩:=by
 rw[hs.eq];show ix ((xC p).map (aTH p o)) b=_;rw[nI (by rw[a06];exact hb)];unfold xC;rw[a59 (show b<(aM p).length from hb)];have h1:=vC hb;have h2:=vD hb;have e:zE (tG p (aM p) b)=dM p b-cW p b:=by show(cU p (aM p) b-ix (aM p) b).toNat=_;rw[h1,h2];omega
 show Block.mk (ix (aM p) b) (cU p (aM p) b) _ _ _ _=_;rw[e,h1,h2];rfl
end
def jN (f:Int) (c:Cell):Cell:={ c with off:=f }
theorem aPJ (i:Ins) (o:Nat->Int) (pc off:Int):(jD i o pc off).1=(jD i o pc 0).1.map (jN off)/\(jD i o pc off).2=(jD i o pc 0).2.map (jN off):=by
 unfold jD
 repeat' split
 all_goals simp[jN,cI,cR,cP,Function.comp_def]
def cel (p:Prog) (o:Nat->Int) (e:Bool) (i:Nat):List Cell:=if e then(jD (ix p.code i) o i 0).2 else(jD (ix p.code i) o i 0).1
def kin (p:Prog) (o:Nat->Int) (e:Bool) (i:Nat):List Int:=(cel p o e i).map Cell.kind
def Shp (f:Int) (m:Nat) (tA tE:List Int):Prop :=
 ((1<=f/\f<=3)/\tA=[1]/\tE=[]/\m=0)\/((1<=f/\f<=3)/\tA=[]/\tE=[1])\/(f=4/\tA=[3]/\tE=[7]/\m=0)\/(f=4/\tA=[2]/\tE=[]/\m=0)\/(f=5/\tA=[4]/\tE=[8]) \/
 (f=6/\tA=[9]/\tE=[10]/\m=0)\/(f=6/\tA=[10]/\tE=[9])\/(f=7/\tA=[11]/\tE=[11]/\m=0)\/(f=8/\tA=[12]/\tE=[12]/\m=0)
theorem aCZ (l:List Int) (pc off k:Int):(l.map (cR k pc off)).map Cell.kind=List.replicate l.length k:=by rw[List.map_map];exact List.map_eq_replicate_iff.2 fun x _=>rfl
theorem aC0 (op:Int):0<=aC op/\aC op<=8:=by
 unfold aC
 repeat' split
 all_goals omega
theorem shape {p:Prog} {o:Nat->Int} (hr:aL p=true) {i:Nat} (hi:i<p.code.length):∃ m tA tE,kin p o false i=List.replicate m 5++tA/\kin p o true i=List.replicate m 6++tE/\Shp (aC (ix p.code i).op) m tA tE:=by
 have h1:=mN hr hi;have h2:¬aC (ix p.code i).op=0:=by have h1:=h1;simp only[bY,zaG,zaK]at h1;exact h1.1
 have h3:=aC0 (ix p.code i).op;unfold kin cel;simp only[zaU,if_false,if_true];unfold jD;rw[if_neg (by rw[h1];simp)];generalize hf:aC (ix p.code i).op=f at *;by_cases f1:f=1\/f=2\/f=3
 ·simp only[if_pos f1];by_cases hs:xB (ix p.code i) o=1
  ·simp only[if_pos hs];exact⟨0,[1],[],rfl,rfl,.inl ⟨by omega,rfl,rfl,rfl⟩⟩
  ·simp only[if_neg hs];refine⟨(gX (ix p.code i) o).length,[],[1], ?_, ?_,.inr (.inl ⟨by omega,rfl,rfl⟩)⟩
   ·rw[aCZ];simp
   ·rw[List.map_append,aCZ];rfl
 simp only[if_neg f1];by_cases f4:f=4
 ·simp only[if_pos f4];by_cases hs:sL o (ix p.code i).d=true
  ·simp only[if_pos hs];exact⟨0,[3],[7],rfl,rfl,.inr (.inr (.inl ⟨f4,rfl,rfl,rfl⟩))⟩
  ·simp only[if_neg hs];exact⟨0,[2],[],rfl,rfl,.inr (.inr (.inr (.inl ⟨f4,rfl,rfl,rfl⟩)))⟩
 simp only[if_neg f4];by_cases f5:f=5
 ·simp only[if_pos f5];by_cases hs:fC o (ix p.code i).b=1
  ·simp only[if_pos hs];exact⟨1,[4],[8],rfl,rfl,.inr (.inr (.inr (.inr (.inl ⟨f5,rfl,rfl⟩))))⟩
  ·simp only[if_neg hs];exact⟨0,[4],[8],rfl,rfl,.inr (.inr (.inr (.inr (.inl ⟨f5,rfl,rfl⟩))))⟩
 simp only[if_neg f5];by_cases f6:f=6
 ·simp only[if_pos f6];by_cases hs:lI o (aY (ix p.code i))=false
  ·simp only[if_pos hs];exact⟨0,[9],[10],rfl,rfl,.inr (.inr (.inr (.inr (.inr (.inl ⟨f6,rfl,rfl,rfl⟩)))))⟩
  ·simp only[if_neg hs];refine⟨(gX (ix p.code i) o).length,[10],[9], ?_, ?_,.inr (.inr (.inr (.inr (.inr (.inr (.inl ⟨f6,rfl,rfl⟩))))))⟩
   ·rw[List.map_append,aCZ];rfl
   ·rw[List.map_append,aCZ];rfl
 simp only[if_neg f6];by_cases f7:f=7
 ·simp only[if_pos f7];exact⟨0,[11],[11],rfl,rfl,.inr (.inr (.inr (.inr (.inr (.inr (.inr (.inl ⟨f7,rfl,rfl,rfl⟩)))))))⟩
 simp only[if_neg f7];have f8:f=8:=by omega
 simp only[if_pos f8];exact⟨0,[12],[12],rfl,rfl,.inr (.inr (.inr (.inr (.inr (.inr (.inr (.inr ⟨f8,rfl,rfl,rfl⟩)))))))⟩
theorem oO {p:Prog} {o:Nat->Int} {e:Bool} {i:Nat} (hi:p.code.length<=i):cel p o e i=[]:=by unfold cel;rw[aEW hi];cases e<;>rfl
def zH (p:Prog) (i:Nat) (d:Bool):Nat:=if aC (ix p.code i).op=7\/(aC (ix p.code i).op=6/\d=true)then(bV p i).toNat else i+1
def rho (p:Prog) (D:Nat->Bool):Nat->Nat
 |0=>0
 |n+1=>zH p (rho p D n) (D n)
theorem aRU {p:Prog} {D D':Nat->Bool}:∀ {n:Nat},(∀ m,m<n->D m=D' m)->rho p D n=rho p D' n
 |0,_=>rfl
 |n+1,h=>by show zH p (rho p D n) (D n)=zH p (rho p D' n) (D' n);rw[aRU fun m hm=>h m (by omega),h n (by omega)]
def rG {α:Type} (f:Nat->List α):Nat->Nat
 |0=>0
 |k+1=>rG f k+(f k).length
theorem aHZ {α:Type} {f:Nat->List α}:∀ {k:Nat},((List.range k).flatMap f).length=rG f k
 |0=>rfl
 |k+1=>by rw[fT,List.length_append,aHZ];rfl
theorem aKK {α:Type} {f:Nat->List α} {j k:Nat} (h:j<=k):rG f j<=rG f k:=by
 induction k with
 |zero =>
      obtain rfl:j=0:=by omega
      exact zaF _
 |succ k ih =>
  rcases Nat.lt_or_ge j (k+1)with h1|h1
  ·exact Nat.le_trans (ih (by omega)) (Nat.le_add_right _ _)
  ·obtain rfl:j=k+1:=by omega
   exact zaF _
theorem aT7 {α:Type} [Inhabited α] {f:Nat->List α} {j k:Nat}:∀ {K:Nat},j<K->k<(f j).length->rG f j+k<rG f K/\ix ((List.range K).flatMap f) (rG f j+k)=ix (f j) k
 |0,h,_=>by omega
 |K+1,h,hk=>by
  rw[fT,dJ,aHZ];have hs:rG f (j+1)=rG f j+(f j).length:=rfl;rcases Nat.lt_or_ge j K with h1|h1
  ·obtain⟨h2,h3⟩:=aT7 (K:=K) h1 hk;rw[if_pos h2];exact⟨Nat.lt_of_lt_of_le h2 (aKK (by omega)),h3⟩
  ·obtain rfl:j=K:=by omega
   rw[if_neg (by omega),Nat.add_sub_cancel_left];exact⟨by omega,rfl⟩
theorem aC1 {α β:Type} {f:Nat->List α} {g:Nat->α->β}:∀ {k:Nat},rG (fun j=>(f j).map (g j)) k=rG f k
 |0=>rfl
 |k+1=>by simp[rG,aC1]
theorem Spl.cells {p:Prog} {o:Nat->Int} {s:Split} (hs:Spl p o s) {b:Nat} (hb:b<nbN p) (e:Bool):lF s e (b:Int)=(List.range (dM p b-cW p b)).flatMap fun j=>(cel p o e (cW p b+j)).map (jN (j:Int)):=by
 unfold lF;have h1:=hs.nb;rw[if_neg (by omega),zaO,hs.blk hb];have hsr:(tG p (aM p) b).src.toNat=cW p b:=rfl;cases e with
 |true => simp only[if_true];unfold emE;rw[hsr];congr 1;funext j;exact(aPJ _ _ _ _).2
 |false => simp only[zaU,if_false];unfold emA;rw[hsr];congr 1;funext j;exact(aPJ _ _ _ _).1
theorem Spl.yY {p:Prog} {o:Nat->Int} {s:Split} (hs:Spl p o s) {b:Nat} (hb:b<nbN p) (e:Bool):(lF s e (b:Int)).length=rG (fun j=>cel p o e (cW p b+j)) (dM p b-cW p b):=by rw[hs.cells hb,aHZ,aC1]
theorem Spl.aH0 {p:Prog} {o:Nat->Int} {s:Split} (hs:Spl p o s) {b:Nat} (hb:b<nbN p) (e:Bool) {j k:Nat} (hj:cW p b+j<dM p b) (hk:k<(cel p o e (cW p b+j)).length):rG (fun j=>cel p o e (cW p b+j)) j+k<(lF s e (b:Int)).length/\ix (lF s e (b:Int)) (rG (fun j=>cel p o e (cW p b+j)) j+k)=jN (j:Int) (ix (cel p o e (cW p b+j)) k):=by have h:=aT7 (f:=fun j=>(cel p o e (cW p b+j)).map (jN (j:Int))) (j:=j) (k:=k) (K:=dM p b-cW p b) (by omega) (by simpa using hk);rw[aC1,aC1]at h;rw[hs.yY hb,hs.cells hb];refine⟨h.1,h.2.trans ?_⟩;exact nI hk
theorem bGJ {op:Int}:aC op=7↔op=40:=by
 unfold aC
 repeat' split
 all_goals omega
theorem a8E {op:Int}:aC op=8↔op=41:=by
 unfold aC
 repeat' split
 all_goals omega
def aPK (p:Prog) (D:Nat->Bool) (n:Nat):Prop:=gG (ix p.code (rho p D n))=false\/(aC (ix p.code (rho p D n)).op=6/\D n=false)
theorem aPL {i:Ins}:gG i=true↔aC i.op=6\/aC i.op=7\/aC i.op=8:=by unfold gG;exact decide_eq_true_iff
theorem aH1 {i:Ins}:gG i=false↔¬(aC i.op=6\/aC i.op=7\/aC i.op=8):=by unfold gG;exact zaP
theorem aH2 {p:Prog} {D:Nat->Bool} {n:Nat} (h:aPK p D n):rho p D (n+1)=rho p D n+1:=by
 show zH p (rho p D n) (D n)=_;unfold zH;rw[if_neg];rcases h with h|⟨h,h2⟩
 ·have:=aH1.1 h;omega
 ·rw[h2];simp;omega
theorem aT8 {p:Prog} {D:Nat->Bool} {n:Nat} (h:aPK p D n):¬(ix p.code (rho p D n)).op=40/\¬(ix p.code (rho p D n)).op=41:=by
 rw[<-bGJ,<-a8E];rcases h with h|⟨h,h2⟩
 ·have:=aH1.1 h;omega
 ·omega
theorem eW {p:Prog} {o:Nat->Int} {e:Bool} {i:Nat}:(kin p o e i).length=(cel p o e i).length:=by simp[kin]
theorem aFP {p:Prog} {o:Nat->Int} (hr:aL p=true) {i:Nat} (hi:i<p.code.length) (h:gG (ix p.code i)=true) (e:Bool):0<(cel p o e i).length:=by
 obtain⟨m,tA,tE,h1,h2,h3⟩:=shape (o:=o) hr hi;have h4:=aPL.1 h;rw[<-eW];rcases h3 with h3|h3|h3|h3|h3|h3|h3|h3|h3
 all_goals first
  |(exfalso;omega)
  |(cases e
    ·rw[h1,h3.2.1];simp
    ·rw[h2];first|rw[h3.2.2.1]|rw[h3.2.2]
     simp)
structure PR (p:Prog) (o:Nat->Int) (D:Nat->Bool) (e:Bool) (q:Pos) (n k b j:Nat):Prop where
 blk:q.block=(b:Int)
 hb:b<nbN p
 pc:rho p D n=cW p b+j
 base:q.base+(j:Int)=(n:Int)
 aH3:0<=q.base
 idx:q.index=((rG (fun j=>cel p o e (cW p b+j)) j+k:Nat):Int)
 here:(cW p b+j<dM p b/\k<=(cel p o e (rho p D n)).length/\(k=(cel p o e (rho p D n)).length->aPK p D n))\/(cW p b+j=dM p b/\k=0/\¬(ix p.code (dM p b-1)).op=40/\¬(ix p.code (dM p b-1)).op=41)
def Dn (p:Prog) (o:Nat->Int) (D:Nat->Bool) (e:Bool) (n k:Nat):List (Nat×Cell):=(List.range n).flatMap (fun m=>(cel p o e (rho p D m)).map (Prod.mk m))++((cel p o e (rho p D n)).take k).map (Prod.mk n)
section
variable {p:Prog} {o:Nat->Int} {D:Nat->Bool} {e:Bool}
theorem r7 {n:Nat}:Dn p o D e n (cel p o e (rho p D n)).length=Dn p o D e (n+1) 0:=by unfold Dn;rw[fT,List.take_length];simp
theorem aKL {n k:Nat} (h:k<(cel p o e (rho p D n)).length):Dn p o D e n (k+1)=Dn p o D e n k++[(n,ix (cel p o e (rho p D n)) k)]:=by unfold Dn;rw[aFO h];simp
theorem PR.next {q:Pos} {n b j:Nat} (hr:aL p=true) (h:PR p o D e q n (cel p o e (rho p D n)).length b j) (h1:cW p b+j<dM p b) (hf:aPK p D n):PR p o D e q (n+1) 0 b (j+1):=by
 have hd:=(eO h.hb).2;have h2:=aH2 hf;refine⟨h.blk,h.hb,by rw[h2,h.pc];omega,by have:=h.base;omega,h.aH3, ?_, ?_⟩
 ·rw[h.idx,h.pc];rfl
 ·rw[h2,h.pc];rcases Nat.lt_or_ge (cW p b+(j+1)) (dM p b)with h3|h3
  ·refine .inl ⟨h3,Nat.zero_le _,fun h4=>.inl ?_⟩;rw[h2,h.pc];cases h5:gG (ix p.code (cW p b+j+1))with
   |false=>rfl
   |true => have:=aFP (o:=o) hr (by omega) h5 e;omega
  ·have h4:=aT8 hf;have h5:dM p b-1=rho p D n:=by rw[h.pc];omega
   rw[h5];exact .inr ⟨by omega,rfl,h4⟩
theorem PR.walk {q:Pos} {b:Nat} (hr:aL p=true) {T:Nat} (hT:T=rG (fun j=>cel p o e (cW p b+j)) (dM p b-cW p b)) (hlt:q.index<(T:Int)):∀ {d n k j:Nat},d=dM p b-(cW p b+j)->PR p o D e q n k b j->∃ n' k' j',PR p o D e q n' k' b j'/\cW p b+j'<dM p b/\k'<(cel p o e (rho p D n')).length/\Dn p o D e n' k'=Dn p o D e n k/\n<=n'/\n'+rho p D n=n+rho p D n'/\∀ m,n<=m->m<n'->aPK p D m:=by
 intro d
 induction d with
 |zero =>
  intro n k j hd h;rcases h.here with h1|h1
  ·omega
  ·have h2:=h.idx;have h3:dM p b-cW p b=j:=by omega
   rw[h1.2.1]at h2;rw[h3]at hT;omega
 |succ d ih =>
  intro n k j hd h;have hs:=(eO h.hb).1;rcases h.here with h1|h1
  ·rcases Nat.lt_or_ge k (cel p o e (rho p D n)).length with h2|h2
   ·exact⟨n,k,j,h,h1.1,h2,rfl,zaF _,rfl,fun m h3 h4=>by omega⟩
   ·obtain rfl:k=(cel p o e (rho p D n)).length:=by omega
    have hf:=h1.2.2 rfl;obtain⟨n',k',j',a1,a2,a3,a4,a5,a6,a7⟩:=ih (by omega) (h.next hr h1.1 hf);refine⟨n',k',j',a1,a2,a3,a4.trans r7.symm,by omega, ?_,fun m h3 h4 => ?_⟩
    ·rw[aH2 hf]at a6;omega
    ·rcases Nat.lt_or_ge n m with h5|h5
     ·exact a7 m h5 h4
     ·obtain rfl:m=n:=by omega
      exact hf
  ·omega
theorem PR.fin {q:Pos} {b:Nat} (hr:aL p=true) {T:Nat} (hT:T=rG (fun j=>cel p o e (cW p b+j)) (dM p b-cW p b)) (hge:¬q.index<(T:Int)):∀ {d n k j:Nat},d=dM p b-(cW p b+j)->PR p o D e q n k b j->∃ n' j',PR p o D e q n' 0 b j'/\cW p b+j'=dM p b/\Dn p o D e n' 0=Dn p o D e n k/\n<=n'/\n'+rho p D n=n+rho p D n'/\∀ m,n<=m->m<n'->aPK p D m:=by
 intro d
 induction d with
 |zero =>
  intro n k j hd h;rcases h.here with h1|h1
  ·omega
  ·obtain⟨h2,rfl,h3⟩:=h1;exact⟨n,j,h,h2,rfl,zaF _,rfl,fun m h3 h4=>by omega⟩
 |succ d ih =>
  intro n k j hd h;have hs:=(eO h.hb).1;rcases h.here with h1|h1
  ·have h2:k=(cel p o e (rho p D n)).length:=by
    rcases Nat.lt_or_ge k (cel p o e (rho p D n)).length with h2|h2
    ·exfalso;have h3:=h.idx;have h4:rG (fun j=>cel p o e (cW p b+j)) j+k<rG (fun j=>cel p o e (cW p b+j)) (j+1):=by
      rw[h.pc]at h2;exact Nat.add_lt_add_left h2 _
     have h5:=aKK (f:=fun j=>cel p o e (cW p b+j)) (show j+1<=dM p b-cW p b by omega);omega
    ·omega
   subst h2;have hf:=h1.2.2 rfl;obtain⟨n',j',a1,a2,a3,a4,a5,a7⟩:=ih (by omega) (h.next hr h1.1 hf);refine⟨n',j',a1,a2,a3.trans r7.symm,by omega, ?_,fun m h3 h4 => ?_⟩
   ·rw[aH2 hf]at a5;omega
   ·rcases Nat.lt_or_ge n m with h5|h5
    ·exact a7 m h5 h4
    ·obtain rfl:m=n:=by omega
     exact hf
  ·omega
end
theorem Spl.lng {p:Prog} {o:Nat->Int} {s:Split} (hs:Spl p o s) {b:Nat} (hb:b<nbN p):aCV s (b:Int)=((dM p b-cW p b:Nat):Int):=by unfold aCV;have h1:=hs.nb;have h2:=eO hb;have h3:=(lN hs.rp).2;rw[if_neg (by omega),zaO,hs.blk hb];show IntKind.i64.wrap ((dM p b:Int)-(cW p b:Int))=_;rw[wrap_i64 (by omega) (by omega)];omega
def Stl (p:Prog) (o:Nat->Int) (D:Nat->Bool) (e:Bool) (r:Pos×Bool) (n k b j:Nat):Prop := PR p o D e r.1 n k b j/\((r.2=false/\k<(cel p o e (rho p D n)).length/\cW p b+j<dM p b)\/(r.2=true/\rho p D n=p.code.length/\k=0/\cW p b+j=dM p b/\b+1=nbN p))
theorem Spl.bB7 {p:Prog} {o:Nat->Int} {s:Split} (hs:Spl p o s) {D:Nat->Bool} {e:Bool}:∀(K:Nat) {q:Pos} {n k b j:Nat},PR p o D e q n k b j->nbN p+1<=b+K->n+p.code.length<=2305843009213693952+rho p D n ->
  ∃ n' k' b' j',Stl p o D e (lU s e K q) n' k' b' j'/\Dn p o D e n' k'=Dn p o D e n k/\n<=n'/\n'+rho p D n=n+rho p D n'/\∀ m,n<=m->m<n'->aPK p D m
 |0,q,n,k,b,j,h,hK,hn=>by have:=h.hb;omega
 |K+1,q,n,k,b,j,h,hK,hn=>by
  have hr:=hs.rp;have hb:=h.hb;have h1:=hs.nb;have h2:=hs.yY hb e;have h3:=eO hb;rw[aCW,h.blk,if_neg (by omega)];by_cases hi:q.index<((lF s e (b:Int)).length:Int)
  ·rw[if_pos hi];rw[h2]at hi;obtain⟨n',k',j',a1,a2,a3,a4,a5,a6,a7⟩:=h.walk hr rfl hi rfl;exact⟨n',k',b,j',⟨a1,.inl ⟨rfl,a3,a2⟩⟩,a4,a5,a6,a7⟩
  ·rw[if_neg hi];rw[h2]at hi;obtain⟨n',j',a1,a2,a3,a4,a5,a7⟩:=h.fin hr rfl hi rfl;have hops:¬(ix p.code (dM p b-1)).op=40/\¬(ix p.code (dM p b-1)).op=41:=by
    rcases a1.here with h5|h5
    ·omega
    ·exact h5.2.2
   have hnx:(ix s.blocks (b:Int).toNat).next=if b+1<nbN p then((b+1:Nat):Int)else -1:=by rw[zaO,hs.blk hb];exact aT6 hr hb hops.1 hops.2
   have hpc:=a1.pc;rw[hnx];by_cases hl:b+1<nbN p
   ·rw[if_pos hl,if_neg (by omega),hs.lng hb];have hbase:=a1.base;have e1:IntKind.i64.wrap (q.base+((dM p b-cW p b:Nat):Int))=(n':Int):=by
     rw[wrap_i64 (by omega) (by omega)];omega
    rw[e1];have hsd:=aPH hl;have h5:=eO hl;have hp:PR p o D e ⟨((b+1:Nat):Int),0,(n':Int)⟩ n' 0 (b+1) 0:=by
     refine⟨rfl,hl,by omega,by show(n':Int)+((0:Nat):Int)=_;omega,by show(0:Int)<=(n':Int);omega,rfl,.inl ⟨by omega,Nat.zero_le _,fun h6=>.inl ?_⟩⟩;cases h7:gG (ix p.code (rho p D n'))with
     |false=>rfl
     |true => have:=aFP (o:=o) hr (by omega) h7 e;omega
    obtain⟨n2,k2,b2,j2,c1,c2,c3,c4,c5⟩:=Spl.bB7 hs K hp (by omega) (by omega);refine⟨n2,k2,b2,j2,c1,c2.trans a3,by omega,by omega,fun m h6 h7 => ?_⟩;rcases Nat.lt_or_ge m n' with h8|h8
    ·exact a7 m h6 h8
    ·exact c5 m h8 h7
   ·rw[if_neg hl,if_pos (.inl (by omega))];have hlast:=aPI (p:=p) (b:=b) (by omega);exact⟨n',0,b,j',⟨a1,.inr ⟨rfl,by omega,rfl,a2,by omega⟩⟩,a3,a4,a5,a7⟩
theorem Spl.next {p:Prog} {o:Nat->Int} {s:Split} (hs:Spl p o s) {D:Nat->Bool} {e:Bool} {q:Pos} {n k b j:Nat} (h:Stl p o D e (aQ s e q) n k b j) (hn:n<=2305843009213693952) :
  aW s e q=(if(aQ s e q).2 then noCell else jN (j:Int) (ix (cel p o e (rho p D n)) k),(n:Int),!(aQ s e q).2):=by
 unfold aW;obtain⟨h1,h2⟩:=h;have hidx:=h1.idx;have hbase:=h1.base;have hb0:=h1.aH3;have hr:=(lN hs.rp).2;have h3:=eO h1.hb;rcases h2 with⟨hf,hk,hj⟩|⟨hf,hk,hk0,hj,hb⟩
 ·rw[hf,if_neg (by simp;omega)];rw[h1.pc]at hk;have hc:=hs.aH0 h1.hb e hj hk;rw[h1.blk,hidx,zaO,hc.2,h1.pc];have e1:IntKind.i64.wrap ((aQ s e q).1.base+(jN (j:Int) (ix (cel p o e (cW p b+j)) k)).off)=(n:Int):=by
   show IntKind.i64.wrap ((aQ s e q).1.base+(j:Int))=_;rw[hbase,wrap_i64 (by omega) (by omega)]
  rw[e1];rfl
 ·rw[hf,if_pos (.inl rfl),h1.blk,hs.lng h1.hb];rw[wrap_i64 (by omega) (by omega)];have:(aQ s e q).1.base+((dM p b-cW p b:Nat):Int)=(n:Int):=by omega
  rw[this];rfl
def kc (K:Int) (l:List (Nat×Cell)):Nat:=l.countP fun z=>decide (z.2.kind=K)
def stK (K:Int) (l:List (Nat×Cell)):List Nat:=(l.filter fun z=>decide (z.2.kind=K)).map Prod.fst
theorem aRV {K:Int} {l r:List (Nat×Cell)}:kc K (l++r)=kc K l+kc K r:=List.countP_append
theorem aRW {K:Int} {n:Nat} {c:Cell}:kc K [(n,c)]=if c.kind=K then 1 else 0:=by unfold kc;by_cases h:c.kind=K<;>simp[h]
theorem oP {K:Int} {l r:List (Nat×Cell)}:stK K (l++r)=stK K l++stK K r:=by simp[stK]
theorem r8 {K:Int} {n:Nat} {c:Cell}:stK K [(n,c)]=if c.kind=K then [n]else []:=by unfold stK;by_cases h:c.kind=K<;>simp[h]
theorem nZ {K:Int} {l:List (Nat×Cell)}:(stK K l).length=kc K l:=by unfold stK kc;rw[List.length_map,List.countP_eq_length_filter]
theorem aT9 {K:Int} {m:Nat} {l:List Cell}:stK K (l.map (Prod.mk m))=List.replicate ((l.map Cell.kind).count K) m:=by
 induction l with
 |nil=>rfl
 |cons c l ih =>
  have h1:stK K ((c::l).map (Prod.mk m))=stK K [(m,c)]++stK K (l.map (Prod.mk m)):=by rw[<-oP];rfl
  rw[h1,ih,r8,List.map_cons,List.count_cons];by_cases h:c.kind=K
  ·simp only[h,if_true,beq_self_eq_true];rw[List.replicate_succ];rfl
  ·simp[h]
def SL (f:Nat->Nat) (n:Nat):List Nat:=(List.range n).flatMap fun m=>List.replicate (f m) m
def tot (f:Nat->Nat):Nat->Nat
 |0=>0
 |n+1=>tot f n+f n
theorem aC2 {f:Nat->Nat} {n:Nat}:SL f (n+1)=SL f n++List.replicate (f n) n:=fT
theorem aA1 {f:Nat->Nat}:∀ {n:Nat},(SL f n).length=tot f n
 |0=>rfl
 |n+1=>by rw[aC2,List.length_append,aA1,List.length_replicate];rfl
theorem aUA {f:Nat->Nat}:∀ {n:Nat} {x:Nat},x∈SL f n->x<n
 |0,x,h=>by cases h
 |n+1,x,h=>by
  rw[aC2]at h;rcases List.mem_append.1 h with h|h
  ·have:=aUA h;omega
  ·rw[List.eq_of_mem_replicate h];omega
theorem pB {f:Nat->Nat} {n m:Nat} (h:n<=m):tot f n<=tot f m:=by
 induction m with
 |zero =>
      obtain rfl:n=0:=by omega
      exact zaF _
 |succ m ih =>
  rcases Nat.lt_or_ge n (m+1)with h1|h1
  ·exact Nat.le_trans (ih (by omega)) (Nat.le_add_right _ _)
  ·obtain rfl:n=m+1:=by omega
   exact zaF _
theorem a07 {f:Nat->Nat} {n m:Nat} (h:n<=m):∃ r,SL f m=SL f n++r/\∀ x∈r,n<=x:=by
 induction m with
 |zero =>
      obtain rfl:n=0:=by omega
      exact⟨[],by simp,fun x hx=>by cases hx⟩
 |succ m ih =>
  rcases Nat.lt_or_ge n (m+1)with h1|h1
  ·obtain⟨r,e1,e2⟩:=ih (by omega);refine⟨r++List.replicate (f m) m,by rw[aC2,e1,List.append_assoc],fun x hx => ?_⟩;rcases List.mem_append.1 hx with hx|hx
   ·exact e2 x hx
   ·rw[List.eq_of_mem_replicate hx];omega
  ·obtain rfl:n=m+1:=by omega
   exact⟨[],by simp,fun x hx=>by cases hx⟩
section
variable (p:Prog) (o:Nat->Int) (D:Nat->Bool)
def cK (e:Bool) (K:Int) (m:Nat):Nat:=(kin p o e (rho p D m)).count K
end
section
variable {p:Prog} {o:Nat->Int} {D:Nat->Bool} {e:Bool} {K:Int}
theorem xS {n k:Nat}:stK K (Dn p o D e n k)=SL (cK p o D e K) n++List.replicate (((kin p o e (rho p D n)).take k).count K) n:=by
 unfold Dn;rw[oP,aT9];congr 1
 ·induction n with
  |zero=>rfl
  |succ n ih=>rw[fT,oP,ih,aC2,aT9];rfl
 ·unfold kin;rw[List.map_take]
theorem aKM {n k:Nat}:kc K (Dn p o D e n k)=tot (cK p o D e K) n+((kin p o e (rho p D n)).take k).count K:=by rw[<-nZ,xS,List.length_append,aA1,List.length_replicate]
theorem a08 {n k:Nat}:tot (cK p o D e K) n<=kc K (Dn p o D e n k):=by rw[aKM];omega
theorem aPM {n k:Nat}:kc K (Dn p o D e n k)<=tot (cK p o D e K) (n+1):=by rw[aKM];have:((kin p o e (rho p D n)).take k).count K<=cK p o D e K n:=(List.take_sublist _ _).count_le K;show _<=tot _ n+cK p o D e K n;omega
theorem aMK {i:Nat} (hi:p.code.length<=i):kin p o e i=[]:=by unfold kin;rw[oO hi];rfl
theorem bal (hr:aL p=true) (m:Nat):cK p o D false 5 m=cK p o D true 6 m/\cK p o D false 3 m=cK p o D true 7 m/\cK p o D false 4 m=cK p o D true 8 m/\cK p o D false 9 m=cK p o D true 10 m/\cK p o D false 10 m=cK p o D true 9 m:=by
 unfold cK;by_cases hi:rho p D m<p.code.length
 ·obtain⟨k,tA,tE,h1,h2,h3⟩:=shape (o:=o) hr hi;rw[h1,h2];simp only[List.count_append,List.count_replicate];rcases h3 with h3|h3|h3|h3|h3|h3|h3|h3|h3
  all_goals first
   |(obtain⟨_,rfl,rfl,rfl⟩:=h3;simp)
   |(obtain⟨_,rfl,rfl⟩:=h3;simp)
 ·rw[aMK (by omega),aMK (by omega)];simp
end
theorem a09 {f g:Nat->Nat} (h:∀ m,f m=g m) (n:Nat):tot f n=tot g n:=by rw[show f=g from funext h]
theorem aC3 {p:Prog} {o:Nat->Int} {e:Bool} {i:Nat}:(cel p o e i).length<=4:=by
 unfold cel;have:=tH (i:=ix p.code i) (o:=o) (pc:=(i:Int)) (off:=0);cases e
 ·exact this.1
 ·exact this.2
theorem aH4 {α:Type} {f:Nat->List α} (h:∀ j,(f j).length<=4):∀ k,rG f k<=4*k
 |0=>zaF _
 |k+1=>by have:=aH4 h k;have:=h k;show rG f k+(f k).length<=_;omega
theorem a1A {a d:Int} {m i:Nat} (h:i<m):ix (List.replicate m a) i=a:=by rw[gW (by simpa using h)];simp
def aRX (f:Int) (en:Bool) (l:List Int) (k:Nat):Prop :=
 ((ix l k=9\/ix l k=10)->f=6/\k+1=l.length/\(l.take k).count 9=0/\(l.take k).count 10=0) /\
 (ix l k=11->f=7/\k+1=l.length)/\(ix l k=12->f=8)/\(en=true->k+1=l.length->9<=ix l k)/\(f=8->ix l k=12)
theorem pQ {p:Prog} {o:Nat->Int} {e:Bool} {i k:Nat} (hk:k<(cel p o e i).length):(ix (cel p o e i) k).kind=ix (kin p o e i) k:=(nI hk).symm
theorem yZ {p:Prog} {o:Nat->Int} (hr:aL p=true) {i:Nat} (hi:i<p.code.length) {e:Bool} {k:Nat} (hk:k<(kin p o e i).length):aRX (aC (ix p.code i).op) (gG (ix p.code i)) (kin p o e i) k:=by
 obtain⟨m,tA,tE,h1,h2,h3⟩:=shape (o:=o) hr hi;have hE:∀(c:Int) (t:List Int) (z:Int),(c=5\/c=6)->kin p o e i=List.replicate m c++t->((t=[]/\aC (ix p.code i).op<=5)\/(t=[z]/\((z<=8/\aC (ix p.code i).op<=5)\/((z=9\/z=10)/\aC (ix p.code i).op=6)\/(z=11/\aC (ix p.code i).op=7)\/(z=12/\m=0/\aC (ix p.code i).op=8))))->aRX (aC (ix p.code i).op) (gG (ix p.code i)) (kin p o e i) k:=by
  intro c t z hc he ht;rw[he]at hk ⊢;have hlt:k<m->ix (List.replicate m c++t) k=c:=fun h=>by rw[dJ,if_pos (by simpa using h)];exact a1A (d:=0) h
  have hend:¬k<m->(t=[z]/\k=m/\ix (List.replicate m c++t) k=z):=fun h=>by
   rcases ht with⟨rfl,_⟩|⟨rfl,_⟩
   ·simp at hk;omega
   ·simp at hk;obtain rfl:k=m:=by omega
    refine⟨rfl,rfl, ?_⟩;rw[dJ,if_neg (by simp)];simp[ix]
  have htk:k=m->(List.replicate m c++t).take k=List.replicate m c:=fun h=>by subst h;simp
  have hform:=aPL (i:=ix p.code i);have hcnt:∀ K:Int,(K=9\/K=10)->(List.replicate m c).count K=0:=fun K hK=>by rw[List.count_replicate,if_neg];simp;omega
  unfold aRX;by_cases hkm:k<m
  ·rw[hlt hkm];refine⟨fun h=>by omega,fun h=>by omega,fun h=>by omega,fun h5 h6 => ?_,fun h5 => ?_⟩
   ·exfalso;have h7:=hform.1 h5;rcases ht with⟨rfl,h8⟩|⟨rfl,h8⟩
    ·omega
    ·simp at h6;omega
   ·exfalso;rcases ht with⟨rfl,h8⟩|⟨rfl,h8⟩<;>omega
  ·obtain⟨hz,hkm2,hix⟩:=hend hkm;rw[hix];subst hz;have hz2:(z<=8/\aC (ix p.code i).op<=5)\/((z=9\/z=10)/\aC (ix p.code i).op=6)\/(z=11/\aC (ix p.code i).op=7)\/(z=12/\m=0/\aC (ix p.code i).op=8):=by
    rcases ht with⟨h8,_⟩|⟨h8,h9⟩
    ·cases h8
    ·exact h9
   have hlen:k+1=(List.replicate m c++[z]).length:=by simp;omega
   refine⟨fun h=>⟨by omega,hlen, ?_, ?_⟩,fun h=>⟨by omega,hlen⟩,fun h=>by omega,fun h5 h6 => ?_,fun h5=>by omega⟩
   ·rw[htk hkm2];exact hcnt 9 (.inl rfl)
   ·rw[htk hkm2];exact hcnt 10 (.inr rfl)
   ·have:=hform.1 h5;omega
 cases e with
 |true =>
  refine hE 6 tE (ix tE 0) (.inr rfl) h2 ?_;rcases h3 with h3|h3|h3|h3|h3|h3|h3|h3|h3
  ·have hf:=h3.1;exact .inl ⟨h3.2.2.1,by omega⟩
  ·have hf:=h3.1;rw[h3.2.2];refine .inr ⟨rfl, ?_⟩;simp only[aK]
   first|omega|(simp[hf];done)|(simp[hf];omega)
  ·have hf:=h3.1;rw[h3.2.2.1];refine .inr ⟨rfl, ?_⟩;simp only[aK]
   first|omega|(simp[hf];done)|(simp[hf];omega)
  ·have hf:=h3.1;exact .inl ⟨h3.2.2.1,by omega⟩
  ·have hf:=h3.1;rw[h3.2.2];refine .inr ⟨rfl, ?_⟩;simp only[aK]
   first|omega|(simp[hf];done)|(simp[hf];omega)
  ·have hf:=h3.1;rw[h3.2.2.1];refine .inr ⟨rfl, ?_⟩;simp only[aK]
   first|omega|(simp[hf];done)|(simp[hf];omega)
  ·have hf:=h3.1;rw[h3.2.2];refine .inr ⟨rfl, ?_⟩;simp only[aK]
   first|omega|(simp[hf];done)|(simp[hf];omega)
  ·have hf:=h3.1;rw[h3.2.2.1];refine .inr ⟨rfl, ?_⟩;simp only[aK]
   first|omega|(simp[hf];done)|(simp[hf];omega)
  ·have hf:=h3.1;rw[h3.2.2.1];refine .inr ⟨rfl, ?_⟩;simp only[aK]
   first|omega|(simp[hf];done)|(simp[hf];omega)
 |false =>
  refine hE 5 tA (ix tA 0) (.inl rfl) h1 ?_;rcases h3 with h3|h3|h3|h3|h3|h3|h3|h3|h3
  ·have hf:=h3.1;rw[h3.2.1];refine .inr ⟨rfl, ?_⟩;simp only[aK]
   first|omega|(simp[hf];done)|(simp[hf];omega)
  ·have hf:=h3.1;exact .inl ⟨h3.2.1,by omega⟩
  ·have hf:=h3.1;rw[h3.2.1];refine .inr ⟨rfl, ?_⟩;simp only[aK]
   first|omega|(simp[hf];done)|(simp[hf];omega)
  ·have hf:=h3.1;rw[h3.2.1];refine .inr ⟨rfl, ?_⟩;simp only[aK]
   first|omega|(simp[hf];done)|(simp[hf];omega)
  ·have hf:=h3.1;rw[h3.2.1];refine .inr ⟨rfl, ?_⟩;simp only[aK]
   first|omega|(simp[hf];done)|(simp[hf];omega)
  ·have hf:=h3.1;rw[h3.2.1];refine .inr ⟨rfl, ?_⟩;simp only[aK]
   first|omega|(simp[hf];done)|(simp[hf];omega)
  ·have hf:=h3.1;rw[h3.2.1];refine .inr ⟨rfl, ?_⟩;simp only[aK]
   first|omega|(simp[hf];done)|(simp[hf];omega)
  ·have hf:=h3.1;rw[h3.2.1];refine .inr ⟨rfl, ?_⟩;simp only[aK]
   first|omega|(simp[hf];done)|(simp[hf];omega)
  ·have hf:=h3.1;rw[h3.2.1];refine .inr ⟨rfl, ?_⟩;simp only[aK]
   first|omega|(simp[hf];done)|(simp[hf];omega)
def TPE:Tab:=fW qq (jB++eU) [(44,Alu.a0N),(49,Alu.a0Q)] jA [(24,a0C),(57,a56),(54,a0R),(59,endS'),(55,a57),(61,bBX),(103,goS'),(62,bBY),(64,bBZ),(58,bB0)] []
def cV (d:cE) (n w r:Int):cE:=if 1<=n/\n<=15 then { d with bC:=fun i=>cond (Nat.beq i n.toNat) w (d.bC i),ready:=fun i=>cond (Nat.beq i n.toNat) r (d.ready i) } else d
def onF (d:cE):cE:={ d with pos:={ d.pos with index:=IntKind.i64.wrap (d.pos.index+1) },done:=IntKind.i64.wrap (d.done+1) }
def oD (s:Split) (d:cE) (t:Bool) (n:Int):cE:={ d with pos:=goF s d.pos t,wait:=if t then IntKind.i64.wrap (n+2)else d.wait,done:=IntKind.i64.wrap (d.done+1) }
def aC4 (d:cE):cE:={ d with halted:=true,done:=IntKind.i64.wrap (d.done+1) }
def doV (d:cE) (i:Ins):Int:=Alu.doI i.op i.d i.a i.b i.imm (iU d i.a) (iU d i.b)
def doK (d:cE) (i:Ins):Bool:=Alu.dkB i.op i.d i.a i.b i.imm (iU d i.b)
def tR (d:cE) (i:Ins):Bool:=Alu.tkB i.op (iU d i.a) (iU d i.b)
def dW (c:Cfg) (s:Split) (x:Stt) (k:Cell) (st:Int):Stt :=
 if k.kind=1 then(if doK x.e k.ins then { x with e:=onF (cV x.e k.ins.d (doV x.e k.ins) (IntKind.i64.wrap (x.aE+u9 c k.ins.op))) } else cF x 3 st k.pc)
 else if k.kind=6 then(if x.aeq=[]then x else { x with e:=onF (cV x.e k.reg (ix x.aeq 0) (IntKind.i64.wrap (x.aE+1))),aeq:=x.aeq.tail })
 else if k.kind=7 then(if(qU x.ldq).2.2 then { x with e:=onF (cV x.e k.ins.d (qU x.ldq).2.1 (IntKind.i64.wrap (x.aE+1))),ldq:=(qU x.ldq).1 } else x)
 else if k.kind=8 then(if(x.sdq.length:Int)<c.sdq then { x with e:=onF x.e,sdq:=x.sdq++[iU x.e k.reg] } else x)
 else if k.kind=9 then(if(x.ebq.length:Int)<c.ebq then { x with e:=oD s x.e (tR x.e k.ins) x.aE,ebq:=x.ebq++[tR x.e k.ins] } else x)
 else if k.kind=10 then(if x.abq=[]then x else { x with e:=oD s x.e (ix x.abq 0) x.aE,abq:=x.abq.tail })
 else if k.kind=11 then { x with e:=oD s x.e true x.aE }
 else if k.kind=12 then { x with e:=aC4 x.e }
 else x
def atE (s:Split) (x:Stt):Stt:={ x with e:={ x.e with pos:=(aQ s true x.e.pos).1 } }
def eX (c:Cfg) (s:Split) (x:Stt):Stt :=
 if aU c s x=false\/x.e.halted=true\/x.e.wait>x.aE then x
 else if(aQ s true x.e.pos).2 then cF (atE s x) 4 (aW s true (atE s x).e.pos).2.1 (aCY s (atE s x).e.pos.block)
 else if aZ x (aW s true (atE s x).e.pos).2.1=true\/pX x.e (aW s true (atE s x).e.pos).1 x.aE=false then atE s x
 else dW c s (atE s x) (aW s true (atE s x).e.pos).1 (aW s true (atE s x).e.pos).2.1
def kQ (s:Split):Prop:=s.blocks.length<=1000000/\∀ b∈s.blocks,(∀ k∈b.a,0<=k.ins.d/\k.ins.d<=15)/\b.wf
def bGK:List XV->Option ((XV->Prop)->Prop):=eZ (fun q:Cfg×Split×Stt=>[aV q.1,aG q.2.1,aP q.2.2]) (fun q=>q.2.2.ok/\kQ q.2.1) (fun q=>eX q.1 q.2.1 q.2.2) (fun y=>aP y)
theorem bGL (c:Cfg) (s:Split) (x:Stt) (r:XV):(aO TPE 80 (bL TPE 80 20) 28 [aV c,aG s,aP x] (fun v=>aA v r))=(
 let q1:=x.ldq.length*16;
 let q2:=decide (q1<=140737488355328);
 let q3:=decide (x.ldq.length<=x.ldq.length);
 let q4:=decide (x.sdq.length<=x.sdq.length);
 let q5:=decide (x.aeq.length<=x.aeq.length);
 let q6:=decide (x.abq.length<=x.abq.length);
 let q7:=decide (x.ebq.length<=x.ebq.length);
 let q8:=decide (x.saq.length<=x.saq.length);
 let q9:=decide (x.table.length<=x.table.length);
 let q10:=decide (x.mem.length<=x.mem.length);
 let q11:=decide (x.writes.length<=x.writes.length);
 let q12:Split×Bool×Pos->List XV:=fun s=>[aG s.1,.bool s.2.1,dZ s.2.2];
 let q13:Split×Bool×Pos->Prop:=fun s=>aN (s.1.blocks.length<=1000000);
 let q14:XV:=.tab 16 1 fun i=>.int .u32 (x.e.bC i);
 let q15:XV:=.tab 16 1 fun i=>.int .i64 (x.e.ready i);
 let q16:Pos×Bool->XV:=fun y=>.agg 38 [q14,q15,dZ y.1,.int .i64 x.e.wait,.bool x.e.halted,.int .i64 x.e.done];
 let q17:List XV:=[aB 5 cB x.saq,aB 8 dS x.table,aB 1 eP x.mem,aB 3 mQ x.writes,lH x.aT,.int .i64 x.dR,.int .i64 x.cG,.int .i64 x.tags];
 let q18:List XV:=aB 1 cL x.ebq::q17;
 let q19:List XV:=aB 1 cL x.abq::q18;
 let q20:List XV:=aB 1 dA x.aeq::q19;
 let q21:List XV:=aB 1 dA x.sdq::q20;
 let q22:List XV:=aB 3 cO x.ldq::q21;
 let q23:Pos×Bool->XV:=fun y=>.agg 92 (.int .i64 x.aE::aR x.a::q16 y::q22);
 let q24:Stt×Int×Int×Int->Int:=fun s=>s.2.1;
 let q25:Stt×Int×Int×Int->Int:=fun s=>s.2.2.1;
 let q26:Stt×Int×Int×Int->Int:=fun s=>s.2.2.2;
 let q27:Stt×Int×Int×Int->List XV:=fun s=>[aP s.1,.int .i64 (q24 s),.int .i64 (q25 s),.int .i64 (q26 s)];
 let q28:Stt×Int×Int×Int->Prop:=fun s=>aN s.1.ok/\∀(y:Stt),y=cF s.1 (q24 s) (q25 s) (q26 s)->aA (aP y) r;
 let q29:Pos×Bool->Prop:=fun y=>cond q3 (cond q4 (cond q5 (cond q6 (cond q7 (cond q8 (cond q9 (cond q10 (cond q11 (aA (q23 y) r) False) False) False) False) False) False) False) False) False;
 let q30:cE×Int->List XV:=fun s=>[aR s.1,.int .i64 s.2];
 let q31:Pos×Bool->Cell×Int×Bool->cE×Int->Prop:=fun y y_1 s=>aI [q16 y,.int .i64 y_1.1.ins.a] (q30 s);
 let q32:Int->cE×Int->Prop:=fun y s=>y=iU s.1 s.2;
 let q33:Pos×Bool->Cell×Int×Bool->cE×Int->Prop:=fun y y_1 s=>aI [q16 y,.int .i64 y_1.1.ins.b] (q30 s);
 let q34:=fun(y:Int)=>decide (0<=y);
 let q35:=fun(y:Int)=>decide (y<=4294967295);
 let q36:Cell×Int×Bool->Bool:=fun y=>decide (y.1.ins.d>=1);
 let q37:Cell×Int×Bool->Bool:=fun y=>cond (q36 y) (q36 y) true;
 let q38:Cell×Int×Bool->Bool:=fun y=>cond (q36 y) (decide (y.1.ins.d<=15)) false;
 let q39:Cell×Int×Bool->Bool:=fun y=>decide (0<=y.1.ins.d);
 let q40:Cell×Int×Bool->Bool:=fun y=>decide (y.1.ins.d<16);
 let q41:Cell×Int×Bool->Nat:=fun y=>Int.toNat y.1.ins.d*1;
 let q42:Cell×Int×Bool->Nat:=fun y=>pl 39 (q41 y);
 let q43:Cell×Int×Bool->Bool:=fun y=>Nat.beq (q42 y) (q42 y);
 let q44:Cell×Int×Bool->Bool:=fun y=>decide (Int.toNat y.1.ins.d<16);
 let q45:Cell×Int×Bool->Nat:=fun y=>pl 55 (q41 y);
 let q46:Cell×Int×Bool->Bool:=fun y=>Nat.beq (q45 y) (q45 y);
 let q47:List XV:=[.int .i64 (IntKind.wrap .i64 (x.e.done+1))];
 let q48:List XV:=.bool x.e.halted::q47;
 let q49:List XV:=.int .i64 x.e.wait::q48;
 let q50:Pos×Bool->List XV:=fun y=>.agg 3 [.int .i64 y.1.block,.int .i64 (IntKind.wrap .i64 (y.1.index+1)),.int .i64 y.1.base]::q49;
 let q51:Pos×Bool->XV:=fun y=>.agg 38 (q14::q15::q50 y);
 let q52:=(↑(pl 0 x.aeq.length):Int);
 let q53:=pl 0 (Int.toNat (0:Int));
 let q54:Cell×Int×Bool->Bool:=fun y=>decide (y.1.reg>=1);
 let q55:Cell×Int×Bool->Bool:=fun y=>decide (0<=y.1.reg);
 let q56:Cell×Int×Bool->Bool:=fun y=>decide (y.1.reg<16);
 let q57:Cell×Int×Bool->Nat:=fun y=>Int.toNat y.1.reg*1;
 let q58:Cell×Int×Bool->Nat:=fun y=>pl 39 (q57 y);
 let q59:Cell×Int×Bool->Bool:=fun y=>decide (Int.toNat y.1.reg<16);
 let q60:Cell×Int×Bool->Nat:=fun y=>pl 55 (q57 y);
 let q61:=decide (1<=(↑(x.aeq.length):Int));
 let q62:=x.aeq.length-1;
 let q63:=pl 0 (Int.toNat (1:Int));
 let q64:=decide (pl 1 q62<=x.aeq.length);
 let q65:=IntKind.wrap .i64 (x.aE+1);
 let q66:List XV:=aB 3 cO x.ldq::aB 1 dA x.sdq::(.row false 1 q62 fun i=>dA (ix x.aeq (pl 1 i)))::q19;
 let q67:=decide (0<(↑(x.ldq.length):Int));
 let q68:=decide ((↑(x.ldq.length):Int)=0);
 let q69:=!q68;
 let q70:=!q69;
 let q71:=decide (0<x.ldq.length);
 let q72:=x.ldq.length-1;
 let q73:=x.ldq.length-Int.toNat (1:Int);
 let q74:=decide (q72<=q72);
 let q75:List XV:=(.row false 3 q72 fun i=>cO (ix x.ldq (pl 1 i)))::q21;
 let q76:=pl (pl 0 x.sdq.length) (List.length [AX.t 181]);
 let q77:=pl (pl 0 x.ebq.length) (List.length [AX.t 210]);
 let q78:Split×Pos×Bool->List XV:=fun s=>[aG s.1,dZ s.2.1,.bool s.2.2];
 let q79:Pos->Split×Pos×Bool->Prop:=fun y s=>y=goF s.1 s.2.1 s.2.2;
 let q80:=decide (pl x.ebq.length 1<=pl x.ebq.length 1);
 let q81:Pos->XV:=fun y=>.agg 38 (q14::q15::dZ y::.int .i64 (IntKind.wrap .i64 (x.aE+2))::q48);
 let q82:Cell×Int×Bool->Int->Int->List XV:=fun y y_1 y_2=>aB 3 cO x.ldq::aB 1 dA x.sdq::aB 1 dA x.aeq::aB 1 cL x.abq::(.row false 1 (pl
  x.ebq.length 1) fun i=>.bool (cond (decide (i<x.ebq.length)) (ix x.ebq i) (Alu.tkB y.1.ins.op y_1 y_2)))::q17;
 let q83:Pos->XV:=fun y=>.agg 38 (q14::q15::dZ y::q49);
 let q84:=(↑(pl 0 x.abq.length):Int);
 let q85:=x.abq.length-1;
 let q86:=decide (pl 1 q85<=x.abq.length);
 let q87:List XV:=aB 3 cO x.ldq::aB 1 dA x.sdq::aB 1 dA x.aeq::(.row false 1 q85 fun i=>cL (ix x.abq (pl 1 i)))::q18;cond q2 (cond (gP (fun i
  => true) x.ldq.length) (cond (decide (x.sdq.length*4<=140737488355328)) (cond (decide (x.aeq.length*4<=140737488355328)) (cond (decide (x.abq.length*1<=140737488355328)) (cond (decide (x.ebq.length*1<=140737488355328)) (cond (decide (x.saq.length*32<=140737488355328)) (cond (decide (x.table.length*64<=140737488355328)) (cond (decide (x.mem.length
  * 1<=140737488355328)) (cond (decide (x.writes.length*24<=140737488355328)) (cond q3 (cond q4 (cond q5 (cond q6 (cond q7 (cond q8 (cond q9 (cond q10 (cond q11 (∃(s_1:Cfg×Split×Stt),aI [aV c,aG s,aP x] [aV s_1.1,aG s_1.2.1,aP s_1.2.2]/\aN s_1.2.2.ok/\∀(y:Bool),y=aU s_1.1 s_1.2.1
  s_1.2.2->cond (cond (!y) true (!!y)) (cond (cond (cond (!y) true x.e.halted) true (!cond (!y) true x.e.halted)) (cond (cond (cond (!y) true x.e.halted) true (decide (x.e.wait>x.aE))) (cond q3 (cond q4 (cond q5 (cond q6 (cond q7 (cond q8 (cond q9 (cond q10 (cond q11 (aA (aP x) r) False) False) False) False) False) False) False) False) False) (∃(s_2:Split×Bool×Pos),aI [aG s,.bool true,dZ x.e.pos] (q12 s_2)
  /\ q13 s_2/\∀(y:Pos×Bool),y=lU s_2.1 s_2.2.1 (s_2.1.blocks.length+1) s_2.2.2->∃(s_3:Split×Bool×Pos),aI [aG s,.bool true,dZ y.1] (q12 s_3)/\q13 s_3
  /\ ∀(y_1:Cell×Int×Bool),y_1=aW s_3.1 s_3.2.1 s_3.2.2->cond y.2 (cond q3 (cond q4 (cond q5 (cond q6 (cond q7 (cond q8 (cond q9 (cond q10 (cond q11 (cond q3 (cond q4 (cond q5 (cond q6 (cond q7 (cond q8 (cond q9 (cond q10 (cond q11 (cond q3 (cond q4 (cond q5 (cond q6 (cond q7 (cond q8 (cond q9 (cond q10 (cond q11 (cond q3 (cond q4 (cond q5 (cond q6 (cond q7 (cond q8 (cond q9 (cond q10 (cond q11 (cond q3 (cond q4 (cond q5 (cond q6 (cond q7 (cond q8 (cond q9 (cond q10 (cond q11 (∃(s_4:Split×Int),aI [aG s,.int .i64 y.1.block] [aG s_4.1,.int .i64 s_4.2]/\aN
  True/\∀(y_2:Int),y_2=aCY s_4.1 s_4.2->∃(s:Stt×Int×Int×Int),aI [q23 y,.int .i64 (4:Int),.int .i64 y_1.2.1,.int .i64 y_2] (q27 s)/\q28 s) False) False) False) False) False) False) False) False) False) False) False) False) False) False) False) False) False) False) False) False) False) False) False) False) False) False) False) False) False) False) False) False) False) False) False) False) False) False) False) False) False) False) False) False) False) (cond q3 (cond q4 (cond q5 (cond q6 (cond q7 (cond q8 (cond q9 (cond q10 (cond q11 (∃(s_4:Stt×Int),aI [q23 y,.int .i64 y_1.2.1] [aP s_4.1,.int .i64 s_4.2]/\aN True/\∀(y_2:Bool),y_2=aZ s_4.1
  s_4.2->cond (!y_2) (∃(s_5:cE×Cell×Int),aI [q16 y,dD y_1.1,.int .i64 x.aE] [aR s_5.1,dD s_5.2.1,.int .i64 s_5.2.2]/\aN True/\∀(y_3:Bool),y_3
  = pX s_5.1 s_5.2.1 s_5.2.2->cond (cond y_2 true (!y_3)) (q29 y) (cond (decide (y_1.1.kind=1)) (∃(s:cE×Int),q31 y y_1 s/\aN True/\∀(y_4:Int),q32 y_4
  s->∃(s:cE×Int),q33 y y_1 s/\aN True/\∀(y_5:Int),q32 y_5 s->cond (q34 y_4) (cond (q35 y_4) (cond (q34 y_5) (cond (q35 y_5) (cond (!Alu.dkB y_1.1.ins.op y_1.1.ins.d
  y_1.1.ins.a y_1.1.ins.b y_1.1.ins.imm y_5) (cond q3 (cond q4 (cond q5 (cond q6 (cond q7 (cond q8 (cond q9 (cond q10 (cond q11 (cond q3 (cond q4 (cond q5 (cond q6 (cond q7 (cond q8 (cond q9 (cond q10 (cond q11 (cond q3 (cond q4 (cond q5 (cond q6 (cond q7 (cond q8 (cond q9 (cond q10 (cond q11 (cond q3 (cond q4 (cond q5 (cond q6 (cond q7 (cond q8 (cond q9 (cond q10 (cond q11 (cond q3 (cond q4 (cond q5 (cond q6 (cond q7 (cond q8 (cond q9 (cond q10 (cond q11 (cond q3 (cond q4 (cond q5 (cond q6 (cond q7 (cond q8 (cond q9 (cond q10 (cond q11 (∃(s:Stt×Int×Int
  × Int),aI [q23 y,.int .i64 (3:Int),.int .i64 y_1.2.1,.int .i64 y_1.1.pc] (q27 s)/\q28 s) False) False) False) False) False) False) False) False) False) False) False) False) False) False) False) False) False) False) False) False) False) False) False) False) False) False) False) False) False) False) False) False) False) False) False) False) False) False) False) False) False) False) False) False) False) False) False) False) False) False) False) False) False) False) (∃(s:Cfg×Int),aI [aV
  c,.int .i64 y_1.1.ins.op] [aV s.1,.int .i64 s.2]/\aN True/\∀(y_6:Int),y_6=u9 s.1 s.2->cond (q37 y_1) (cond (q38 y_1) (cond (q39 y_1) (cond (q40 y_1) (cond (q43
  y_1) (cond (q44 y_1) (cond (q44 y_1) (cond (q39 y_1) (cond (q40 y_1) (cond (q46 y_1) (cond (q44 y_1) (cond (q44 y_1) (cond q3 (cond q4 (cond q5 (cond q6 (cond q7 (cond q8 (cond q9 (cond q10 (cond q11 (aA (.agg (92:Nat) (.int .i64 x.aE::aR x.a::.agg (38:Nat) ((.tab (16:Nat) (1:Nat) fun(j:Nat)=>.int .u32
  (cond (Nat.beq j (Int.toNat y_1.1.ins.d)) (Alu.doI y_1.1.ins.op y_1.1.ins.d y_1.1.ins.a y_1.1.ins.b y_1.1.ins.imm y_4 y_5) (x.e.bC j)))::(.tab (16:Nat) (1:Nat) fun(j:Nat)
  => .int .i64 (cond (Nat.beq j (Int.toNat y_1.1.ins.d)) (IntKind.wrap .i64 (x.aE+y_6)) (x.e.ready j)))::q50 y)::q22)) r) False) False) False) False) False) False) False) False) False) False) False) False) False) False) False) False) False) False) False) (cond q3 (cond q4 (cond q5 (cond q6 (cond q7 (cond q8 (cond q9 (cond q10 (cond q11 (aA (.agg 92 (.int .i64 x.aE::aR x.a::q51 y::q22)) r) False) False) False) False) False) False) False) False) False)) False)) False) False) False) False) (cond (decide (y_1.1.kind=6)) (cond (decide ((↑(x.aeq.length)
  : Int)>0)) (cond (decide (0<(↑(x.aeq.length):Int))) (cond (decide (0<x.aeq.length)) (cond (cond (q54 y_1) (q54 y_1) true) (cond (cond (q54 y_1) (decide (y_1.1.reg
  <= 15)) false) (cond (q55 y_1) (cond (q56 y_1) (cond (Nat.beq (q58 y_1) (q58 y_1)) (cond (q59 y_1) (cond (q59 y_1) (cond (q55 y_1) (cond (q56 y_1) (cond (Nat.beq (q60 y_1)
  (q60 y_1)) (cond (q59 y_1) (cond (q59 y_1) (cond q61 (cond q3 (cond q4 (cond q64 (cond q6 (cond q7 (cond q8 (cond q9 (cond q10 (cond q11 (aA (.agg
  92 (.int .i64 x.aE::aR x.a::.agg 38 ((.tab 16 1 fun(j:Nat)=>.int .u32 (cond (Nat.beq j (Int.toNat y_1.1.reg)) (ix x.aeq (0:Nat)) (x.e.bC j)))::(.tab 16 1 fun
  (j:Nat)=>.int .i64 (cond (Nat.beq j (Int.toNat y_1.1.reg)) q65 (x.e.ready j)))::q50 y)::q66)) r) False) False) False) False) False) False) False) False) False) False) False) False) False) False) False) False) False) False) False) False) (cond q61 (cond q3 (cond q4 (cond q64 (cond q6 (cond q7 (cond q8 (cond q9 (cond q10 (cond q11 (aA (.agg 92 (.int .i64 x.aE::aR x.a::q51 y::q66)) r) False) False) False) False) False) False) False) False) False) False)) False) False) False) (q29 y)) (cond (decide (y_1.1.kind=7)) (cond (cond q67 true q70) (cond (cond q71 true q70) (cond (cond q68 true q69) (cond (cond q68 true (!(ix x.ldq 0).full)) (cond q2 (cond (gP (fun i=>true) x.ldq.length) (cond q3 (q29 y) False) False) False) (cond (decide (1<=(↑(x.ldq.length):Int))) (cond (decide (q72*16<=140737488355328)) (cond (gP (fun i=>true) q72) (cond (decide (pl 1 q72<=x.ldq.length)) (cond q67 (cond q71 (cond (q37 y_1) (cond (q38 y_1) (cond (q39 y_1) (cond (q40 y_1) (cond (q43 y_1) (cond (q44 y_1) (cond (q44
  y_1) (cond (q39 y_1) (cond (q40 y_1) (cond (q46 y_1) (cond (q44 y_1) (cond (q44 y_1) (cond q74 (cond q4 (cond q5 (cond q6 (cond q7 (cond q8 (cond q9 (cond q10 (cond q11 (aA (.agg 92 (.int .i64 x.aE::aR x.a::.agg (38:Nat) ((.tab (16:Nat) (1:Nat) fun(j:Nat)=>.int .u32 (cond (Nat.beq j (Int.toNat y_1.1.ins.d)) (Slot.val (ix x.ldq (0:Nat))) (x.e.bC j)))::(.tab (16:Nat) (1:Nat) fun(j:Nat)=>.int .i64 (cond (Nat.beq j (Int.toNat y_1.1.ins.d)) q65 (x.e.ready j)))::q50
  y)::q75)) r) False) False) False) False) False) False) False) False) False) False) False) False) False) False) False) False) False) False) False) (cond q74 (cond q4 (cond q5 (cond q6 (cond q7 (cond q8 (cond q9 (cond q10 (cond q11 (aA (.agg 92 (.int .i64
  x.aE::aR x.a::q51 y::q75)) r) False) False) False) False) False) False) False) False) False)) False) False) False) False) False) False) False)) False) False) False) (cond (decide (y_1.1.kind=8)) (cond (decide ((↑(x.sdq.length):Int)<c.sdq)) (∃(s:cE×Int),aI
  [q16 y,.int .i64 y_1.1.reg] (q30 s)/\aN True/\∀(y_4:Int),q32 y_4 s->cond q4 (cond (decide (pl x.sdq.length 1*4<=140737488355328)) (cond q3 (cond (decide (pl x.sdq.length
  1<=pl x.sdq.length 1)) (cond q5 (cond q6 (cond q7 (cond q8 (cond q9 (cond q10 (cond q11 (aA (.agg 92 (.int .i64 x.aE::aR x.a::q51 y::aB 3
  cO x.ldq::(.row false 1 (pl x.sdq.length 1) fun i=>.int .u32 (cond (decide (i<x.sdq.length)) (ix x.sdq i) y_4))::q20)) r) False) False) False) False) False) False) False) False) False) False) False) (q29 y)) (cond (decide (y_1.1.kind=9)) (cond (decide ((↑(x.ebq.length):Int)<c.ebq)) (∃(s_6
  : cE×Int),q31 y y_1 s_6/\aN True/\∀(y_4:Int),q32 y_4 s_6->∃(s_7:cE×Int),q33 y y_1 s_7/\aN True/\∀(y_5:Int),q32 y_5 s_7->cond (q34 y_4) (cond (q35 y_4) (cond (q34 y_5) (cond (q35 y_5) (cond q7 (cond (decide (pl x.ebq.length 1*1<=140737488355328)) (∃(s_8:Split×Pos×Bool),aI [aG s,dZ y.1,.bool (Alu.tkB
  y_1.1.ins.op y_4 y_5)] (q78 s_8)/\aN True/\∀(y:Pos),q79 y s_8->cond (Alu.tkB y_1.1.ins.op y_4 y_5) (cond q3 (cond q4 (cond q5 (cond q6 (cond q80 (cond q8 (cond q9 (cond q10 (cond q11 (aA (.agg (92:Nat) (.int .i64 x.aE::aR x.a::q81 y::q82 y_1 y_4 y_5)) r) False) False) False) False) False) False) False) False) False) (cond q3 (cond q4 (cond q5 (cond q6 (cond q80 (cond q8 (cond q9 (cond q10 (cond q11 (aA (.agg (92:Nat)
  (.int .i64 x.aE::aR x.a::q83 y::q82 y_1 y_4 y_5)) r) False) False) False) False) False) False) False) False) False)) False) False) False) False) False) False) (q29 y)) (cond (decide (y_1.1.kind=10)) (cond (decide ((↑(x.abq.length):Int)>0)) (cond (decide (0<(↑(x.abq.length):Int))) (cond (decide (0<x.abq.length)) (cond (decide (1<=(↑(x.abq.length):Int))) (∃(s_6:Split×Pos×Bool),aI [aG s,dZ y.1,.bool (ix x.abq 0)] (q78 s_6)/\aN
  True/\∀(y:Pos),q79 y s_6->cond (ix x.abq 0) (cond q3 (cond q4 (cond q5 (cond q86 (cond q7 (cond q8 (cond q9 (cond q10 (cond q11 (aA (.agg 92 (.int
  .i64 x.aE::aR x.a::q81 y::q87)) r) False) False) False) False) False) False) False) False) False) (cond q3 (cond q4 (cond q5 (cond q86 (cond q7 (cond q8 (cond q9 (cond q10 (cond q11 (aA (.agg 92 (.int .i64 x.aE::aR x.a::q83 y::q87)) r) False) False) False) False) False) False) False) False) False)) False) False) False) (q29 y)) (cond (decide (y_1.1.kind=11)) (∃(s_6:Split×Pos×Bool),aI
  [aG s,dZ y.1,.bool true] (q78 s_6)/\aN True/\∀(y:Pos),q79 y s_6->cond q3 (cond q4 (cond q5 (cond q6 (cond q7 (cond q8 (cond q9 (cond q10 (cond q11 (aA (.agg 92 (.int .i64 x.aE::aR x.a::q81 y::q22)) r) False) False) False) False) False) False) False) False) False) (cond (decide (y_1.1.kind=12)) (cond q3 (cond q4 (cond q5 (cond q6 (cond q7 (cond q8 (cond q9 (cond q10 (cond q11 (aA (.agg 92 (.int .i64 x.aE ::
  aR x.a::.agg 38 (q14::q15::dZ y.1::.int .i64 x.e.wait::.bool true::q47)::q22)) r) False) False) False) False) False) False) False) False) False) (q29 y)))))))))) (cond y_2 (q29 y) False)) False) False) False) False) False) False) False) False) False))) False) False) False) False) False) False) False) False) False) False) False) False) False) False) False) False) False) False) False) False) False):=by kernel_rfl
theorem bGM:bT zPr TPE:=bQ (gN.app dF) ⟨Alu.aRQ,Alu.aRR,trivial⟩ gM ⟨aMI,aRS,aMJ,aT4,aRT,a00,a8A,a0X,a0Y,a0Z,trivial⟩ trivial
theorem xT (n:Int) {P Q:Prop} (h1:1<=n/\n<=15->P) (h2:¬(1<=n/\n<=15)->Q) :
  cond (cond (decide (n>=1)) (decide (n>=1)) true) (cond (cond (decide (n>=1)) (decide (n<=15)) false) (cond (decide (0<=n)) (cond (decide (n<16)) (cond (decide (n.toNat<16)) (cond (decide (n.toNat<16)) (cond (decide (0<=n)) (cond (decide (n<16)) (cond (decide (n.toNat<16)) (cond (decide (n.toNat<16)) P False) False) False) False) False) False) False) False) Q) False:=by
 by_cases h:1<=n/\n<=15
 ·have a1:n>=1:=h.1;have a2:n<=15:=h.2;have a3:0<=n:=by omega
  have a4:n<16:=by omega
  have a5:n.toNat<16:=by omega
  simp only[a1,a2,a3,a4,a5,zaC,zaB];exact h1 h
 ·by_cases a1:n>=1
  ·have a2:¬n<=15:=fun a=>h ⟨a1,a⟩
   simp only[a1,a2,zaC,zaE,zaB,zaD];exact h2 h
  ·simp only[a1,zaE,zaB,zaD];exact h2 h
theorem r9 {α:Type} [Inhabited α] {x:Bool} {es:Nat} {en:α->XV} {l:List α}:leQ (con (.row x es (l.length-1) fun i=>en (ix l (1+i)))) (con (aB es en l.tail)) := gZ (by simp) (.inl rfl) fun i hi=>aHE (by rw[yQ,Nat.add_comm])
theorem xU {d:cE} (h:d.wf) (n:Int):0<=iU d n/\iU d n<=4294967295:=by
 unfold iU;split
 ·omega
 ·have:=h.1 n.toNat (by omega);unfold gC at this;omega
theorem aML {s:Split} (hs:kQ s) (e:Bool):∀(k:Nat) (p:Pos),p.wf->(lU s e k p).1.wf
 |0,p,h=>h
 |k+1,p,h=>by
  rw[aCW];split
  ·exact h
  split
  ·exact h
  split
  ·exact h
  ·rename_i h1 h2 h3;have hb:=hs.2 (ix s.blocks p.block.toNat) (cA (by omega));exact aML hs e k _ ⟨hb.2.2.2.1,gO,cY _⟩
theorem a1B {s:Split} {x:Stt} (hs:kQ s) (h:x.ok):(atE s x).ok:=by obtain⟨⟨w0,w1,w2,w3⟩,o⟩:=h;exact⟨⟨w0,w1,⟨w2.1,w2.2.1,aML hs true _ _ w2.2.2.1,w2.2.2.2⟩,w3⟩,o⟩
theorem bB8:eV zPr (28,bGK):=bB fun⟨c,s,x⟩ h=>by
 obtain⟨h,hs⟩:x.ok/\kQ s:=h;show Pure _ _ (cons [aV c,aG s,aP x]) (con (aP (eX c s x)));refine fF (u:=80) (k:=20) mix bGM ?_;refine Eq.mpr (bGL c s x _) ?_;obtain⟨b1,b2,b3,b4,b5,b6,b7,b8,b9⟩:=aZ9 h;simp only[b1,b2,b3,b4,b5,b6,b7,b8,b9,aD,zaF,cC,zaC,zaB,zaQ];refine⟨(c,s,x),.rfl,⟨h⟩, ?_⟩;rintro y rfl;show cond (cond (!aU c s x) true (!!aU c s x)) _ _;simp only[bI,zaB];simp only[bor];unfold eX;refine kX (fun h1 => ?_) (fun h1 => ?_)
 ·rw[if_pos (by simpa [or_assoc]using h1)];exact .rfl
 have h1':¬(aU c s x=false\/x.e.halted=true\/x.e.wait>x.aE):=by
  simp only[Bool.or_eq_false_iff,Bool.not_eq_false',zaP]at h1;rintro (h2|h2|h2)
  ·rw[h1.1.1]at h2;cases h2
  ·rw[h1.1.2]at h2;cases h2
  ·exact h1.2 h2
 rw[if_neg h1'];refine⟨(s,true,x.e.pos),.rfl,⟨hs.1⟩, ?_⟩;intro q hq;replace hq:q=aQ s true x.e.pos:=hq;refine⟨(s,true,q.1),.rfl,⟨hs.1⟩, ?_⟩;intro m hm;replace hm:m=aW s true q.1:=hm;have hat:atE s x = { x with e:={ x.e with pos:=q.1 } }:=by rw[hq];rfl
 have hok:=a1B hs h;rw[show(aW s true (atE s x).e.pos)=m by rw[hm,hat],<-hq];have hb:(atE s x).e.pos.block=q.1.block:=by rw[hat]
 rw[hb];generalize hX:atE s x=X at hok hat;have hnote:∀ k st pc:Int,∃ s:Stt×Int×Int×Int,aI [aP X,.int .i64 k,.int .i64 st,.int .i64 pc] [aP s.1,.int .i64 s.2.1,.int .i64 s.2.2.1,.int .i64 s.2.2.2]/\aN s.1.ok/\∀ y:Stt,y=cF s.1 s.2.1 s.2.2.1 s.2.2.2->aA (aP y) (aP (cF X k st pc)):=fun k st pc => ⟨(X,k,st,pc),.rfl,⟨hok⟩,fun y hy=>by rw[hy];exact .rfl⟩
 have hXe:X.e = { x.e with pos:=q.1 }:=by rw[hat]
 have hst:aA (aP X) (aP X):=.rfl;clear hX;subst hat;cases hf:q.2 with
 |true => simp only[zaB,if_true];refine⟨(s,q.1.block),.rfl,⟨trivial⟩, ?_⟩;rintro z rfl;exact hnote _ _ _
 |false =>
  simp only[zaD,zaU,if_false];refine⟨({ x with e:={ x.e with pos:=q.1 } },m.2.1),.rfl,⟨trivial⟩, ?_⟩;intro z hz;replace hz:z=aZ x m.2.1:=hz;rw[<-hz];cases z with
  |true => simp only[zaI,zaD,zaB,true_or,if_true];exact hst
  |false =>
   simp only[zaH,zaD,zaB,zaU,false_or];refine⟨({ x.e with pos:=q.1 },m.1,x.aE),.rfl,⟨trivial⟩, ?_⟩;intro w hw;replace hw:w=pX x.e m.1 x.aE:=hw;rw[<-hw];cases w with
   |false => simp only[zaH,zaB,if_true];exact hst
   |true =>
    simp only[zaI,zaD,Bool.true_eq_false,if_false];clear hz hw hq hm;obtain⟨k,st,ok⟩:=m;show cond (decide (k.kind=1)) _ _;unfold dW;have hX:∀ n,0<=iU { x.e with pos:=q.1 } n/\iU { x.e with pos:=q.1 } n<=4294967295:=xU ⟨h.1.2.2.1.1,h.1.2.2.1.2.1,(hok.1.2.2.1).2.2⟩;by_cases k1:k.kind=1
    ·simp only[k1,zaC,zaB,if_true];refine⟨({ x.e with pos:=q.1 },k.ins.a),.rfl,⟨trivial⟩, ?_⟩;intro va hva;replace hva:va=iU { x.e with pos:=q.1 } k.ins.a:=hva;refine⟨({ x.e with pos:=q.1 },k.ins.b),.rfl,⟨trivial⟩, ?_⟩;intro vb hvb;replace hvb:vb=iU { x.e with pos:=q.1 } k.ins.b:=hvb;have ra:=hX k.ins.a;have rb:=hX k.ins.b;rw[<-hva]at ra;rw[<-hvb]at rb;simp only[ra.1,ra.2,rb.1,rb.2,zaC,zaB];show cond (!Alu.dkB k.ins.op k.ins.d k.ins.a k.ins.b k.ins.imm vb) _ _;cases hd:Alu.dkB k.ins.op k.ins.d k.ins.a k.ins.b k.ins.imm vb with
     |false => rw[if_neg (show ¬doK { x.e with pos:=q.1 } k.ins=true by unfold doK;rw[<-hvb,hd];simp)];exact hnote _ _ _
     |true =>
      rw[if_pos (show doK { x.e with pos:=q.1 } k.ins=true by unfold doK;rw[<-hvb,hd])];refine⟨(c,k.ins.op),.rfl,⟨trivial⟩, ?_⟩;rintro lt rfl;simp only[zaI,zaD];unfold doV;rw[<-hva,<-hvb];refine xT k.ins.d (fun h => ?_) (fun h => ?_)
      ·rw[cV,if_pos h];exact .rfl
      ·rw[cV,if_neg h];exact .rfl
    simp only[k1,zaE,zaD,if_false];by_cases k6:k.kind=6
    ·simp only[k6,zaC,zaB,if_true];by_cases g:x.aeq=[]
     ·simp only[g,List.length_nil,Int.ofNat_zero,Int.lt_irrefl,gt_iff_lt,zaE,zaD,if_true];rw[g]at hst;exact hst
     have g1:0<x.aeq.length:=List.length_pos_iff.2 g;have g2:(0:Int)<(x.aeq.length:Int):=by omega
     have g3:(1:Int)<=(x.aeq.length:Int):=by omega
     have g4:1+(x.aeq.length-1)<=x.aeq.length:=by omega
     simp only[g,g1,g2,g3,g4,gt_iff_lt,zaC,zaB,if_false];refine xT k.reg (fun h => ?_) (fun h => ?_)
     ·rw[cV,if_pos h];refine⟨gK ?_⟩
      repeat' (first|with_reducible exact .refl _|exact bM|refine aF ?_ ?_|exact .refl _|exact r9)
     ·rw[cV,if_neg h];refine⟨gK ?_⟩
      repeat' (first|with_reducible exact .refl _|exact bM|refine aF ?_ ?_|exact .refl _|exact r9)
    simp only[k6,zaE,zaD,if_false];by_cases k7:k.kind=7
    ·simp only[k7,zaC,zaB,if_true];unfold qU;by_cases g:x.ldq=[]
     ·simp only[g,List.length_nil,Int.ofNat_zero,Int.lt_irrefl,Nat.lt_irrefl,zaE,zaC,zaI,zaH,Bool.or_true,Bool.true_or,zaB,zaD,true_or,if_true,zaU,if_false];rw[g]at hst;exact hst
     have g1:0<x.ldq.length:=List.length_pos_iff.2 g;have g2:(0:Int)<(x.ldq.length:Int):=by omega
     have g3:(1:Int)<=(x.ldq.length:Int):=by omega
     have g4:1+(x.ldq.length-1)<=x.ldq.length:=by omega
     have g5:¬(x.ldq.length:Int)=0:=by omega
     have g6:(x.ldq.length-1)*16<=140737488355328:=by omega
     simp only[g1,g2,g3,g4,g5,g6,gt_iff_lt,zaC,zaE,zaB,zaD,Bool.or_true,Bool.true_or,Bool.false_or,zaI,zaH];cases hfl:(ix x.ldq 0).full with
     |false => simp only[g,false_or,if_true,zaH,zaB,zaU,if_false];exact hst
     |true =>
      simp only[g,false_or,Bool.true_eq_false,if_false,zaI,zaD,if_true];refine xT k.ins.d (fun h => ?_) (fun h => ?_)
      ·rw[cV,if_pos h];refine⟨gK ?_⟩
       repeat' (first|with_reducible exact .refl _|exact bM|refine aF ?_ ?_|exact .refl _|exact r9)
      ·rw[cV,if_neg h];refine⟨gK ?_⟩
       repeat' (first|with_reducible exact .refl _|exact bM|refine aF ?_ ?_|exact .refl _|exact r9)
    simp only[k7,zaE,zaD,if_false];by_cases k8:k.kind=8
    ·simp only[k8,zaC,zaB,if_true];by_cases g:(x.sdq.length:Int)<c.sdq
     ·simp only[g,zaC,zaB,if_true];refine⟨({ x.e with pos:=q.1 },k.reg),.rfl,⟨trivial⟩, ?_⟩;intro v hv;replace hv:v=iU { x.e with pos:=q.1 } k.reg:=hv;rw[<-hv];have g6:(x.sdq.length+1)*4<=140737488355328:=by have:=h.2.2.1;omega
      simp only[g6,zaC,zaB];refine⟨gK ?_⟩
      repeat' (first|with_reducible exact .refl _|exact bM|refine aF ?_ ?_|exact .refl _|exact qV (fun i hi=>by simp only[hi,zaC,zaB];rfl) (by simp only[Nat.lt_irrefl,zaE,zaD];rfl))
     ·simp only[g,zaE,zaD,if_false];exact hst
    simp only[k8,zaE,zaD,if_false];by_cases k9:k.kind=9
    ·simp only[k9,zaC,zaB,if_true];by_cases g:(x.ebq.length:Int)<c.ebq
     ·simp only[g,zaC,zaB,if_true];refine⟨({ x.e with pos:=q.1 },k.ins.a),.rfl,⟨trivial⟩, ?_⟩;intro va hva;replace hva:va=iU { x.e with pos:=q.1 } k.ins.a:=hva;refine⟨({ x.e with pos:=q.1 },k.ins.b),.rfl,⟨trivial⟩, ?_⟩;intro vb hvb;replace hvb:vb=iU { x.e with pos:=q.1 } k.ins.b:=hvb;have ra:=hX k.ins.a;have rb:=hX k.ins.b;rw[<-hva]at ra;rw[<-hvb]at rb;have g6:(x.ebq.length+1)*1<=140737488355328:=by have:=h.2.2.2.2.2.1;omega
      simp only[ra.1,ra.2,rb.1,rb.2,g6,zaC,zaB];refine⟨(s,q.1,Alu.tkB k.ins.op va vb),.rfl,⟨trivial⟩, ?_⟩;intro z hz;replace hz:z=goF s q.1 (Alu.tkB k.ins.op va vb):=hz;show cond (Alu.tkB k.ins.op va vb) _ _;rw[show tR { x.e with pos:=q.1 } k.ins=Alu.tkB k.ins.op va vb by unfold tR;rw[hva,hvb]];unfold oD;subst hz;cases Alu.tkB k.ins.op va vb
      ·refine⟨gK ?_⟩
       repeat' (first|with_reducible exact .refl _|exact bM|refine aF ?_ ?_|exact .refl _|exact qV (fun i hi=>by simp only[hi,zaC,zaB];rfl) (by simp only[Nat.lt_irrefl,zaE,zaD];rfl))
      ·refine⟨gK ?_⟩
       repeat' (first|with_reducible exact .refl _|exact bM|refine aF ?_ ?_|exact .refl _|exact qV (fun i hi=>by simp only[hi,zaC,zaB];rfl) (by simp only[Nat.lt_irrefl,zaE,zaD];rfl))
     ·simp only[g,zaE,zaD,if_false];exact hst
    simp only[k9,zaE,zaD,if_false];by_cases k10:k.kind=10
    ·simp only[k10,zaC,zaB,if_true];by_cases g:x.abq=[]
     ·simp only[g,List.length_nil,Int.ofNat_zero,Int.lt_irrefl,gt_iff_lt,zaE,zaD,if_true];rw[g]at hst;exact hst
     have g1:0<x.abq.length:=List.length_pos_iff.2 g;have g2:(0:Int)<(x.abq.length:Int):=by omega
     have g3:(1:Int)<=(x.abq.length:Int):=by omega
     have g4:1+(x.abq.length-1)<=x.abq.length:=by omega
     simp only[g,g1,g2,g3,g4,gt_iff_lt,zaC,zaB,if_false];refine⟨(s,q.1,ix x.abq 0),.rfl,⟨trivial⟩, ?_⟩;intro z hz;replace hz:z=goF s q.1 (ix x.abq 0):=hz;unfold oD;subst hz;cases ix x.abq 0
     ·simp only[zaD];refine⟨gK ?_⟩
      repeat' (first|with_reducible exact .refl _|exact bM|refine aF ?_ ?_|exact .refl _|exact r9)
     ·simp only[zaB];refine⟨gK ?_⟩
      repeat' (first|with_reducible exact .refl _|exact bM|refine aF ?_ ?_|exact .refl _|exact r9)
    simp only[k10,zaE,zaD,if_false];by_cases k11:k.kind=11
    ·simp only[k11,zaC,zaB,if_true];refine⟨(s,q.1,true),.rfl,⟨trivial⟩, ?_⟩;intro z hz;replace hz:z=goF s q.1 true:=hz;subst hz;exact .rfl
    simp only[k11,zaE,zaD,if_false];by_cases k12:k.kind=12
    ·simp only[k12,zaC,zaB,if_true];exact .rfl
    simp only[k12,zaE,zaD,if_false];exact hst
set_option maxRecDepth 100000
def TPF:Tab:=fW qq (jB++eU) [] jA [(54,a0R)] []
def qW (c:Cfg) (s:Split) (x:Stt):Bool:=!x.e.halted&&((aW s false x.a.pos).2.2&&((aW s true x.e.pos).2.2&&decide ((aW s false x.a.pos).2.1>=IntKind.i64.wrap ((aW s true x.e.pos).2.1+c.jW))))
def bGN:List XV->Option ((XV->Prop)->Prop):=eZ (fun q:Cfg×Split×Stt=>[aV q.1,aG q.2.1,aP q.2.2]) (fun q=>q.2.1.blocks.length<=1000000) (fun q=>qW q.1 q.2.1 q.2.2) (fun y=>.bool y)
def gY (d:cE) (i:Ins):Int:=IntKind.u32.wrap (iU d i.a+IntKind.u32.wrap i.imm)
def TPA:Tab:=fW qq (jB++eU) [(44,Alu.a0N),(49,Alu.a0Q),(43,aRK),(42,aKC)] jA [(24,a0C),(57,a56),(54,a0R),(59,endS'),(55,a57),(61,bBX),(60,bGN),(103,goS'),(62,bBY),(64,bBZ),(58,bB0),(99,bF3),(100,bF5),(102,bAX)] []
def aDZ (c:Cfg) (x:Stt) (k:Cell) (st:Int):Stt :=
 let ad:=gY x.a k.ins
 let sz:=szI k.ins.op
 let e:=fK x.saq (IntKind.i64.wrap ad) sz
 let v:=o9 e.1 k.ins.op (IntKind.i64.wrap ad)
 if ¬dV sz ad x.mem.length=0 then cF x (dV sz ad x.mem.length) st k.pc
 else if(e.2=true/\v.2=false)\/(e.2=false/\(x.table.length:Int)>=c.bN)then x
 else if k.kind=3 then
  (if(x.ldq.length:Int)>=c.ldq then x
   else if e.2 then { x with ldq:=(fG (x.ldq++[⟨x.tags,false,0⟩]) x.tags v.1).1,tags:=IntKind.i64.wrap (x.tags+1),a:=onF x.a }
   else { x with ldq:=x.ldq++[⟨x.tags,false,0⟩],tags:=IntKind.i64.wrap (x.tags+1),a:=onF x.a,table:=x.table++[⟨false,k.ins.op,IntKind.i64.wrap ad,sz,0,0,-1,x.tags⟩] })
 else if e.2 then { x with a:=onF (cV x.a k.ins.d v.1 (IntKind.i64.wrap (x.aE+1))) }
 else { x with a:=onF (if k.ins.d=0 then x.a else { x.a with ready:=fun i=>cond (Nat.beq i k.ins.d.toNat) (-1) (x.a.ready i) }),table:=x.table++[⟨false,k.ins.op,IntKind.i64.wrap ad,sz,0,0,k.ins.d,0⟩] }
def dN (c:Cfg) (s:Split) (x:Stt) (k:Cell) (st:Int):Stt :=
 if k.kind=1 then(if doK x.a k.ins then { x with a:=onF (cV x.a k.ins.d (doV x.a k.ins) (IntKind.i64.wrap (x.aE+u9 c k.ins.op))) } else cF x 3 st k.pc)
 else if k.kind=5 then(if(x.aeq.length:Int)<c.aeq then { x with a:=onF x.a,aeq:=x.aeq++[iU x.a k.reg] } else x)
 else if k.kind=2\/k.kind=3 then aDZ c x k st
 else if k.kind=4 then
  (if ¬dV (szI k.ins.op) (gY x.a k.ins) x.mem.length=0 then cF x (dV (szI k.ins.op) (gY x.a k.ins) x.mem.length) st k.pc
   else if(x.saq.length:Int)>=c.saq then x
   else { x with a:=onF x.a,saq:=x.saq++[⟨IntKind.i64.wrap (gY x.a k.ins),szI k.ins.op,st,false,0⟩] })
 else if k.kind=9 then(if(x.abq.length:Int)<c.abq then { x with a:=oD s x.a (tR x.a k.ins) x.aE,abq:=x.abq++[tR x.a k.ins] } else x)
 else if k.kind=10 then(if x.ebq=[]then x else { x with a:=oD s x.a (ix x.ebq 0) x.aE,ebq:=x.ebq.tail })
 else if k.kind=11 then { x with a:=oD s x.a true x.aE }
 else if k.kind=12 then { x with a:=aC4 x.a }
 else x
def atA (s:Split) (x:Stt):Stt:={ x with a:={ x.a with pos:=(aQ s false x.a.pos).1 } }
def fL (c:Cfg) (s:Split) (x:Stt):Stt :=
 if aU c s x=false\/x.a.halted=true\/x.a.wait>x.aE then x
 else if(aQ s false x.a.pos).2 then cF (atA s x) 4 (aW s false (atA s x).a.pos).2.1 (aCY s (atA s x).a.pos.block)
 else if aZ x (aW s false (atA s x).a.pos).2.1=true\/qW c s (atA s x)=true\/pX x.a (aW s false (atA s x).a.pos).1 x.aE=false then atA s x
 else dN c s (atA s x) (aW s false (atA s x).a.pos).1 (aW s false (atA s x).a.pos).2.1
def bGO:List XV->Option ((XV->Prop)->Prop):=eZ (fun q:Cfg×Split×Stt=>[aV q.1,aG q.2.1,aP q.2.2]) (fun q=>q.2.2.ok/\kQ q.2.1) (fun q=>fL q.1 q.2.1 q.2.2) (fun y=>aP y)
theorem bGP (c:Cfg) (s:Split) (x:Stt) (r:XV):(aO TPF 80 (bL TPF 80 20) 60 [aV c,aG s,aP x] (fun v=>aA v r))=(
 let q1:Split×Bool×Pos->List XV:=fun s=>[aG s.1,.bool s.2.1,dZ s.2.2];
 let q2:Split×Bool×Pos->Prop:=fun s=>aN (s.1.blocks.length<=1000000);
 let q3:Cell×Int×Bool->Split×Bool×Pos->Prop:=fun y s=>y=aW s.1 s.2.1 s.2.2;
 let q4:Cell×Int×Bool->Bool:=fun y=>cond (!x.e.halted) y.2.2 false;
 let q5:Cell×Int×Bool->Cell×Int×Bool->Bool:=fun y y_1=>cond (q4 y) y_1.2.2 false;
 let q6:Cell×Int×Bool->Int:=fun y=>IntKind.wrap .i64 (y.2.1+c.jW);∃(s_1:Split×Bool×Pos),aI [aG s,.bool false,dZ x.a.pos] (q1 s_1)/\q2 s_1/\∀(y
  : Cell×Int×Bool),q3 y s_1->∃(s_2:Split×Bool×Pos),aI [aG s,.bool true,dZ x.e.pos] (q1 s_2)/\q2 s_2/\∀(y_1:Cell×Int×Bool),q3 y_1 s_2->cond (cond (!x.e.halted) (!x.e.halted) true) (cond (cond (q4 y) (q4 y) true) (cond (cond (q5 y y_1) (q5 y y_1) true) (aA (.bool (cond (q5 y y_1) (decide (y.2.1>=q6 y_1)) false))
  r) False) False) False):=by kernel_rfl 
theorem bGQ (c:Cfg) (s:Split) (x:Stt) (r:XV):(aO TPA 80 (bL TPA 80 20) 27 [aV c,aG s,aP x] (fun v=>aA v r))=(
 let q1:=x.ldq.length*16;
 let q2:=decide (q1<=140737488355328);
 let q3:=x.saq.length*32<=140737488355328;
 let q4:=decide (x.ldq.length<=x.ldq.length);
 let q5:=decide (x.sdq.length<=x.sdq.length);
 let q6:=decide (x.aeq.length<=x.aeq.length);
 let q7:=decide (x.abq.length<=x.abq.length);
 let q8:=decide (x.ebq.length<=x.ebq.length);
 let q9:=pl 0 (pl 0 x.saq.length);
 let q10:=decide (x.saq.length<=x.saq.length);
 let q11:=decide (x.table.length<=x.table.length);
 let q12:=decide (x.mem.length<=x.mem.length);
 let q13:=decide (x.writes.length<=x.writes.length);
 let q14:Cfg×Split×Stt->List XV:=fun s=>[aV s.1,aG s.2.1,aP s.2.2];
 let q15:Split×Bool×Pos->List XV:=fun s=>[aG s.1,.bool s.2.1,dZ s.2.2];
 let q16:Split×Bool×Pos->Prop:=fun s=>aN (s.1.blocks.length<=1000000);
 let q17:XV:=.tab 16 1 fun i=>.int .u32 (x.a.bC i);
 let q18:XV:=.tab 16 1 fun i=>.int .i64 (x.a.ready i);
 let q19:Pos×Bool->XV:=fun y=>.agg 38 [q17,q18,dZ y.1,.int .i64 x.a.wait,.bool x.a.halted,.int .i64 x.a.done];
 let q20:List XV:=[aB 1 eP x.mem,aB 3 mQ x.writes,lH x.aT,.int .i64 x.dR,.int .i64 x.cG,.int .i64 x.tags];
 let q21:List XV:=aB 8 dS x.table::q20;
 let q22:List XV:=aB 5 cB x.saq::q21;
 let q23:List XV:=aB 1 cL x.ebq::q22;
 let q24:List XV:=aB 1 cL x.abq::q23;
 let q25:List XV:=aR x.e::aB 3 cO x.ldq::aB 1 dA x.sdq::aB 1 dA x.aeq::q24;
 let q26:Pos×Bool->XV:=fun y=>.agg 92 (.int .i64 x.aE::q19 y::q25);
 let q27:Stt×Int×Int×Int->Int:=fun s=>s.2.1;
 let q28:Stt×Int×Int×Int->Int:=fun s=>s.2.2.1;
 let q29:Stt×Int×Int×Int->Int:=fun s=>s.2.2.2;
 let q30:Stt×Int×Int×Int->List XV:=fun s=>[aP s.1,.int .i64 (q27 s),.int .i64 (q28 s),.int .i64 (q29 s)];
 let q31:Stt×Int×Int×Int->Prop:=fun s=>aN s.1.ok/\∀(y:Stt),y=cF s.1 (q27 s) (q28 s) (q29 s)->aA (aP y) r;
 let q32:Pos×Bool->Prop:=fun y=>cond q4 (cond q5 (cond q6 (cond q7 (cond q8 (cond q10 (cond q11 (cond q12 (cond q13 (aA (q26 y) r) False) False) False) False) False) False) False) False) False;
 let q33:cE×Int->List XV:=fun s=>[aR s.1,.int .i64 s.2];
 let q34:Pos×Bool->Cell×Int×Bool->cE×Int->Prop:=fun y y_1 s=>aI [q19 y,.int .i64 y_1.1.ins.a] (q33 s);
 let q35:Int->cE×Int->Prop:=fun y s=>y=iU s.1 s.2;
 let q36:Pos×Bool->Cell×Int×Bool->cE×Int->Prop:=fun y y_1 s=>aI [q19 y,.int .i64 y_1.1.ins.b] (q33 s);
 let q37:=fun(y:Int)=>decide (0<=y);
 let q38:=fun(y:Int)=>decide (y<=4294967295);
 let q39:Cell×Int×Bool->List XV:=fun y=>[.int .i64 y.2.1,.int .i64 y.1.pc];
 let q40:Cell×Int×Bool->Bool:=fun y=>decide (y.1.ins.d>=1);
 let q41:Cell×Int×Bool->Bool:=fun y=>cond (q40 y) (q40 y) true;
 let q42:Cell×Int×Bool->Bool:=fun y=>cond (q40 y) (decide (y.1.ins.d<=15)) false;
 let q43:Cell×Int×Bool->Bool:=fun y=>decide (0<=y.1.ins.d);
 let q44:Cell×Int×Bool->Bool:=fun y=>decide (y.1.ins.d<16);
 let q45:Cell×Int×Bool->Nat:=fun y=>Int.toNat y.1.ins.d*1;
 let q46:Cell×Int×Bool->Nat:=fun y=>pl 1 (q45 y);
 let q47:Cell×Int×Bool->Bool:=fun y=>Nat.beq (q46 y) (q46 y);
 let q48:Cell×Int×Bool->Bool:=fun y=>decide (Int.toNat y.1.ins.d<16);
 let q49:Cell×Int×Bool->Nat:=fun y=>pl 17 (q45 y);
 let q50:Cell×Int×Bool->Bool:=fun y=>Nat.beq (q49 y) (q49 y);
 let q51:List XV:=[.int .i64 (IntKind.wrap .i64 (x.a.done+1))];
 let q52:List XV:=.bool x.a.halted::q51;
 let q53:List XV:=.int .i64 x.a.wait::q52;
 let q54:Pos×Bool->List XV:=fun y=>.agg 3 [.int .i64 y.1.block,.int .i64 (IntKind.wrap .i64 (y.1.index+1)),.int .i64 y.1.base]::q53;
 let q55:Pos×Bool->XV:=fun y=>.agg 38 (q17::q18::q54 y);
 let q56:Pos×Bool->Prop:=fun y=>cond q4 (cond q5 (cond q6 (cond q7 (cond q8 (cond q10 (cond q11 (cond q12 (cond q13 (aA (.agg 92 (.int .i64 x.aE
  :: q55 y::q25)) r) False) False) False) False) False) False) False) False) False;
 let q57:=List.length [AX.t 144];
 let q58:=pl (pl 0 x.aeq.length) q57;
 let q59:Cell×Int×Bool->Bool:=fun y=>decide (y.1.kind=2);
 let q60:Int->Cell×Int×Bool->Int:=fun y y_1=>IntKind.wrap .u32 (y+IntKind.wrap .u32 y_1.1.ins.imm);
 let q61:Cell×Int×Bool->Int->Int:=fun y y_1=>dV (szI y.1.ins.op) (q60 y_1 y) (↑(x.mem.length):Int);
 let q62:Cell×Int×Bool->Int->Int:=fun y y_1=>dV (szI y.1.ins.op) (q60 y_1 y) (↑(pl 0 x.mem.length):Int);
 let q63:Cell×Int×Bool->Int->Bool:=fun y y_1=>decide ¬q61 y y_1=0;
 let q64:Pos×Bool->Cell×Int×Bool->Int->Prop:=fun y y_1 y_2=>cond q4 (cond q5 (cond q6 (cond q7 (cond q8 (cond q10 (cond q11 (cond q12 (cond q13 (cond q4 (cond q5 (cond q6 (cond q7 (cond q8 (cond q10 (cond q11 (cond q12 (cond q13 (cond q4 (cond q5 (cond q6 (cond q7 (cond q8 (cond q10 (cond q11 (cond q12 (cond q13 (cond q4 (cond q5 (cond q6 (cond q7 (cond q8 (cond q10 (cond q11 (cond q12 (cond q13 (cond q4 (cond q5 (cond q6 (cond q7 (cond q8 (cond q10 (cond q11 (cond q12 (cond q13 (cond q4 (cond q5 (cond q6 (cond q7 (cond q8 (cond q10 (cond q11 (cond q12 (cond q13 (∃(s:Stt×Int×Int×Int),aI (q26 y::.int .i64 (q61 y_1 y_2)::q39 y_1) (q30 s)/\q31 s) False) False) False) False) False) False) False) False) False) False) False) False) False) False) False) False) False) False) False) False) False) False) False) False) False) False) False) False) False) False) False) False) False) False) False) False) False) False) False) False) False) False) False) False) False) False) False) False) False) False) False) False) False) False;
 let q65:Int->Cell×Int×Bool->Int:=fun y y_1=>IntKind.wrap .i64 (q60 y y_1);
 let q66:Int->Cell×Int×Bool->XV:=fun y y_1=>.int .i64 (q65 y y_1);
 let q67:Entry×Bool->Int×Bool->Bool:=fun y y_1=>cond y.2 (!y_1.2) false;
 let q68:Entry×Bool->Int×Bool->Bool:=fun y y_1 => !q67 y y_1;
 let q69:Entry×Bool->Int×Bool->Bool:=fun y y_1 => !q68 y y_1;
 let q70:Cell×Int×Bool->Bool:=fun y=>decide (y.1.kind=3);
 let q71:=pl x.ldq.length (List.length [AX.t 17]);
 let q72:=decide (pl x.ldq.length 1<=pl x.ldq.length 1);
 let q73:=fun(i:Nat)=>decide (i<x.ldq.length);
 let q74:XV:=.row false 3 (pl x.ldq.length 1) fun i=>.agg 3 [.int .i64 (cond (q73 i) ((ix x.ldq i).tag) x.tags),.bool (cond (q73 i) ((ix x.ldq i).full) false),.int
  .u32 (cond (q73 i) ((ix x.ldq i).val) (0:Int))];
 let q75:List XV:=[aB 1 eP x.mem,aB 3 mQ x.writes,lH x.aT,.int .i64 x.dR,.int .i64 x.cG,.int .i64 (IntKind.wrap .i64 (x.tags+1))];
 let q76:List XV:=aB 1 dA x.sdq::aB 1 dA x.aeq::aB 1 cL x.abq::aB 1 cL x.ebq::aB 5 cB x.saq::aB 8 dS x.table::q75;
 let q77:=pl (pl 0 x.table.length) q57;
 let q78:=decide (pl x.table.length 1*64<=140737488355328);
 let q79:=decide (pl x.table.length 1<=pl x.table.length 1);
 let q80:=fun(i:Nat)=>decide (i<x.table.length);
 let q81:Nat->XV:=fun i=>.bool (cond (q80 i) ((ix x.table i).store) false);
 let q82:Nat->Cell×Int×Bool->XV:=fun i y=>.int .i64 (cond (q80 i) ((ix x.table i).op) y.1.ins.op);
 let q83:Nat->Int->Cell×Int×Bool->XV:=fun i y y_1=>.int .i64 (cond (q80 i) ((ix x.table i).addr) (q65 y y_1));
 let q84:Nat->Cell×Int×Bool->XV:=fun i y=>.int .i64 (cond (q80 i) ((ix x.table i).size) (szI y.1.ins.op));
 let q85:Nat->XV:=fun i=>.int .u32 (cond (q80 i) ((ix x.table i).val) (0:Int));
 let q86:Nat->XV:=fun i=>.int .i64 (cond (q80 i) ((ix x.table i).left) (0:Int));
 let q87:Cell×Int×Bool->Int×Bool->Pos×Bool->XV:=fun y y_1 y_2=>.agg 38 ((.tab 16 1 fun j=>.int .u32 (cond (Nat.beq j (Int.toNat y.1.ins.d)) y_1.1 (x.a.bC j)))
  :: (.tab 16 1 fun j=>.int .i64 (cond (Nat.beq j (Int.toNat y.1.ins.d)) (IntKind.wrap .i64 (x.aE+1)) (x.a.ready j)))::q54 y_2);
 let q88:Cell×Int×Bool->Int->List XV:=fun y y_1=>aR x.e::aB 3 cO x.ldq::aB 1 dA x.sdq::aB 1 dA x.aeq::aB 1 cL x.abq::aB 1 cL
  x.ebq::aB 5 cB x.saq::(.row false 8 (pl x.table.length 1) fun i=>.agg 8 [q81 i,q82 i y,q83 i y_1 y,q84 i y,q85 i,q86 i,.int .i64 (cond (q80 i) ((ix x.table i).reg) y.1.ins.d),.int .i64 (cond (q80 i) ((ix x.table i).tag) (0:Int))])::q20;
 let q89:Entry×Bool->Pos×Bool->Cell×Int×Bool->Int->Prop:=fun y y_1 y_2 y_3=>cond (!y.2) (cond q11 (cond q78 (cond q4 (cond q5 (cond q6 (cond q7 (cond q8 (cond q10 (cond q79 (cond q12 (cond q13 (aA (.agg 92 (.int .i64 x.aE::q55 y_1::q88 y_2 y_3)) r) False) False) False) False) False) False) False) False) False) False) False) (q56 y_1);
 let q90:Cell×Int×Bool->Prop:=fun y=>y.1.ins.d=0;
 let q91:Cell×Int×Bool->Pos×Bool->XV:=fun y y_1=>.agg 38 (q17::(.tab 16 1 fun j=>.int .i64 (cond (Nat.beq j (Int.toNat y.1.ins.d)) (-1:Int) (x.a.ready j))) ::
  q54 y_1);
 let q92:Pos×Bool->Cell×Int×Bool->Prop:=fun y y_1=>cond q4 (cond q5 (cond q6 (cond q7 (cond q8 (cond q10 (cond q11 (cond q12 (cond q13 (∃(s
  : cE×Int),q34 y y_1 s/\aN True/\∀(y_2:Int),q35 y_2 s->cond (q63 y_1 y_2) (cond q12 (q64 y y_1 y_2) False) (cond q10 (∃(s:List Entry×Int×Int),aI
  [aB 5 cB x.saq,q66 y_2 y_1,.int .i64 (szI y_1.1.ins.op)] [aB 5 cB s.1,.int .i64 s.2.1,.int .i64 s.2.2]/\aN (s.1.length<=1000000/\(∀(e:Entry),e∈s.1 ->
  e.wf)/\bK s.2.1/\bK s.2.2)/\∀(y_3:Entry×Bool),y_3=fK s.1 s.2.1 s.2.2->∃(s:Entry×Int×Int),aI [cB y_3.1,.int .i64 y_1.1.ins.op,q66 y_2 y_1] [cB
  s.1,.int .i64 s.2.1,.int .i64 s.2.2]/\aN s.1.wf/\∀(y_4:Int×Bool),y_4=o9 s.1 s.2.1 s.2.2->cond (cond y_3.2 y_3.2 true) (cond (cond (q68 y_3 y_4) true (q69 y_3 y_4)) (cond (cond (cond (!y_3.2) (cond (q68 y_3 y_4) (!y_3.2) false) true) true (q69 y_3 y_4)) (cond (cond (q67 y_3 y_4) true (q68 y_3 y_4)) (cond (cond (q67 y_3 y_4) true (cond (!y_3.2) (decide ((↑(x.table.length):Int)>=c.bN)) false)) (q32 y) (cond (q70 y_1) (cond q2 (cond (gP (fun i=>true) x.ldq.length) (cond q4 (cond (decide ((↑(x.ldq.length):Int)>=c.ldq)) (q32 y) (cond q4 (cond (decide (pl x.ldq.length 1*16<=140737488355328)) (cond y_3.2 (cond q72 (cond q72 (cond q72 (cond q4 (cond q10 (cond q12 (cond q4 (cond q5 (cond q6 (cond q7 (cond q8 (cond q10 (cond q11 (cond q12 (cond q13 (cond q4 (cond q5 (cond q6 (cond q7 (cond q8 (cond q10 (cond q11 (cond q12 (cond q13 (cond q72 (cond q5 (cond q6 (cond q7 (cond q8 (cond q10 (cond q11 (cond q12 (cond q13 (cond q4 (cond q5 (cond q6 (cond q7 (cond q8 (cond q10 (cond q11 (cond q12 (cond q13 (cond q4 (cond q5 (cond q6 (cond q7 (cond q8 (cond q10 (cond q11 (cond q12 (cond q13 (cond q4 (cond q5 (cond q6 (cond q7 (cond q8 (cond q10 (cond q11 (cond q12 (cond q13 (∃(s:List Slot×Int×Int),aI [q74,.int .i64 x.tags,.int .u32 y_4.1] [aB (3:Nat) cO s.1,.int .i64 s.2.1,.int .u32 s.2.2]/\aN (s.1.length<=(1000000:Nat))
  /\ ∀(y_5:List Slot×Bool),y_5=fG s.1 s.2.1 s.2.2->cond (!y_3.2) False (aA (.agg (92:Nat) (.int .i64 x.aE::q55 y::aR x.e::aB (3:Nat) cO y_5.1
  :: q76)) r)) False) False) False) False) False) False) False) False) False) False) False) False) False) False) False) False) False) False) False) False) False) False) False) False) False) False) False) False) False) False) False) False) False) False) False) False) False) False) False) False) False) False) False) False) False) False) False) False) False) False) False) False) False) False) False) False) False) False) False) False) (cond (!y_3.2) (cond q11 (cond q78 (cond q72 (cond q5 (cond q6 (cond q7 (cond q8 (cond q10 (cond q79 (cond q12 (cond q13 (aA (.agg 92 (.int .i64 x.aE::q55 y::aR x.e::q74::aB 1 dA
  x.sdq::aB 1 dA x.aeq::aB 1 cL x.abq::aB 1 cL x.ebq::aB 5 cB x.saq::(.row false 8 (pl x.table.length 1) fun i=>.agg 8 [q81 i,q82 i y_1,q83 i
  y_2 y_1,q84 i y_1,q85 i,q86 i,.int .i64 (cond (q80 i) ((ix x.table i).reg) (-1:Int)),.int .i64 (cond (q80 i) ((ix x.table i).tag) x.tags)])::q75)) r) False) False) False) False) False) False) False) False) False) False) False) (cond q72 (cond q5 (cond q6 (cond q7 (cond q8 (cond q10 (cond q11 (cond q12 (cond q13 (aA (.agg 92 (.int .i64 x.aE::q55 y::aR x.e::q74::q76)) r) False) False) False) False) False) False) False) False) False))) False) False)) False) False) False) (cond y_3.2 (cond (q41 y_1) (cond (q42 y_1) (cond (q43 y_1) (cond (q44 y_1) (cond (q47 y_1) (cond (q48 y_1) (cond (q48 y_1) (cond (q43 y_1) (cond (q44 y_1) (cond (q50 y_1) (cond (q48 y_1) (cond (q48 y_1) (cond (!y_3.2) (cond q11 (cond q78 (cond q4 (cond q5 (cond q6 (cond q7 (cond q8 (cond q10 (cond q79 (cond q12 (cond q13 (aA (.agg 92 (.int .i64 x.aE::q87 y_1 y_4 y::q88 y_1 y_2)) r) False) False) False) False) False) False) False) False) False) False) False) (cond q4 (cond q5 (cond q6 (cond q7 (cond q8 (cond q10 (cond q11 (cond q12 (cond q13 (aA (.agg 92 (.int .i64 x.aE::q87 y_1 y_4 y::q25)) r) False) False) False) False) False) False) False) False) False)) False) False) False) False) False) False) False) False) False) False) (q89 y_3 y y_1 y_2)) False) (cond (decide ¬q90
  y_1) (cond (q43 y_1) (cond (q44 y_1) (cond (q50 y_1) (cond (q48 y_1) (cond (q48 y_1) (cond (!y_3.2) (cond q11 (cond q78 (cond q4 (cond q5 (cond q6 (cond q7 (cond q8 (cond q10 (cond q79 (cond q12 (cond q13 (aA (.agg 92 (.int .i64 x.aE::q91 y_1 y::q88 y_1 y_2)) r) False) False) False) False) False) False) False) False) False) False) False) (cond q4 (cond q5 (cond q6 (cond q7 (cond q8 (cond q10 (cond q11 (cond q12 (cond q13 (aA (.agg 92 (.int .i64 x.aE::q91 y_1 y::q25)) r) False) False) False) False) False) False) False) False) False)) False) False) False) False) False) (q89 y_3 y y_1 y_2))))) False) False) False) False) False)) False) False) False) False) False) False) False) False) False;
 let q93:=pl q9 (List.length [AX.t 16]);
 let q94:=fun(i:Nat)=>decide (i<x.saq.length);
 let q95:=pl (pl 0 x.abq.length) (List.length [AX.t 221]);
 let q96:Split×Pos×Bool->List XV:=fun s=>[aG s.1,dZ s.2.1,.bool s.2.2];
 let q97:Pos->Split×Pos×Bool->Prop:=fun y s=>y=goF s.1 s.2.1 s.2.2;
 let q98:=decide (pl x.abq.length 1<=pl x.abq.length 1);
 let q99:Pos->XV:=fun y=>.agg 38 (q17::q18::dZ y::.int .i64 (IntKind.wrap .i64 (x.aE+2))::q52);
 let q100:Cell×Int×Bool->Int->Int->List XV:=fun y y_1 y_2=>aR x.e::aB 3 cO x.ldq::aB 1 dA x.sdq::aB 1 dA x.aeq::(.row false 1 (pl x.abq.length
  1) fun i=>.bool (cond (decide (i<x.abq.length)) (ix x.abq i) (Alu.tkB y.1.ins.op y_1 y_2)))::q23;
 let q101:Pos->XV:=fun y=>.agg 38 (q17::q18::dZ y::q53);
 let q102:=(↑(pl 0 x.ebq.length):Int);
 let q103:=x.ebq.length-1;
 let q104:=decide (pl 1 q103<=x.ebq.length);
 let q105:List XV:=aR x.e::aB 3 cO x.ldq::aB 1 dA x.sdq::aB 1 dA x.aeq::aB 1 cL x.abq::(.row false 1 q103 fun i=>cL (ix x.ebq (pl 1
  i)))::q22;
 let q106:Cell×Int×Bool->Pos×Bool->Prop:=fun y y_1=>cond (decide (y.1.kind=4)) (cond q4 (cond q5 (cond q6 (cond q7 (cond q8 (cond q10 (cond q11 (cond q12 (cond q13 (∃(s:cE×Int),q34 y_1 y s/\aN True/\∀(y_2:Int),q35 y_2 s->cond (q63 y y_2) (cond q12 (cond q4 (cond q5 (cond q6 (cond q7 (cond q8 (cond q10 (cond q11 (cond q12 (cond q13 (cond q4 (cond q5 (cond q6 (cond q7 (cond q8 (cond q10 (cond q11 (cond q12 (cond q13 (q64 y_1 y
  y_2) False) False) False) False) False) False) False) False) False) False) False) False) False) False) False) False) False) False) False) (cond (decide q3) (cond q10 (cond (decide ((↑(x.saq.length):Int)>=c.saq)) (q32 y_1) (cond (decide (x.saq.length<=x.saq.length)) (cond (decide
  (pl x.saq.length 1*32<=140737488355328)) (cond q4 (cond q5 (cond q6 (cond q7 (cond q8 (cond (decide (pl x.saq.length 1<=pl x.saq.length 1)) (cond q11 (cond q12 (cond q13 (aA (.agg 92 (.int .i64 x.aE::q55 y_1::aR x.e::aB 3 cO x.ldq::aB 1 dA x.sdq::aB 1 dA x.aeq::aB 1 cL x.abq::aB
  1 cL x.ebq::(.row false 5 (pl x.saq.length 1) fun i=>.agg 5 [.int .i64 (cond (q94 i) ((ix x.saq i).addr) (q65 y_2 y)),.int .i64 (cond (q94 i) ((ix x.saq i).size) (szI
  y.1.ins.op)),.int .i64 (cond (q94 i) ((ix x.saq i).step) y.2.1),.bool (cond (q94 i) ((ix x.saq i).known) false),.int .u32 (cond (q94 i) ((ix x.saq i).val) (0:Int))])
  :: q21)) r) False) False) False) False) False) False) False) False) False) False) False)) False) False)) False) False) False) False) False) False) False) False) False) (cond (decide (y.1.kind=9)) (cond (decide ((↑(x.abq.length):Int)<c.abq)) (∃(s_1:cE×Int),q34
  y_1 y s_1/\aN True/\∀(y_2:Int),q35 y_2 s_1->∃(s_2:cE×Int),q36 y_1 y s_2/\aN True/\∀(y_3:Int),q35 y_3 s_2->cond (q37 y_2) (cond (q38 y_2) (cond (q37 y_3) (cond (q38 y_3) (cond q7 (cond (decide (pl x.abq.length 1*1<=140737488355328)) (∃(s_3:Split×Pos×Bool),aI [aG s,dZ y_1.1,.bool (Alu.tkB y.1.ins.op y_2 y_3)]
  (q96 s_3)/\aN True/\∀(y_4:Pos),q97 y_4 s_3->cond (Alu.tkB y.1.ins.op y_2 y_3) (cond q4 (cond q5 (cond q6 (cond q98 (cond q8 (cond q10 (cond q11 (cond q12 (cond q13 (aA (.agg 92 (.int .i64 x.aE::q99 y_4::q100 y y_2 y_3)) r) False) False) False) False) False) False) False) False) False) (cond q4 (cond q5 (cond q6 (cond q98 (cond q8 (cond q10 (cond q11 (cond q12 (cond q13 (aA (.agg 92 (.int .i64 x.aE::q101 y_4::q100 y y_2
  y_3)) r) False) False) False) False) False) False) False) False) False)) False) False) False) False) False) False) (q32
  y_1)) (cond (decide (y.1.kind=10)) (cond (decide ((↑(x.ebq.length):Int)>0)) (cond (decide (0<(↑(x.ebq.length):Int))) (cond (decide (0<x.ebq.length)) (cond (decide (1
  <= (↑(x.ebq.length):Int))) (∃(s_1:Split×Pos×Bool),aI [aG s,dZ y_1.1,.bool (ix x.ebq 0)] (q96 s_1)/\aN True/\∀(y:Pos),q97 y s_1->cond (ix x.ebq 0) (cond q4 (cond q5 (cond q6 (cond q7 (cond q104 (cond q10 (cond q11 (cond q12 (cond q13 (aA (.agg 92 (.int .i64 x.aE::q99 y::q105)) r) False) False) False) False) False) False) False) False) False) (cond q4 (cond q5 (cond q6 (cond q7 (cond q104 (cond q10 (cond q11 (cond q12 (cond q13 (aA (.agg 92 (.int .i64 x.aE::q101 y::q105)) r) False) False) False) False) False) False) False) False) False)) False) False) False) (q32 y_1)) (cond (decide (y.1.kind=11)) (∃(s_1:Split×Pos×Bool),aI [aG s,dZ y_1.1,.bool true] (q96 s_1)/\aN True/\∀(y:Pos),
  q97 y s_1->cond q4 (cond q5 (cond q6 (cond q7 (cond q8 (cond q10 (cond q11 (cond q12 (cond q13 (aA (.agg 92 (.int .i64 x.aE::q99 y::q25)) r) False) False) False) False) False) False) False) False) False) (cond (decide (y.1.kind=12)) (cond q4 (cond q5 (cond q6 (cond q7 (cond q8 (cond q10 (cond q11 (cond q12 (cond q13 (aA (.agg 92 (.int .i64 x.aE::.agg 38 (q17::q18::dZ y_1.1::.int .i64 x.a.wait::.bool true::q51)::q25))
  r) False) False) False) False) False) False) False) False) False) (q32 y_1)))));cond q2 (cond (gP (fun i=>true) x.ldq.length) (cond (decide
  (x.sdq.length*4<=140737488355328)) (cond (decide (x.aeq.length*4<=140737488355328)) (cond (decide (x.abq.length*1<=140737488355328)) (cond (decide (x.ebq.length*1<=140737488355328)) (cond (decide q3) (cond (decide (x.table.length*64<=140737488355328)) (cond (decide (x.mem.length*1<=140737488355328)) (cond (decide (x.writes.length*24<=140737488355328)) (cond q4 (cond q5 (cond q6 (cond q7 (cond q8 (cond q10 (cond q11 (cond q12 (cond q13 (∃(s_1:Cfg×Split×Stt),aI [aV c,aG s,aP x]
  (q14 s_1)/\aN s_1.2.2.ok/\∀(y:Bool),y=aU s_1.1 s_1.2.1 s_1.2.2->cond (cond (!y) true (!!y)) (cond (cond (cond (!y) true x.a.halted) true (!cond (!y) true x.a.halted)) (cond (cond (cond (!y) true x.a.halted) true (decide (x.a.wait>x.aE))) (cond q4 (cond q5 (cond q6 (cond q7 (cond q8 (cond q10 (cond q11 (cond q12 (cond q13 (aA (aP x) r) False) False) False) False) False) False) False) False) False) (∃(s_2:Split
  × Bool×Pos),aI [aG s,.bool false,dZ x.a.pos] (q15 s_2)/\q16 s_2/\∀(y:Pos×Bool),y=lU s_2.1 s_2.2.1 (s_2.1.blocks.length+1) s_2.2.2->∃(s_3:Split ×
  Bool×Pos),aI [aG s,.bool false,dZ y.1] (q15 s_3)/\q16 s_3/\∀(y_1:Cell×Int×Bool),y_1=aW s_3.1 s_3.2.1 s_3.2.2->cond y.2 (cond q4 (cond q5 (cond q6 (cond q7 (cond q8 (cond q10 (cond q11 (cond q12 (cond q13 (cond q4 (cond q5 (cond q6 (cond q7 (cond q8 (cond q10 (cond q11 (cond q12 (cond q13 (cond q4 (cond q5 (cond q6 (cond q7 (cond q8 (cond q10 (cond q11 (cond q12 (cond q13 (cond q4 (cond q5 (cond q6 (cond q7 (cond q8 (cond q10 (cond q11 (cond q12 (cond q13 (cond q4 (cond q5 (cond q6 (cond q7 (cond q8 (cond q10 (cond q11 (cond q12 (cond q13 (∃(s_4:Split ×
  Int),aI [aG s,.int .i64 y.1.block] [aG s_4.1,.int .i64 s_4.2]/\aN True/\∀(y_2:Int),y_2=aCY s_4.1 s_4.2->∃(s:Stt×Int×Int×Int),aI [q26 y,
  .int .i64 (4:Int),.int .i64 y_1.2.1,.int .i64 y_2] (q30 s)/\q31 s) False) False) False) False) False) False) False) False) False) False) False) False) False) False) False) False) False) False) False) False) False) False) False) False) False) False) False) False) False) False) False) False) False) False) False) False) False) False) False) False) False) False) False) False) False) (cond q4 (cond q5 (cond q6 (cond q7 (cond q8 (cond q10 (cond q11 (cond q12 (cond q13 (∃(s_4:Stt×Int),aI [q26 y,.int .i64
  y_1.2.1] [aP s_4.1,.int .i64 s_4.2]/\aN True/\∀(y_2:Bool),y_2=aZ s_4.1 s_4.2->cond (!y_2) (cond q4 (cond q5 (cond q6 (cond q7 (cond q8 (cond q10 (cond q11 (cond q12 (cond q13 (∃(s_5:Cfg×Split×Stt),aI [aV c,aG s,q26 y] (q14 s_5)/\aN (s_5.2.1.blocks.length<=1000000)/\∀(y_3:Bool),y_3=qW
  s_5.1 s_5.2.1 s_5.2.2->cond (!cond y_2 true y_3) (∃(s:cE×Cell×Int),aI [q19 y,dD y_1.1,.int .i64 x.aE] [aR s.1,dD s.2.1,.int .i64 s.2.2] /\
  aN True/\∀(y_4:Bool),y_4=pX s.1 s.2.1 s.2.2->cond (cond (cond y_2 true y_3) true (!y_4)) (q32 y) (cond (decide (y_1.1.kind=1)) (∃(s:cE×Int),
  q34 y y_1 s/\aN True/\∀(y_5:Int),q35 y_5 s->∃(s:cE×Int),q36 y y_1 s/\aN True/\∀(y_6:Int),q35 y_6 s->cond (q37 y_5) (cond (q38 y_5) (cond (q37 y_6) (cond (q38 y_6) (cond (!Alu.dkB y_1.1.ins.op y_1.1.ins.d y_1.1.ins.a y_1.1.ins.b y_1.1.ins.imm y_6) (cond q4 (cond q5 (cond q6 (cond q7 (cond q8 (cond q10 (cond q11 (cond q12 (cond q13 (cond q4 (cond q5 (cond q6 (cond q7 (cond q8 (cond q10 (cond q11 (cond q12 (cond q13 (cond q4 (cond q5 (cond q6 (cond q7 (cond q8 (cond q10 (cond q11 (cond q12 (cond q13 (cond q4 (cond q5 (cond q6 (cond q7 (cond q8 (cond q10 (cond q11 (cond q12 (cond q13 (cond q4 (cond q5 (cond q6 (cond q7 (cond q8 (cond q10 (cond q11 (cond q12 (cond q13 (cond q4 (cond q5 (cond q6 (cond q7 (cond q8 (cond q10 (cond q11 (cond q12 (cond q13 (cond q4 (cond q5 (cond q6 (cond q7 (cond q8 (cond q10 (cond q11 (cond q12 (cond q13 (∃(s:Stt×Int×Int×Int),
  aI (q26 y::.int .i64 (3:Int)::q39 y_1) (q30 s)/\q31 s) False) False) False) False) False) False) False) False) False) False) False) False) False) False) False) False) False) False) False) False) False) False) False) False) False) False) False) False) False) False) False) False) False) False) False) False) False) False) False) False) False) False) False) False) False) False) False) False) False) False) False) False) False) False) False) False) False) False) False) False) False) False) False) (∃(s:Cfg×Int),aI [aV c,.int .i64 y_1.1.ins.op] [aV s.1,.int .i64 s.2]/\aN True/\∀(y_7:Int),y_7=u9 s.1 s.2->cond (q41 y_1) (cond (q42 y_1) (cond (q43 y_1) (cond (q44 y_1) (cond (q47 y_1) (cond (q48 y_1) (cond (q48 y_1) (cond (q43 y_1) (cond (q44 y_1) (cond (q50 y_1) (cond (q48 y_1) (cond (q48
  y_1) (cond q4 (cond q5 (cond q6 (cond q7 (cond q8 (cond q10 (cond q11 (cond q12 (cond q13 (aA (.agg (92:Nat) (.int .i64 x.aE::.agg (38:Nat)
  ((.tab (16:Nat) (1:Nat) fun(j:Nat)=>.int .u32 (cond (Nat.beq j (Int.toNat y_1.1.ins.d)) (Alu.doI y_1.1.ins.op y_1.1.ins.d y_1.1.ins.a y_1.1.ins.b y_1.1.ins.imm y_5 y_6) (x.a.bC j)))::(.tab (16:Nat) (1:Nat) fun(j:Nat)=>.int .i64 (cond (Nat.beq j (Int.toNat y_1.1.ins.d)) (IntKind.wrap .i64 (x.aE+y_7)) (x.a.ready j)))::q54 y)::q25))
  r) False) False) False) False) False) False) False) False) False) False) False) False) False) False) False) False) False) False) False) (q56 y)) False)) False) False) False) False) (cond (decide (y_1.1.kind=5)) (cond (decide ((↑(x.aeq.length):Int)<c.aeq)) (∃(s:cE×Int),aI [q19 y,.int .i64 y_1.1.reg] (q33 s)/\aN True/\∀(y_5:Int),q35 y_5 s->cond q6 (cond (decide (pl x.aeq.length 1*4<=(140737488355328:Nat))) (cond q4 (cond q5 (cond (decide (pl x.aeq.length 1<=pl x.aeq.length 1)) (cond q7 (cond q8 (cond q10 (cond q11 (cond q12 (cond q13 (aA (.agg 92 (.int .i64
  x.aE::q55 y::aR x.e::aB (3:Nat) cO x.ldq::aB (1:Nat) dA x.sdq::(.row false (1:Nat) (pl x.aeq.length (1:Nat)) fun(i:Nat)=>.int .u32 (cond (decide
  (i<x.aeq.length)) (ix x.aeq i) y_5))::q24)) r) False) False) False) False) False) False) False) False) False) False) False) (q32 y)) (cond (q59 y_1) (cond (q59 y_1) (q92 y y_1) (q106 y_1 y)) (cond (q70 y_1) (q92 y y_1) (q106 y_1 y)))))) (cond (cond y_2 true y_3) (q32 y) False)) False) False) False) False) False) False) False) False) False) (cond y_2 (q32 y) False)) False) False) False) False) False) False) False) False) False))) False) False) False) False) False) False) False) False) False) False) False) False) False) False) False) False) False) False) False) False) False):=by kernel_rfl
theorem bGR:bT zPr TPF:=bQ (gN.app dF) trivial gM ⟨aMJ,trivial⟩ trivial
theorem bB9:eV zPr (60,bGN):=bB fun⟨c,s,x⟩ hl=>by have hl:s.blocks.length<=1000000:=hl;show Pure _ _ (cons [aV c,aG s,aP x]) (con (.bool (qW c s x)));refine fF (u:=80) (k:=20) mix bGR ?_;refine Eq.mpr (bGP c s x _) ?_;refine⟨(s,false,x.a.pos),.rfl,⟨hl⟩, ?_⟩;intro y hy;replace hy:y=aW s false x.a.pos:=hy;refine⟨(s,true,x.e.pos),.rfl,⟨hl⟩, ?_⟩;intro z hz;replace hz:z=aW s true x.e.pos:=hz;unfold qW;rw[<-hy,<-hz];simp only[aS,zaB];simp only[tD,Bool.and_assoc];exact .rfl
theorem bGS:bT zPr TPA:=bQ (gN.app dF) ⟨Alu.aRQ,Alu.aRR,xI,yU,trivial⟩ gM ⟨aMI,aRS,aMJ,aT4,aRT,a00,bB9,a8A,a0X,a0Y,a0Z,bBQ,bBR,aO7,trivial⟩ trivial
theorem a1C {s:Split} {x:Stt} (hs:kQ s) (h:x.ok):(atA s x).ok:=by obtain⟨⟨w0,w1,w2⟩,o⟩:=h;exact⟨⟨w0,⟨w1.1,w1.2.1,aML hs false _ _ w1.2.2.1,w1.2.2.2⟩,w2⟩,o⟩
theorem aFQ {l:List Entry} (h:∀ e∈l,e.wf) {a s:Int}:∀ k:Nat,k<=l.length->(r6 l a s k).1.wf
 |0,_=>⟨gO,gO,gO,⟨by show(0:Int)<=0;omega,by show(0:Int)<=4294967295;omega⟩⟩
 |k+1,hk=>by
  unfold r6;split
  ·exact h _ (cA hk)
  ·exact aFQ h k (by omega)
theorem aMM (op:Int):bK (szI op):=by
 unfold szI bK
 repeat' split
 all_goals omega
theorem jC (c:Cfg) (x:Stt) (k:Cell) (st ad:Int) (h:ad=gY x.a k.ins):aDZ c x k st =
  if ¬dV (szI k.ins.op) ad x.mem.length=0 then cF x (dV (szI k.ins.op) ad x.mem.length) st k.pc
  else if((fK x.saq (IntKind.i64.wrap ad) (szI k.ins.op)).2=true/\(o9 (fK x.saq (IntKind.i64.wrap ad) (szI k.ins.op)).1 k.ins.op (IntKind.i64.wrap ad)).2=false)\/((fK x.saq (IntKind.i64.wrap ad) (szI k.ins.op)).2=false/\(x.table.length:Int)>=c.bN)then x
  else if k.kind=3 then
   (if(x.ldq.length:Int)>=c.ldq then x
    else if(fK x.saq (IntKind.i64.wrap ad) (szI k.ins.op)).2 then { x with ldq:=(fG (x.ldq++[⟨x.tags,false,0⟩]) x.tags (o9 (fK x.saq (IntKind.i64.wrap ad) (szI k.ins.op)).1 k.ins.op (IntKind.i64.wrap ad)).1).1,tags:=IntKind.i64.wrap (x.tags+1),a:=onF x.a }
    else { x with ldq:=x.ldq++[⟨x.tags,false,0⟩],tags:=IntKind.i64.wrap (x.tags+1),a:=onF x.a,table:=x.table++[⟨false,k.ins.op,IntKind.i64.wrap ad,szI k.ins.op,0,0,-1,x.tags⟩] })
  else if(fK x.saq (IntKind.i64.wrap ad) (szI k.ins.op)).2 then { x with a:=onF (cV x.a k.ins.d (o9 (fK x.saq (IntKind.i64.wrap ad) (szI k.ins.op)).1 k.ins.op (IntKind.i64.wrap ad)).1 (IntKind.i64.wrap (x.aE+1))) }
  else { x with a:=onF (if k.ins.d=0 then x.a else { x.a with ready:=fun i=>cond (Nat.beq i k.ins.d.toNat) (-1) (x.a.ready i) }),table:=x.table++[⟨false,k.ins.op,IntKind.i64.wrap ad,szI k.ins.op,0,0,k.ins.d,0⟩] }:=by
 subst h;rfl
theorem bCA {s:Split} (hs:kQ s) {q:Pos}:0<=(aW s false q).1.ins.d/\(aW s false q).1.ins.d<=15:=by
 unfold aW;split
 ·exact⟨by show(0:Int)<=0;omega,by show(0:Int)<=15;omega⟩
 ·show 0<=(ix (lF s false (aQ s false q).1.block) (aQ s false q).1.index.toNat).ins.d/\_;unfold lF;split
  ·exact⟨by show(0:Int)<=0;omega,by show(0:Int)<=15;omega⟩
  ·rename_i h1 h2;simp only[zaU,if_false];have hb:=hs.2 _ (cA (show(aQ s false q).1.block.toNat<s.blocks.length by omega));by_cases hi:(aQ s false q).1.index.toNat<(ix s.blocks (aQ s false q).1.block.toNat).a.length
   ·exact hb.1 _ (cA hi)
   ·rw[aEW (by omega)];exact⟨by show(0:Int)<=0;omega,by show(0:Int)<=15;omega⟩
theorem iG {c:Cfg} (h:cX c=true):(1<=c.ldq/\c.ldq<=64)/\(1<=c.sdq/\c.sdq<=64)/\(1<=c.aeq/\c.aeq<=64)/\(1<=c.abq/\c.abq<=64)/\(1<=c.ebq/\c.ebq<=64)/\(1<=c.saq/\c.saq<=64)/\(1<=c.dI/\c.dI<=16)/\(1<=c.bN/\c.bN<=64)/\(1<=c.jW/\c.jW<=64)/\(1<=c.lat/\c.lat<=1000)/\(1<=c.mul/\c.mul<=50)/\(1<=c.div/\c.div<=50):=by simp only[cX,cD,List.all_cons,List.all_nil,zaG,zaK,zaT]at h;omega
theorem mO {c:Cfg} {s:Split} {x:Stt} (h:aU c s x=true):cX c=true:=by unfold aU at h;rw[zaG]at h;exact h.1
theorem bCB:eV zPr (27,bGO):=bB fun⟨c,s,x⟩ h=>by
 obtain⟨h,hs⟩:x.ok/\kQ s:=h;show Pure _ _ (cons [aV c,aG s,aP x]) (con (aP (fL c s x)));refine fF (u:=80) (k:=20) mix bGS ?_;refine Eq.mpr (bGQ c s x _) ?_;obtain⟨b1,b2,b3,b4,b5,b6,b7,b8,b9⟩:=aZ9 h;simp only[b1,b2,b3,b4,b5,b6,b7,b8,b9,aD,zaF,cC,zaC,zaB,zaQ];refine⟨(c,s,x),.rfl,⟨h⟩, ?_⟩;rintro y rfl;show cond (cond (!aU c s x) true (!!aU c s x)) _ _;simp only[bI,zaB];simp only[bor];unfold fL;refine kX (fun h1 => ?_) (fun h1 => ?_)
 ·rw[if_pos (by simpa [or_assoc]using h1)];exact .rfl
 have h1':¬(aU c s x=false\/x.a.halted=true\/x.a.wait>x.aE):=by
  simp only[Bool.or_eq_false_iff,Bool.not_eq_false',zaP]at h1;rintro (h2|h2|h2)
  ·rw[h1.1.1]at h2;cases h2
  ·rw[h1.1.2]at h2;cases h2
  ·exact h1.2 h2
 rw[if_neg h1'];refine⟨(s,false,x.a.pos),.rfl,⟨hs.1⟩, ?_⟩;intro q hq;replace hq:q=aQ s false x.a.pos:=hq;refine⟨(s,false,q.1),.rfl,⟨hs.1⟩, ?_⟩;intro m hm;replace hm:m=aW s false q.1:=hm;have hmd:0<=m.1.ins.d/\m.1.ins.d<=15:=by rw[hm];exact bCA hs
 have hcfg:=iG (mO (show aU c s x=true by cases hR:aU c s x with
  |true=>rfl
  |false=>exact(h1' (.inl hR)).elim))
 have hat:atA s x = { x with a:={ x.a with pos:=q.1 } }:=by rw[hq];rfl
 have hok:=a1C hs h;rw[show(aW s false (atA s x).a.pos)=m by rw[hm,hat],<-hq];have hb:(atA s x).a.pos.block=q.1.block:=by rw[hat]
 rw[hb];generalize hX:atA s x=X at hok hat;have hnote:∀ k st pc:Int,∃ s:Stt×Int×Int×Int,aI [aP X,.int .i64 k,.int .i64 st,.int .i64 pc] [aP s.1,.int .i64 s.2.1,.int .i64 s.2.2.1,.int .i64 s.2.2.2]/\aN s.1.ok/\∀ y:Stt,y=cF s.1 s.2.1 s.2.2.1 s.2.2.2->aA (aP y) (aP (cF X k st pc)):=fun k st pc => ⟨(X,k,st,pc),.rfl,⟨hok⟩,fun y hy=>by rw[hy];exact .rfl⟩
 have hst:aA (aP X) (aP X):=.rfl;clear hX;subst hat;cases hf:q.2 with
 |true => simp only[zaB,if_true];refine⟨(s,q.1.block),.rfl,⟨trivial⟩, ?_⟩;rintro z rfl;exact hnote _ _ _
 |false =>
  simp only[zaD,zaU,if_false];refine⟨({ x with a:={ x.a with pos:=q.1 } },m.2.1),.rfl,⟨trivial⟩, ?_⟩;intro z hz;replace hz:z=aZ x m.2.1:=hz;rw[<-hz];cases z with
  |true => simp only[zaI,zaD,zaB,true_or,if_true];exact hst
  |false =>
   simp only[zaH,zaD,zaB,zaU,false_or];refine⟨(c,s,{ x with a:={ x.a with pos:=q.1 } }),.rfl,⟨hs.1⟩, ?_⟩;intro z hz;replace hz:z=qW c s { x with a:={ x.a with pos:=q.1 } }:=hz;rw[<-hz];cases z with
   |true => simp only[Bool.or_true,zaI,zaD,zaB,true_or,if_true];exact hst
   |false =>
   simp only[Bool.or_false,Bool.false_or,zaH,zaD,zaB,zaU,false_or];refine⟨({ x.a with pos:=q.1 },m.1,x.aE),.rfl,⟨trivial⟩, ?_⟩;intro w hw;replace hw:w=pX x.a m.1 x.aE:=hw;rw[<-hw];cases w with
   |false => simp only[zaH,zaB,if_true];exact hst
   |true =>
    simp only[zaI,zaD,Bool.true_eq_false,if_false];clear hz hw hq hm;obtain⟨k,st,ok⟩:=m;replace hmd:0<=k.ins.d/\k.ins.d<=15:=hmd;have hX:∀ n,0<=iU { x.a with pos:=q.1 } n/\iU { x.a with pos:=q.1 } n<=4294967295:=xU ⟨h.1.2.1.1,h.1.2.1.2.1,(hok.1.2.1).2.2⟩;show cond (decide (k.kind=1)) _ _;unfold dN;by_cases k1:k.kind=1
    ·simp only[k1,zaC,zaB,if_true];refine⟨({ x.a with pos:=q.1 },k.ins.a),.rfl,⟨trivial⟩, ?_⟩;intro va hva;replace hva:va=iU { x.a with pos:=q.1 } k.ins.a:=hva;refine⟨({ x.a with pos:=q.1 },k.ins.b),.rfl,⟨trivial⟩, ?_⟩;intro vb hvb;replace hvb:vb=iU { x.a with pos:=q.1 } k.ins.b:=hvb;have ra:=hX k.ins.a;have rb:=hX k.ins.b;rw[<-hva]at ra;rw[<-hvb]at rb;simp only[ra.1,ra.2,rb.1,rb.2,zaC,zaB];show cond (!Alu.dkB k.ins.op k.ins.d k.ins.a k.ins.b k.ins.imm vb) _ _;cases hd:Alu.dkB k.ins.op k.ins.d k.ins.a k.ins.b k.ins.imm vb with
     |false => rw[if_neg (show ¬doK { x.a with pos:=q.1 } k.ins=true by unfold doK;rw[<-hvb,hd];simp)];exact hnote _ _ _
     |true =>
      rw[if_pos (show doK { x.a with pos:=q.1 } k.ins=true by unfold doK;rw[<-hvb,hd])];refine⟨(c,k.ins.op),.rfl,⟨trivial⟩, ?_⟩;rintro lt rfl;simp only[zaI,zaD];unfold doV;rw[<-hva,<-hvb];refine xT k.ins.d (fun h => ?_) (fun h => ?_)
      ·rw[cV,if_pos h];exact .rfl
      ·rw[cV,if_neg h];exact .rfl
    simp only[k1,zaE,zaD,if_false];by_cases k5:k.kind=5
    ·simp only[k5,zaC,zaB,if_true];by_cases g:(x.aeq.length:Int)<c.aeq
     ·simp only[g,zaC,zaB,if_true];refine⟨({ x.a with pos:=q.1 },k.reg),.rfl,⟨trivial⟩, ?_⟩;intro v hv;replace hv:v=iU { x.a with pos:=q.1 } k.reg:=hv;rw[<-hv];have g6:(x.aeq.length+1)*4<=140737488355328:=by have:=h.2.2.2.1;omega
      simp only[g6,zaC,zaB];refine⟨gK ?_⟩
      repeat' (first|with_reducible exact .refl _|exact bM|refine aF ?_ ?_|exact .refl _|exact qV (fun i hi=>by simp only[hi,zaC,zaB];rfl) (by simp only[Nat.lt_irrefl,zaE,zaD];rfl))
     ·simp only[g,zaE,zaD,if_false];exact hst
    simp only[k5,zaE,zaD,if_false];by_cases k2:k.kind=2
    ·simp only[k2,zaC,zaB,true_or,if_true];refine⟨({ x.a with pos:=q.1 },k.ins.a),.rfl,⟨trivial⟩, ?_⟩;intro va hva;replace hva:va=iU { x.a with pos:=q.1 } k.ins.a:=hva;have had2:(IntKind.u32.wrap (va+IntKind.u32.wrap k.ins.imm))=gY { x.a with pos:=q.1 } k.ins:=by rw[hva];rfl
     rw[jC c { x with a:={ x.a with pos:=q.1 } } k st (IntKind.u32.wrap (va+IntKind.u32.wrap k.ins.imm)) had2];by_cases g0:dV (szI k.ins.op) (IntKind.u32.wrap (va+IntKind.u32.wrap k.ins.imm)) x.mem.length=0
     case neg => simp only[g0,zaM,zaC,zaB,if_true];exact hnote _ _ _
     simp only[g0,zaN,zaE,zaD,if_false];have hen:∀ e∈x.saq,e.wf:=h.1.2.2.2.2.2.2.2.2.1.1;refine⟨(x.saq,IntKind.i64.wrap (IntKind.u32.wrap (va+IntKind.u32.wrap k.ins.imm)),szI k.ins.op),.rfl,⟨⟨h.2.2.2.2.2.2.1,hen,cY _,aMM _⟩⟩, ?_⟩;intro e he;replace he:e=fK x.saq (IntKind.i64.wrap (IntKind.u32.wrap (va+IntKind.u32.wrap k.ins.imm))) (szI k.ins.op):=he;refine⟨(e.1,k.ins.op,IntKind.i64.wrap (IntKind.u32.wrap (va+IntKind.u32.wrap k.ins.imm))),.rfl,⟨by rw[he];exact aFQ hen _ (zaF _)⟩, ?_⟩;intro v hv;replace hv:v=o9 e.1 k.ins.op (IntKind.i64.wrap (IntKind.u32.wrap (va+IntKind.u32.wrap k.ins.imm))):=hv;rw[<-he,<-hv];clear he hv had2 hva hen;obtain⟨en,th⟩:=e;obtain⟨vv,okv⟩:=v;have b10:(x.table.length+1)*64<=140737488355328:=by have:=h.2.2.2.2.2.2.2.1;omega
     have b11:(x.ldq.length+1)*16<=140737488355328:=by have:=h.2.1;omega
     cases th with
     |true =>
      cases okv with
      |false => simp only[zaB,zaD,zaI,zaH,Bool.or_true,Bool.true_or,Bool.or_false,Bool.false_or,Bool.true_eq_false,zaU,true_and,and_true,false_and,and_false,true_or,or_true,false_or,or_false,and_self,or_self,if_true,if_false,zaC,zaE,zaN,zaM];exact hst
      |true =>
       simp only[zaB,zaD,zaI,zaH,Bool.or_true,Bool.true_or,Bool.or_false,Bool.false_or,Bool.true_eq_false,zaU,true_and,and_true,false_and,and_false,true_or,or_true,false_or,or_false,and_self,or_self,if_true,if_false,zaC,zaE,zaN,zaM,k2,Int.reduceEq];refine xT k.ins.d (fun h => ?_) (fun h => ?_)
       ·rw[cV,if_pos h];exact .rfl
       ·rw[cV,if_neg h];exact .rfl
     |false =>
      by_cases g1:(x.table.length:Int)>=c.bN
      ·simp only[zaB,zaD,zaI,zaH,Bool.or_true,Bool.true_or,Bool.or_false,Bool.false_or,Bool.true_eq_false,zaU,true_and,and_true,false_and,and_false,true_or,or_true,false_or,or_false,and_self,or_self,if_true,if_false,zaC,zaE,zaN,zaM,g1];exact hst
      ·simp only[zaB,zaD,zaI,zaH,Bool.or_true,Bool.true_or,Bool.or_false,Bool.false_or,Bool.true_eq_false,zaU,true_and,and_true,false_and,and_false,true_or,or_true,false_or,or_false,and_self,or_self,if_true,if_false,zaC,zaE,zaN,zaM,g1,k2,Int.reduceEq,b10];by_cases hd:k.ins.d=0
       ·simp only[hd,zaN,zaE,zaD,if_true];refine⟨gK ?_⟩
        repeat' (first|with_reducible exact .refl _|exact bM|refine aF ?_ ?_|exact .refl _|exact qV (fun i hi=>by simp only[hi,zaC,zaB];rfl) (by simp only[Nat.lt_irrefl,zaE,zaD];rfl))
       ·have d1:0<=k.ins.d:=hmd.1;have d2:k.ins.d<16:=by omega
        have d3:k.ins.d.toNat<16:=by omega
        simp only[hd,d1,d2,d3,zaM,zaC,zaB,if_false];refine⟨gK ?_⟩
        repeat' (first|with_reducible exact .refl _|exact bM|refine aF ?_ ?_|exact .refl _|exact qV (fun i hi=>by simp only[hi,zaC,zaB];rfl) (by simp only[Nat.lt_irrefl,zaE,zaD];rfl))
    by_cases k3:k.kind=3
    ·simp only[k2,k3,Int.reduceEq,zaC,zaE,zaB,zaD,or_true,if_true];refine⟨({ x.a with pos:=q.1 },k.ins.a),.rfl,⟨trivial⟩, ?_⟩;intro va hva;replace hva:va=iU { x.a with pos:=q.1 } k.ins.a:=hva;have had2:(IntKind.u32.wrap (va+IntKind.u32.wrap k.ins.imm))=gY { x.a with pos:=q.1 } k.ins:=by rw[hva];rfl
     rw[jC c { x with a:={ x.a with pos:=q.1 } } k st (IntKind.u32.wrap (va+IntKind.u32.wrap k.ins.imm)) had2];by_cases g0:dV (szI k.ins.op) (IntKind.u32.wrap (va+IntKind.u32.wrap k.ins.imm)) x.mem.length=0
     case neg => simp only[g0,zaM,zaC,zaB,if_true];exact hnote _ _ _
     simp only[g0,zaN,zaE,zaD,if_false];have hen:∀ e∈x.saq,e.wf:=h.1.2.2.2.2.2.2.2.2.1.1;refine⟨(x.saq,IntKind.i64.wrap (IntKind.u32.wrap (va+IntKind.u32.wrap k.ins.imm)),szI k.ins.op),.rfl,⟨⟨h.2.2.2.2.2.2.1,hen,cY _,aMM _⟩⟩, ?_⟩;intro e he;replace he:e=fK x.saq (IntKind.i64.wrap (IntKind.u32.wrap (va+IntKind.u32.wrap k.ins.imm))) (szI k.ins.op):=he;refine⟨(e.1,k.ins.op,IntKind.i64.wrap (IntKind.u32.wrap (va+IntKind.u32.wrap k.ins.imm))),.rfl,⟨by rw[he];exact aFQ hen _ (zaF _)⟩, ?_⟩;intro v hv;replace hv:v=o9 e.1 k.ins.op (IntKind.i64.wrap (IntKind.u32.wrap (va+IntKind.u32.wrap k.ins.imm))):=hv;rw[<-he,<-hv];clear he hv had2 hva hen;obtain⟨en,th⟩:=e;obtain⟨vv,okv⟩:=v;have b10:(x.table.length+1)*64<=140737488355328:=by have:=h.2.2.2.2.2.2.2.1;omega
     have b11:(x.ldq.length+1)*16<=140737488355328:=by have:=h.2.1;omega
     cases th with
     |true =>
      cases okv with
      |false => simp only[zaB,zaD,zaI,zaH,Bool.or_true,Bool.true_or,Bool.or_false,Bool.false_or,Bool.true_eq_false,zaU,true_and,and_true,false_and,and_false,true_or,or_true,false_or,or_false,and_self,or_self,if_true,if_false,zaC,zaE,zaN,zaM];exact hst
      |true =>
       by_cases g2:(x.ldq.length:Int)>=c.ldq
       ·simp only[zaB,zaD,zaI,zaH,Bool.or_true,Bool.true_or,Bool.or_false,Bool.false_or,Bool.true_eq_false,zaU,true_and,and_true,false_and,and_false,true_or,or_true,false_or,or_false,and_self,or_self,if_true,if_false,zaC,zaE,zaN,zaM,k3,g2];exact hst
       ·simp only[zaB,zaD,zaI,zaH,Bool.or_true,Bool.true_or,Bool.or_false,Bool.false_or,Bool.true_eq_false,zaU,true_and,and_true,false_and,and_false,true_or,or_true,false_or,or_false,and_self,or_self,if_true,if_false,zaC,zaE,zaN,zaM,k3,g2,b11];refine⟨(x.ldq++[⟨x.tags,false,0⟩],x.tags,vv),⟨aF (qV (fun i hi=>by simp only[hi,zaC,zaB];rfl) (by simp only[Nat.lt_irrefl,zaE,zaD];rfl)) (aF (.refl _) (aF (.refl _) bM))⟩,⟨by rw[bD];omega⟩, ?_⟩;rintro y rfl;exact .rfl
     |false =>
      by_cases g1:(x.table.length:Int)>=c.bN
      ·simp only[zaB,zaD,zaI,zaH,Bool.or_true,Bool.true_or,Bool.or_false,Bool.false_or,Bool.true_eq_false,zaU,true_and,and_true,false_and,and_false,true_or,or_true,false_or,or_false,and_self,or_self,if_true,if_false,zaC,zaE,zaN,zaM,g1];exact hst
      ·by_cases g2:(x.ldq.length:Int)>=c.ldq
       ·simp only[zaB,zaD,zaI,zaH,Bool.or_true,Bool.true_or,Bool.or_false,Bool.false_or,Bool.true_eq_false,zaU,true_and,and_true,false_and,and_false,true_or,or_true,false_or,or_false,and_self,or_self,if_true,if_false,zaC,zaE,zaN,zaM,k3,g1,g2];exact hst
       ·simp only[zaB,zaD,zaI,zaH,Bool.or_true,Bool.true_or,Bool.or_false,Bool.false_or,Bool.true_eq_false,zaU,true_and,and_true,false_and,and_false,true_or,or_true,false_or,or_false,and_self,or_self,if_true,if_false,zaC,zaE,zaN,zaM,k3,g1,g2,b10,b11];refine⟨gK ?_⟩
        repeat' (first|with_reducible exact .refl _|exact bM|refine aF ?_ ?_|exact .refl _|exact qV (fun i hi=>by simp only[hi,zaC,zaB];rfl) (by simp only[Nat.lt_irrefl,zaE,zaD];rfl))
    simp only[k2,k3,zaE,zaD,or_self,if_false];by_cases k4:k.kind=4
    ·simp only[k4,zaC,zaB,if_true];refine⟨({ x.a with pos:=q.1 },k.ins.a),.rfl,⟨trivial⟩, ?_⟩;intro va hva;replace hva:va=iU { x.a with pos:=q.1 } k.ins.a:=hva;have had2:(IntKind.u32.wrap (va+IntKind.u32.wrap k.ins.imm))=gY { x.a with pos:=q.1 } k.ins:=by rw[hva];rfl
     rw[<-had2];clear had2 hva;by_cases g0:dV (szI k.ins.op) (IntKind.u32.wrap (va+IntKind.u32.wrap k.ins.imm)) x.mem.length=0
     case neg => simp only[g0,zaM,zaC,zaB,if_true];exact hnote _ _ _
     have b12:(x.saq.length+1)*32<=140737488355328:=by have:=h.2.2.2.2.2.2.1;omega
     by_cases g1:(x.saq.length:Int)>=c.saq
     ·simp only[g0,g1,zaN,zaE,zaC,zaD,zaB,if_false,if_true];exact hst
     ·simp only[g0,g1,b12,zaN,zaE,zaC,zaD,zaB,if_false];refine⟨gK ?_⟩
      repeat' (first|with_reducible exact .refl _|exact bM|refine aF ?_ ?_|exact .refl _|exact qV (fun i hi=>by simp only[hi,zaC,zaB];rfl) (by simp only[Nat.lt_irrefl,zaE,zaD];rfl))
    simp only[k4,zaE,zaD,if_false];by_cases k9:k.kind=9
    ·simp only[k9,zaC,zaB,if_true];by_cases g:(x.abq.length:Int)<c.abq
     ·simp only[g,zaC,zaB,if_true];refine⟨({ x.a with pos:=q.1 },k.ins.a),.rfl,⟨trivial⟩, ?_⟩;intro va hva;replace hva:va=iU { x.a with pos:=q.1 } k.ins.a:=hva;refine⟨({ x.a with pos:=q.1 },k.ins.b),.rfl,⟨trivial⟩, ?_⟩;intro vb hvb;replace hvb:vb=iU { x.a with pos:=q.1 } k.ins.b:=hvb;have ra:=hX k.ins.a;have rb:=hX k.ins.b;rw[<-hva]at ra;rw[<-hvb]at rb;have g6:(x.abq.length+1)*1<=140737488355328:=by have:=h.2.2.2.2.1;omega
      simp only[ra.1,ra.2,rb.1,rb.2,g6,zaC,zaB];refine⟨(s,q.1,Alu.tkB k.ins.op va vb),.rfl,⟨trivial⟩, ?_⟩;intro z hz;replace hz:z=goF s q.1 (Alu.tkB k.ins.op va vb):=hz;show cond (Alu.tkB k.ins.op va vb) _ _;rw[show tR { x.a with pos:=q.1 } k.ins=Alu.tkB k.ins.op va vb by unfold tR;rw[hva,hvb]];unfold oD;subst hz;cases Alu.tkB k.ins.op va vb
      ·refine⟨gK ?_⟩
       repeat' (first|with_reducible exact .refl _|exact bM|refine aF ?_ ?_|exact .refl _|exact qV (fun i hi=>by simp only[hi,zaC,zaB];rfl) (by simp only[Nat.lt_irrefl,zaE,zaD];rfl))
      ·refine⟨gK ?_⟩
       repeat' (first|with_reducible exact .refl _|exact bM|refine aF ?_ ?_|exact .refl _|exact qV (fun i hi=>by simp only[hi,zaC,zaB];rfl) (by simp only[Nat.lt_irrefl,zaE,zaD];rfl))
     ·simp only[g,zaE,zaD,if_false];exact hst
    simp only[k9,zaE,zaD,if_false];by_cases k10:k.kind=10
    ·simp only[k10,zaC,zaB,if_true];by_cases g:x.ebq=[]
     ·simp only[g,List.length_nil,Int.ofNat_zero,Int.lt_irrefl,gt_iff_lt,zaE,zaD,if_true];rw[g]at hst;exact hst
     have g1:0<x.ebq.length:=List.length_pos_iff.2 g;have g2:(0:Int)<(x.ebq.length:Int):=by omega
     have g3:(1:Int)<=(x.ebq.length:Int):=by omega
     have g4:1+(x.ebq.length-1)<=x.ebq.length:=by omega
     simp only[g,g1,g2,g3,g4,gt_iff_lt,zaC,zaB,if_false];refine⟨(s,q.1,ix x.ebq 0),.rfl,⟨trivial⟩, ?_⟩;intro z hz;replace hz:z=goF s q.1 (ix x.ebq 0):=hz;unfold oD;subst hz;cases ix x.ebq 0
     ·simp only[zaD];refine⟨gK ?_⟩
      repeat' (first|with_reducible exact .refl _|exact bM|refine aF ?_ ?_|exact .refl _|exact r9)
     ·simp only[zaB];refine⟨gK ?_⟩
      repeat' (first|with_reducible exact .refl _|exact bM|refine aF ?_ ?_|exact .refl _|exact r9)
    simp only[k10,zaE,zaD,if_false];by_cases k11:k.kind=11
    ·simp only[k11,zaC,zaB,if_true];refine⟨(s,q.1,true),.rfl,⟨trivial⟩, ?_⟩;intro z hz;replace hz:z=goF s q.1 true:=hz;subst hz;exact .rfl
    simp only[k11,zaE,zaD,if_false];by_cases k12:k.kind=12
    ·simp only[k12,zaC,zaB,if_true];exact .rfl
    simp only[k12,zaE,zaD,if_false];exact hst
theorem aKN {α:Type} [Inhabited α] (l:List α) (i:Nat):ix l i∈l\/ix l i=default:=by
 by_cases h:i<l.length
 ·exact .inl (cA h)
 ·exact .inr (aEW (by omega))
theorem xV {d:cE} (h:d.wf) {n w r:Int} (hw:gC w) (hr:bK r):(cV d n w r).wf:=by
 unfold cV;split
 ·refine⟨fun i hi => ?_,fun i hi => ?_,h.2.2⟩
  ·show gC (cond (Nat.beq i n.toNat) w (d.bC i));cases Nat.beq i n.toNat
   ·exact h.1 i hi
   ·exact hw
  ·show bK (cond (Nat.beq i n.toNat) r (d.ready i));cases Nat.beq i n.toNat
   ·exact h.2.1 i hi
   ·exact hr
 ·exact h
theorem qX {d:cE} (h:d.wf):(onF d).wf:=⟨h.1,h.2.1,⟨h.2.2.1.1,cY _,h.2.2.1.2.2⟩,h.2.2.2.1,cY _⟩
theorem bCC {s:Split} (hs:kQ s) {q:Pos} (h:q.wf) (t:Bool):(goF s q t).wf:=by
 unfold goF;split
 ·rename_i h1;have hb:=(hs.2 _ (cA (show q.block.toNat<s.blocks.length by omega))).2;exact⟨hb.2.2.2.1,gO,cY _⟩
 ·exact⟨h.1,cY _,h.2.2⟩
theorem tS {s:Split} (hs:kQ s) {d:cE} (h:d.wf) (t:Bool) (n:Int):(oD s d t n).wf:=by
 refine⟨h.1,h.2.1,bCC hs h.2.2.1 t, ?_,cY _⟩;show bK (if t=true then IntKind.i64.wrap (n+2)else d.wait);split
 ·exact cY _
 ·exact h.2.2.2.1
theorem aPN {d:cE} (h:d.wf):(aC4 d).wf:=⟨h.1,h.2.1,h.2.2.1,h.2.2.2.1,cY _⟩
theorem aPO {d:cE} (h:d.wf) (n:Int):gC (iU d n):=xU h n
theorem aUB {d:cE} (h:d.wf) (i:Ins):gC (doV d i):=by have h1:=xU h i.a;have h2:=xU h i.b;exact Alu.bBJ _ _ _ _ _ h1.1 h1.2 h2.1 h2.2
theorem tT {x:Stt} (h:x.ok) {k st pc:Int} (h1:bK k) (h2:bK st) (h3:bK pc):(cF x k st pc).ok:=by
 unfold cF;split
 ·obtain⟨⟨w0,w1,w2,w3,w4,w5,w6,w7,w8,w9,w10,w11,w12,w13⟩,o⟩:=h;exact⟨⟨w0,w1,w2,w3,w4,w5,w6,w7,w8,w9,w10,w11,⟨h1,h2,h3⟩,w13⟩,o⟩
 ·exact h
theorem aKO {s:Split} (hs:kQ s) (e:Bool) (q:Pos):bK (aW s e q).1.pc/\bK (aW s e q).2.1:=by
 have h0:bK noCell.pc:=gO;unfold aW;split
 ·exact⟨h0,cY _⟩
 ·refine⟨?_,cY _⟩;show bK (ix (lF s e (aQ s e q).1.block) (aQ s e q).1.index.toNat).pc;rcases aKN (lF s e (aQ s e q).1.block) (aQ s e q).1.index.toNat with h|h
  ·unfold lF at h;split at h
   ·cases h
   ·rename_i h2;have hb:=(hs.2 _ (cA (show(aQ s e q).1.block.toNat<s.blocks.length by omega))).2;have key:∀ k:Cell,(k∈(ix s.blocks (aQ s e q).1.block.toNat).a\/k∈(ix s.blocks (aQ s e q).1.block.toNat).e)->bK k.pc:=fun k hk=>by
     rcases hk with hk|hk
     ·exact(hb.2.2.2.2.1.1 k hk).2.2.2.1
     ·exact(hb.2.2.2.2.2.1 k hk).2.2.2.1
    refine key _ ?_;unfold lF;rw[if_neg h2];cases e
    ·exact .inl (by simpa using h)
    ·exact .inr (by simpa using h)
  ·rw[h];exact gO
theorem aPP {s:Split} (hs:kQ s) (n:Int):bK (aCY s n):=by
 unfold aCY;split
 ·exact gO
 ·exact(hs.2 _ (cA (by omega))).2.2.1
theorem aRY (n:Int) (h : -9223372036854775808<=n/\n<=9223372036854775807):bK n:=h
theorem aH5 {c:Cfg} {s:Split} {x:Stt} (h:aU c s x=true):x.ldq.length<=64/\x.sdq.length<=64/\x.aeq.length<=64/\x.abq.length<=64/\x.ebq.length<=64/\x.saq.length<=64/\x.table.length<=64/\x.mem.length<=65536:=by have hc:=iG (mO h);simp only[aU,aPD,zaG,zaK]at h;omega
theorem a6A {c:Cfg} {s:Split} {x:Stt} (hs:kQ s) (h:x.ok):(eX c s x).ok/\(eX c s x).writes=x.writes/\(eX c s x).table=x.table:=by
 unfold eX;split
 ·exact⟨h,rfl,rfl⟩
 rename_i hn;have hR:aU c s x=true:=by
  cases hR:aU c s x with
  |true=>rfl
  |false=>exact(hn (.inl hR)).elim
 have hl:=aH5 hR;have ha:=a1B hs h;have hc:=aKO hs true (atE s x).e.pos;have nw:∀(y:Stt) (k st pc:Int),(cF y k st pc).writes=y.writes/\(cF y k st pc).table=y.table:=fun y k st pc=>by unfold cF;split<;>exact⟨rfl,rfl⟩
 split
 ·exact⟨tT ha (aRY _ (by omega)) hc.2 (aPP hs _),nw _ _ _ _⟩
 split
 ·exact⟨ha,rfl,rfl⟩
 generalize (aW s true (atE s x).e.pos).2.1=st at hc;generalize (aW s true (atE s x).e.pos).1=k at hc;have e1:(atE s x).aE=x.aE:=rfl;have hl2:(atE s x).ldq.length<=64/\(atE s x).sdq.length<=64/\(atE s x).ebq.length<=64:=⟨hl.1,hl.2.1,hl.2.2.2.2.1⟩;have hw2:(atE s x).writes=x.writes/\(atE s x).table=x.table:=⟨rfl,rfl⟩;generalize atE s x=y at ha hl2 hw2 e1;rw[<-hw2.1,<-hw2.2];clear hn hR hl hw2 h e1;unfold dW;obtain⟨⟨w0,w1,w2,w3,w4,w5,w6,w7,w8,w9,w10,w11,w12,w13,w14,w15⟩,o⟩:=ha;have ho:∀ d:cE,d.wf->({ y with e:=d }:Stt).ok:=fun d hd=>⟨⟨w0,w1,hd,w3,w4,w5,w6,w7,w8,w9,w10,w11,w12,w13,w14,w15⟩,o⟩
 split
 ·split
  ·exact⟨ho _ (qX (xV w2 (aUB w2 _) (cY _))),rfl,rfl⟩
  ·exact⟨tT ⟨⟨w0,w1,w2,w3,w4,w5,w6,w7,w8,w9,w10,w11,w12,w13,w14,w15⟩,o⟩ (aRY _ (by omega)) hc.2 hc.1,nw _ _ _ _⟩
 split
 ·split
  ·exact⟨ho _ w2,rfl,rfl⟩
  ·rename_i hq;have h5:gC (ix y.aeq 0):=w5.1 _ (cA (List.length_pos_iff.2 hq));refine⟨⟨⟨w0,w1,qX (xV w2 h5 (cY _)),w3,w4,⟨fun z hz=>w5.1 z (List.mem_of_mem_tail hz), ?_⟩,w6,w7,w8,w9,w10,w11,w12,w13,w14,w15⟩, ?_⟩,rfl,rfl⟩
   ·show y.aeq.tail.length*4<=_;rw[List.length_tail];have:=w5.2;omega
   ·show _/\_/\y.aeq.tail.length<=_/\_;rw[List.length_tail];exact⟨o.1,o.2.1,by have:=o.2.2.1;omega,o.2.2.2⟩
 split
 ·by_cases hp:y.ldq=[]\/(ix y.ldq 0).full=false
  ·rw[show qU y.ldq=(y.ldq,0,false)by unfold qU;rw[if_pos hp]];exact⟨ho _ w2,rfl,rfl⟩
  ·rw[show qU y.ldq=(y.ldq.tail,(ix y.ldq 0).val,true)by unfold qU;rw[if_neg hp]];have hq:¬y.ldq=[]:=fun e=>hp (.inl e)
   have h5:gC (ix y.ldq 0).val:=(w3.1 _ (cA (List.length_pos_iff.2 hq))).2;refine⟨⟨⟨w0,w1,qX (xV w2 h5 (cY _)),⟨fun z hz=>w3.1 z (List.mem_of_mem_tail hz), ?_⟩,w4,w5,w6,w7,w8,w9,w10,w11,w12,w13,w14,w15⟩, ?_⟩,rfl,rfl⟩
   ·show y.ldq.tail.length*16<=_;rw[List.length_tail];have:=w3.2;omega
   ·show y.ldq.tail.length<=_/\_;rw[List.length_tail];exact⟨by have:=o.1;omega,o.2⟩
 split
 ·split
  ·refine⟨⟨⟨w0,w1,qX w2,w3,⟨fun z hz => ?_, ?_⟩,w5,w6,w7,w8,w9,w10,w11,w12,w13,w14,w15⟩, ?_⟩,rfl,rfl⟩
   ·rcases List.mem_append.1 hz with hz|hz
    ·exact w4.1 z hz
    ·obtain rfl:=List.mem_singleton.1 hz;exact aPO w2 _
   ·show(y.sdq++[_]).length*4<=_;rw[bD];omega
   ·show _/\(y.sdq++[_]).length<=_/\_;rw[bD];exact⟨o.1,by omega,o.2.2⟩
  ·exact⟨ho _ w2,rfl,rfl⟩
 split
 ·split
  ·refine⟨⟨⟨w0,w1,tS hs w2 _ _,w3,w4,w5,w6,⟨fun z hz=>trivial, ?_⟩,w8,w9,w10,w11,w12,w13,w14,w15⟩, ?_⟩,rfl,rfl⟩
   ·show(y.ebq++[_]).length*1<=_;rw[bD];omega
   ·show _/\_/\_/\_/\(y.ebq++[_]).length<=_/\_;rw[bD];exact⟨o.1,o.2.1,o.2.2.1,o.2.2.2.1,by omega,o.2.2.2.2.2⟩
  ·exact⟨ho _ w2,rfl,rfl⟩
 split
 ·split
  ·exact⟨ho _ w2,rfl,rfl⟩
  ·refine⟨⟨⟨w0,w1,tS hs w2 _ _,w3,w4,w5,⟨fun z hz=>trivial, ?_⟩,w7,w8,w9,w10,w11,w12,w13,w14,w15⟩, ?_⟩,rfl,rfl⟩
   ·show y.abq.tail.length*1<=_;rw[List.length_tail];have:=w6.2;omega
   ·show _/\_/\_/\y.abq.tail.length<=_/\_;rw[List.length_tail];exact⟨o.1,o.2.1,o.2.2.1,by have:=o.2.2.2.1;omega,o.2.2.2.2⟩
 split
 ·exact⟨ho _ (tS hs w2 _ _),rfl,rfl⟩
 split
 ·exact⟨ho _ (aPN w2),rfl,rfl⟩
 ·exact⟨ho _ w2,rfl,rfl⟩
theorem a6B {e:Entry} (h:e.wf) (op a:Int):gC (o9 e op a).1:=by
 unfold o9;split
 ·exact aTR h.2.2.2
 ·exact⟨by show(0:Int)<=0;omega,by show(0:Int)<=4294967295;omega⟩
theorem a6C {l:List Slot} (h:∀ z∈l,z.wf) {t w:Int} (hw:gC w):∀ z∈(fG l t w).1,z.wf:=by
 unfold fG;split
 ·exact h
 ·rename_i hn;obtain⟨_,_,b3⟩:=aCR hn;intro y hy;rcases List.mem_or_eq_of_mem_set hy with hy|rfl
  ·exact h y hy
  ·exact⟨(h _ (cA b3)).1,hw⟩
theorem aWK {d:cE} (h:d.wf) (n:Nat):({ d with ready:=fun i=>cond (Nat.beq i n) (-1) (d.ready i) }:cE).wf:=by
 refine⟨h.1,fun i hi => ?_,h.2.2⟩;show bK (cond (Nat.beq i n) (-1) (d.ready i));cases Nat.beq i n
 ·exact h.2.1 i hi
 ·show bK (-1);exact aRY _ (by omega)
theorem aUC (s a n:Int):bK (dV s a n):=by
 unfold dV
 repeat' split
 all_goals exact aRY _ (by omega)
theorem a1D {c:Cfg} {y:Stt} {k:Cell} {st:Int} (ho:y.ok) (hk:k.ins.wf) (hc:bK k.pc/\bK st) (hl:y.ldq.length<=64/\y.table.length<=64):(aDZ c y k st).ok/\(aDZ c y k st).writes=y.writes/\(aDZ c y k st).table.length<=y.table.length+1:=by
 have nw:∀(y:Stt) (k st pc:Int),(cF y k st pc).writes=y.writes/\(cF y k st pc).table=y.table:=fun y k st pc=>by unfold cF;split<;>exact⟨rfl,rfl⟩
 rw[jC c y k st _ rfl];have h0:=ho;obtain⟨⟨w0,w1,w2,w3,w4,w5,w6,w7,w8,w9,w10,w11,w12,w13,w14,w15⟩,o⟩:=ho;split
 ·exact⟨tT h0 (aUC _ _ _) hc.2 hc.1,(nw _ _ _ _).1,by rw[(nw _ _ _ _).2];omega⟩
 split
 ·exact⟨h0,rfl,by omega⟩
 have he:(fK y.saq (IntKind.i64.wrap (gY y.a k.ins)) (szI k.ins.op)).1.wf:=aFQ w8.1 _ (zaF _);have hv:=a6B he k.ins.op (IntKind.i64.wrap (gY y.a k.ins));generalize fK y.saq (IntKind.i64.wrap (gY y.a k.ins)) (szI k.ins.op)=e at he hv;generalize o9 e.1 k.ins.op (IntKind.i64.wrap (gY y.a k.ins))=v at hv;have hs:∀ z∈y.ldq++[(⟨y.tags,false,0⟩:Slot)],z.wf:=fun z hz=>by
  rcases List.mem_append.1 hz with hz|hz
  ·exact w3.1 z hz
  ·obtain rfl:=List.mem_singleton.1 hz;exact⟨w15,by show(0:Int)<=0;omega,by show(0:Int)<=4294967295;omega⟩
 have hq:∀(r t:Int),bK r->bK t->∀ z∈y.table++[(⟨false,k.ins.op,IntKind.i64.wrap (gY y.a k.ins),szI k.ins.op,0,0,r,t⟩:Req)],z.wf:=fun r t hr ht z hz=>by
  rcases List.mem_append.1 hz with hz|hz
  ·exact w9.1 z hz
  ·obtain rfl:=List.mem_singleton.1 hz;exact⟨hk.1,cY _,aMM _,⟨by show(0:Int)<=0;omega,by show(0:Int)<=4294967295;omega⟩,gO,hr,ht⟩
 split
 ·split
  ·exact⟨h0,rfl,by omega⟩
  split
  ·have hlen:(fG (y.ldq++[(⟨y.tags,false,0⟩:Slot)]) y.tags v.1).1.length=y.ldq.length+1:=by rw[tM,bD]
   refine⟨⟨⟨w0,qX w1,w2,⟨a6C hs hv, ?_⟩,w4,w5,w6,w7,w8,w9,w10,w11,w12,w13,w14,cY _⟩, ?_⟩,rfl,by show y.table.length<=_;omega⟩
   ·show(fG _ _ _).1.length*16<=_;rw[hlen];omega
   ·show(fG _ _ _).1.length<=_/\_;rw[hlen];exact⟨by omega,o.2⟩
  ·refine⟨⟨⟨w0,qX w1,w2,⟨hs, ?_⟩,w4,w5,w6,w7,w8,⟨hq _ _ (aRY _ (by omega)) w15, ?_⟩,w10,w11,w12,w13,w14,cY _⟩, ?_⟩,rfl, ?_⟩
   ·show(y.ldq++[_]).length*16<=_;rw[bD];omega
   ·show(y.table++[_]).length*64<=_;rw[bD];omega
   ·show(y.ldq++[_]).length<=_/\_/\_/\_/\_/\_/\(y.table++[_]).length<=_/\_;rw[bD,bD];exact⟨by omega,o.2.1,o.2.2.1,o.2.2.2.1,o.2.2.2.2.1,o.2.2.2.2.2.1,by omega,o.2.2.2.2.2.2.2⟩
   ·show(y.table++[_]).length<=_;rw[bD];omega
 split
 ·exact⟨⟨⟨w0,qX (xV w1 hv (cY _)),w2,w3,w4,w5,w6,w7,w8,w9,w10,w11,w12,w13,w14,w15⟩,o⟩,rfl,by show y.table.length<=_;omega⟩
 ·refine⟨⟨⟨w0,qX ?_,w2,w3,w4,w5,w6,w7,w8,⟨hq _ _ hk.2.1 gO, ?_⟩,w10,w11,w12,w13,w14,w15⟩, ?_⟩,rfl, ?_⟩
  ·split
   ·exact w1
   ·exact aWK w1 _
  ·show(y.table++[_]).length*64<=_;rw[bD];omega
  ·show _/\_/\_/\_/\_/\_/\(y.table++[_]).length<=_/\_;rw[bD];exact⟨o.1,o.2.1,o.2.2.1,o.2.2.2.1,o.2.2.2.2.1,o.2.2.2.2.2.1,by omega,o.2.2.2.2.2.2.2⟩
  ·show(y.table++[_]).length<=_;rw[bD];omega
theorem a1E {s:Split} (hs:kQ s) (q:Pos):(aW s false q).1.ins.wf:=by
 have h0:noCell.ins.wf:=⟨gO,gO,gO,gO,gO⟩;unfold aW;split
 ·exact h0
 ·show(ix (lF s false (aQ s false q).1.block) (aQ s false q).1.index.toNat).ins.wf;unfold lF;split
  ·exact h0
  ·rename_i h1 h2;simp only[zaU,if_false];have hb:=(hs.2 _ (cA (show(aQ s false q).1.block.toNat<s.blocks.length by omega))).2;rcases aKN (ix s.blocks (aQ s false q).1.block.toNat).a (aQ s false q).1.index.toNat with h|h
   ·exact(hb.2.2.2.2.1.1 _ h).2.1
   ·rw[h];exact h0
theorem a6D {c:Cfg} {s:Split} {x:Stt} (hs:kQ s) (h:x.ok):(fL c s x).ok/\(fL c s x).writes=x.writes/\(fL c s x).table.length<=x.table.length+1:=by
 unfold fL;split
 ·exact⟨h,rfl,by omega⟩
 rename_i hn;have hR:aU c s x=true:=by
  cases hR:aU c s x with
  |true=>rfl
  |false=>exact(hn (.inl hR)).elim
 have hl:=aH5 hR;have ha:=a1C hs h;have hc:=aKO hs false (atA s x).a.pos;have hki:=a1E hs (atA s x).a.pos;have nw:∀(y:Stt) (k st pc:Int),(cF y k st pc).writes=y.writes/\(cF y k st pc).table=y.table:=fun y k st pc=>by unfold cF;split<;>exact⟨rfl,rfl⟩
 split
 ·exact⟨tT ha (aRY _ (by omega)) hc.2 (aPP hs _),(nw _ _ _ _).1,by rw[(nw _ _ _ _).2];show x.table.length<=_;omega⟩
 split
 ·exact⟨ha,rfl,by show x.table.length<=_;omega⟩
 generalize (aW s false (atA s x).a.pos).2.1=st at hc;generalize (aW s false (atA s x).a.pos).1=k at hc hki;have hl2:((atA s x).ldq.length<=64/\(atA s x).table.length<=64)/\(atA s x).aeq.length<=64/\(atA s x).abq.length<=64/\(atA s x).saq.length<=64:=⟨⟨hl.1,hl.2.2.2.2.2.2.1⟩,hl.2.2.1,hl.2.2.2.1,hl.2.2.2.2.2.1⟩;have hw2:(atA s x).writes=x.writes/\(atA s x).table=x.table:=⟨rfl,rfl⟩;generalize atA s x=y at ha hl2 hw2;rw[<-hw2.1,<-hw2.2];clear hn hR hl hw2 h;unfold dN;have ha2:=ha;obtain⟨⟨w0,w1,w2,w3,w4,w5,w6,w7,w8,w9,w10,w11,w12,w13,w14,w15⟩,o⟩:=ha;have ho:∀ d:cE,d.wf->({ y with a:=d }:Stt).ok:=fun d hd=>⟨⟨w0,hd,w2,w3,w4,w5,w6,w7,w8,w9,w10,w11,w12,w13,w14,w15⟩,o⟩
 have ht:y.table.length<=y.table.length+1:=by omega
 split
 ·split
  ·exact⟨ho _ (qX (xV w1 (aUB w1 _) (cY _))),rfl,ht⟩
  ·exact⟨tT ha2 (aRY _ (by omega)) hc.2 hc.1,(nw _ _ _ _).1,by rw[(nw _ _ _ _).2];exact ht⟩
 split
 ·split
  ·refine⟨⟨⟨w0,qX w1,w2,w3,w4,⟨fun z hz => ?_, ?_⟩,w6,w7,w8,w9,w10,w11,w12,w13,w14,w15⟩, ?_⟩,rfl,ht⟩
   ·rcases List.mem_append.1 hz with hz|hz
    ·exact w5.1 z hz
    ·obtain rfl:=List.mem_singleton.1 hz;exact aPO w1 _
   ·show(y.aeq++[_]).length*4<=_;rw[bD];omega
   ·show _/\_/\(y.aeq++[_]).length<=_/\_;rw[bD];exact⟨o.1,o.2.1,by omega,o.2.2.2⟩
  ·exact⟨ha2,rfl,ht⟩
 split
 ·exact a1D ha2 hki hc hl2.1
 split
 ·split
  ·exact⟨tT ha2 (aUC _ _ _) hc.2 hc.1,(nw _ _ _ _).1,by rw[(nw _ _ _ _).2];exact ht⟩
  split
  ·exact⟨ha2,rfl,ht⟩
  ·refine⟨⟨⟨w0,qX w1,w2,w3,w4,w5,w6,w7,⟨fun z hz => ?_, ?_⟩,w9,w10,w11,w12,w13,w14,w15⟩, ?_⟩,rfl,ht⟩
   ·rcases List.mem_append.1 hz with hz|hz
    ·exact w8.1 z hz
    ·obtain rfl:=List.mem_singleton.1 hz;exact⟨cY _,aMM _,hc.2,by show(0:Int)<=0;omega,by show(0:Int)<=4294967295;omega⟩
   ·show(y.saq++[_]).length*32<=_;rw[bD];omega
   ·show _/\_/\_/\_/\_/\(y.saq++[_]).length<=_/\_;rw[bD];exact⟨o.1,o.2.1,o.2.2.1,o.2.2.2.1,o.2.2.2.2.1,by omega,o.2.2.2.2.2.2⟩
 split
 ·split
  ·refine⟨⟨⟨w0,tS hs w1 _ _,w2,w3,w4,w5,⟨fun z hz=>trivial, ?_⟩,w7,w8,w9,w10,w11,w12,w13,w14,w15⟩, ?_⟩,rfl,ht⟩
   ·show(y.abq++[_]).length*1<=_;rw[bD];omega
   ·show _/\_/\_/\(y.abq++[_]).length<=_/\_;rw[bD];exact⟨o.1,o.2.1,o.2.2.1,by omega,o.2.2.2.2⟩
  ·exact⟨ha2,rfl,ht⟩
 split
 ·split
  ·exact⟨ha2,rfl,ht⟩
  ·refine⟨⟨⟨w0,tS hs w1 _ _,w2,w3,w4,w5,w6,⟨fun z hz=>trivial, ?_⟩,w8,w9,w10,w11,w12,w13,w14,w15⟩, ?_⟩,rfl,ht⟩
   ·show y.ebq.tail.length*1<=_;rw[List.length_tail];have:=w7.2;omega
   ·show _/\_/\_/\_/\y.ebq.tail.length<=_/\_;rw[List.length_tail];exact⟨o.1,o.2.1,o.2.2.1,o.2.2.2.1,by have:=o.2.2.2.2.1;omega,o.2.2.2.2.2⟩
 split
 ·exact⟨ho _ (tS hs w1 _ _),rfl,ht⟩
 split
 ·exact⟨ho _ (aPN w1),rfl,ht⟩
 ·exact⟨ha2,rfl,ht⟩
def pR (s:Split) (e:Bool) (d:cE) (x:Stt):Bool:=d.halted||aZ x (aW s e d.pos).2.1
def bGT:List XV->Option ((XV->Prop)->Prop):=eZ (fun q:Split×Bool×cE×Stt=>[aG q.1,.bool q.2.1,aR q.2.2.1,aP q.2.2.2]) (fun q=>q.1.blocks.length<=1000000) (fun q=>pR q.1 q.2.1 q.2.2.1 q.2.2.2) (fun y=>.bool y)
def TPR:Tab:=fW qq jB [] [] [(54,a0R),(55,a57)] []
def aAA (x:Stt) (e:Entry):Bool:=decide (x.aT.kind=0)||decide (e.step<x.aT.step)
def pY (c:Cfg) (s:Split) (x:Stt):Bool:=!aU c s x||(pR s false x.a x&&(pR s true x.e x&&(decide (x.table.length=0) && !x.saq.any (aAA x))))
def bGU:List XV->Option ((XV->Prop)->Prop):=eZ (fun q:Cfg×Split×Stt=>[aV q.1,aG q.2.1,aP q.2.2]) (fun q=>q.2.2.ok/\q.2.1.blocks.length<=1000000) (fun q=>pY q.1 q.2.1 q.2.2) (fun y=>.bool y)
def TPO:Tab:=fW qq jB [] [] [(24,a0C),(25,bGT)] []
def lV (c:Cfg) (s:Split) (t:bF) (x:Stt):Stt:=if aU c s x then { fL c s (eX c s (fV c (jY c t x)))with aE:=IntKind.i64.wrap ((fL c s (eX c s (fV c (jY c t x)))).aE+1) } else x
def a1F (x:Stt):Prop:=x.ok/\x.writes.length+x.table.length<=900000
def bGV:List XV->Option ((XV->Prop)->Prop):=eZ (fun q:Cfg×Split×bF×Stt=>[aV q.1,aG q.2.1,bO q.2.2.1,aP q.2.2.2]) (fun q=>a1F q.2.2.2/\kQ q.2.1) (fun q=>lV q.1 q.2.1 q.2.2.1 q.2.2.2) (fun y=>aP y)
def TPS:Tab:=fW qq (jB++eU) [] jA [(24,a0C),(30,avS),(29,a72),(28,bGK),(27,bGO)] []
def bGW (x:Stt) (i:Nat):XSt:=⟨[(7,.int .i64 i),(5,.ptr 2 [] 0)],[(2,some (aP x))],3⟩
theorem bCD (s:Split) (e:Bool) (d:cE) (x:Stt) (r:XV):(aO TPR 80 (bL TPR 80 20) 25 [aG s,.bool e,aR d,aP x] (fun v=>aA v r))=(∃(s_1:Split×Bool×Pos),aI [aG s,.bool e,dZ d.pos] [aG s_1.1,.bool s_1.2.1,dZ s_1.2.2]/\aN (s_1.1.blocks.length<=1000000)/\∀(y:Cell×Int ×
 Bool),y=aW s_1.1 s_1.2.1 s_1.2.2->cond (!d.halted) (∃(s:Stt×Int),aI [aP x,.int .i64 y.2.1] [aP s.1,.int .i64 s.2]/\aN True/\∀(y:Bool),y=aZ s.1
 s.2->aA (.bool (cond d.halted true y)) r) (cond d.halted (aA (.bool true) r) False)):=by kernel_rfl
theorem bCE (c:Cfg) (s:Split) (x:Stt) (r:XV):(goQ zPr TPO [(.tmp 6)] r (.run nV) [] ⟨kF 0 [aV c,aG s,aP x],[],0⟩)=(
 let q1:Split×Bool×cE×Stt->Bool:=fun s=>s.2.1;
 let q2:Split×Bool×cE×Stt->cE:=fun s=>s.2.2.1;
 let q3:Split×Bool×cE×Stt->Stt:=fun s=>s.2.2.2;
 let q4:Split×Bool×cE×Stt->List XV:=fun s=>[aG s.1,.bool (q1 s),aR (q2 s),aP (q3 s)];
 let q5:Split×Bool×cE×Stt->Prop:=fun s=>aN (s.1.blocks.length<=1000000);
 let q6:Bool->Split×Bool×cE×Stt->Prop:=fun y s=>y=pR s.1 (q1 s) (q2 s) (q3 s);∃(s_1:Cfg×Split×Stt),aI [aV c,aG s,aP x] [aV s_1.1,aG
  s_1.2.1,aP s_1.2.2]/\aN s_1.2.2.ok/\∀(y:Bool),y=aU s_1.1 s_1.2.1 s_1.2.2->bif !y then aA (.bool true) r else ∃(s_2:Split×Bool×cE×Stt),aI [aG
  s,.bool false,aR x.a,aP x] (q4 s_2)/\q5 s_2/\∀(y:Bool),q6 y s_2->cond (!!y) (∃(s_3:Split×Bool×cE×Stt),aI [aG s,.bool true,aR x.e,aP
  x] (q4 s_3)/\q5 s_3/\∀(y_1:Bool),q6 y_1 s_3->cond (cond (cond (!y) true (!y_1)) true (!cond (!y) true (!y_1))) (cond (bif cond (!y) true (!y_1) then true else
  decide ((↑(x.table.length):Int)>0)) (aA (.bool false) r) (bX (Ok zPr (Tab.q TPO)) pN (XSt.mk [(7,.int .i64 0),(6,.bool false),(5,.ptr 2 [] 0)]
  [(2,some (aP x)),(1,some (aG s)),(0,some (aV c))] 3) [Frm.blk 0,Frm.seq vX] (dC [AR.tmp 6] r))) False) (cond (!y) (aA (.bool false) r) False)):=by kernel_rfl
theorem bGX (c:Cfg) (s:Split) (t:bF) (x:Stt) (r:XV):(aO TPS 80 (bL TPS 80 20) 12 [aV c,aG s,bO t,aP x] (fun v=>aA v r))=(
 let q1:Cfg×Split×Stt->List XV:=fun s=>[aV s.1,aG s.2.1,aP s.2.2];
 let q2:=x.ldq.length*16;
 let q3:Stt->Cfg×Split×Stt->Prop:=fun y s_1=>aI [aV c,aG s,aP y] (q1 s_1);
 let q4:Cfg×Split×Stt->Prop:=fun s=>aN (s.2.2.ok/\kQ s.2.1);∃(s_1:Cfg×Split×Stt),aI [aV c,aG s,aP x] (q1 s_1)/\aN s_1.2.2.ok/\∀(y :
  Bool),y=aU s_1.1 s_1.2.1 s_1.2.2->cond (!y) (cond (decide (q2<=140737488355328)) (cond (gP (fun i=>true) x.ldq.length) (cond (decide (x.sdq.length*4<=140737488355328)) (cond (decide (x.aeq.length*4<=140737488355328)) (cond (decide (x.abq.length*1<=140737488355328)) (cond (decide (x.ebq.length*1<=140737488355328)) (cond (decide (x.saq.length
  * 32<=140737488355328)) (cond (decide (x.table.length*64<=140737488355328)) (cond (decide (x.mem.length*1<=140737488355328)) (cond (decide (x.writes.length*24<=140737488355328)) (cond (decide (x.ldq.length<=x.ldq.length)) (cond (decide (x.sdq.length<=x.sdq.length)) (cond (decide (x.aeq.length<=x.aeq.length)) (cond (decide (x.abq.length<=x.abq.length)) (cond (decide (x.ebq.length<=x.ebq.length)) (cond (decide (x.saq.length<=x.saq.length)) (cond (decide (x.table.length<=x.table.length)) (cond (decide (x.mem.length<=x.mem.length)) (cond (decide (x.writes.length<=x.writes.length)) (aA (aP x) r) False) False) False) False) False) False) False) False) False) False) False) False) False) False) False) False) False) False) False) (∃(s:Cfg×bF×Stt),aI [aV c,bO t,aP x] [aV s.1,
  bO s.2.1,aP s.2.2]/\aN (z7 s.2.2)/\∀(y:Stt),y=jY s.1 s.2.1 s.2.2->∃(s:Cfg×Stt),aI [aV c,aP y] [aV s.1,aP s.2]/\aN s.2.ok/\∀(y
  : Stt),y=fV s.1 s.2->∃(s:Cfg×Split×Stt),q3 y s/\q4 s/\∀(y:Stt),y=eX s.1 s.2.1 s.2.2->∃(s:Cfg×Split×Stt),q3 y s/\q4 s/\∀(y:Stt),y=fL s.1
  s.2.1 s.2.2->aA (.agg 92 [.int .i64 (IntKind.wrap .i64 (y.aE+1)),aR y.a,aR y.e,aB 3 cO y.ldq,aB 1 dA y.sdq,aB 1 dA y.aeq,aB 1 cL y.abq,
  aB 1 cL y.ebq,aB 5 cB y.saq,aB 8 dS y.table,aB 1 eP y.mem,aB 3 mQ y.writes,lH y.aT,.int .i64 y.dR,.int .i64 y.cG,.int .i64 y.tags])
  r)):=by kernel_rfl
theorem bCF (x:Stt) (i:Nat) (r:XV) (A:XSt->Prop):(goQ zPr TPO [(.tmp 6)] r (.run pN) [.lp pN A,.blk 0,.seq vX] (bGW x i))=(
 let q1:=decide ((↑i:Int)<(↑(x.saq.length):Int));
 let q2:=decide (x.aT.kind=0);
 let q3:=!q2;cond q1 (cond (cond q1 true (!q3)) (cond (cond q2 true q3) (cond (cond q2 true (decide ((ix x.saq i).step<x.aT.step))) (aA (.bool
  false) r) (A (XSt.mk [(7,.int .i64 (IntKind.wrap .i64 ((↑i:Int)+1))),(5,.ptr 2 [] 0)] [(2,some (aP x))] 3))) False) False) (aA (.bool true) r)):=by kernel_rfl
theorem bGY:bT zPr TPR:=bQ gN trivial trivial ⟨aMJ,aRT,trivial⟩ trivial
theorem a6E:eV zPr (25,bGT):=bB fun⟨s,e,d,x⟩ hl=>by
 have hl:s.blocks.length<=1000000:=hl;show Pure _ _ (cons [aG s,.bool e,aR d,aP x]) (con (.bool (pR s e d x)));refine fF (u:=80) (k:=20) mix bGY ?_;refine Eq.mpr (bCD s e d x _) ?_;refine⟨(s,e,d.pos),.rfl,⟨hl⟩, ?_⟩;intro y hy;replace hy:y=aW s e d.pos:=hy;unfold pR;rw[<-hy];cases d.halted with
 |true=>exact .rfl
 |false => refine⟨(x,y.2.1),.rfl,⟨trivial⟩, ?_⟩;rintro z rfl;exact .rfl
theorem a8F:bT zPr TPO:=bQ gN trivial trivial ⟨aMI,a6E,trivial⟩ trivial
theorem bCG:eV zPr (11,bGU):=bB fun⟨c,s,x⟩ h=>by
 obtain⟨h,hl⟩:x.ok/\s.blocks.length<=1000000:=h;show Pure _ _ (cons [aV c,aG s,aP x]) (con (.bool (pY c s x)));refine j9 mix a8F aCJ (Nat.le_of_ble_eq_true rfl) ?_;refine Eq.mpr (bCE c s x _) ?_;refine⟨(c,s,x),.rfl,⟨h⟩, ?_⟩;intro y hy;replace hy:y=aU c s x:=hy;unfold pY;rw[<-hy];cases y with
 |false=>exact .rfl
 |true =>
 show ∃ _,_;refine⟨(s,false,x.a,x),.rfl,⟨hl⟩, ?_⟩;intro ra hra;replace hra:ra=pR s false x.a x:=hra;rw[<-hra];cases ra with
 |false=>exact .rfl
 |true =>
 show ∃ _,_;refine⟨(s,true,x.e,x),.rfl,⟨hl⟩, ?_⟩;intro re hre;replace hre:re=pR s true x.e x:=hre;rw[<-hre];cases re with
 |false=>exact .rfl
 |true =>
 simp only[zaI,zaD,Bool.false_or,zaR];show cond (decide ((x.table.length:Int)>0)) _ _;by_cases ht:x.table.length=0
 case neg =>
  have h1:(x.table.length:Int)>0:=by omega
  simp only[ht,decide_eq_true h1,zaE,zaB,Bool.false_and];exact .rfl
 have h1:¬(x.table.length:Int)>0:=by omega
 simp only[ht,decide_eq_false h1,zaC,zaD,zaR];have hsl:x.saq.length<=1000000:=h.2.2.2.2.2.2.1;refine gT mix a8F (fun i:Nat=>bGW x i) (fun i=>i<=x.saq.length/\∀ j,j<i->aAA x (ix x.saq j)=false) (fun i=>x.saq.length-i) 0 ⟨Nat.zero_le _,fun j hj=>by omega⟩ (.of (dL ⟨rfl,rfl,trivial⟩ ⟨rfl,trivial⟩ (zaF _))) ?_;rintro i ⟨hi,hp⟩;refine Eq.mpr (bCF x i _ _) ?_;by_cases hlt:i<x.saq.length
 ·have h2:(i:Int)<(x.saq.length:Int):=by omega
  have w1:IntKind.i64.wrap ((i:Int)+1)=((i+1:Nat):Int):=wrap_i64 (by omega) (by omega);simp only[h2,w1,zaC,zaE,zaB,zaD,aD,zaF,zaO,zaQ,aS,bI,zaI,zaH,zaN,zaM,zaT,zaR,zaS,ge_iff_le,Int.le_refl,if_true,if_false,reduceCtorEq,eq_self,BEq.rfl];simp only[bor];refine kX (fun h => ?_) (fun h => ?_)
  ·have e:x.saq.any (aAA x)=true:=List.any_eq_true.2 ⟨_,cA hlt,h⟩;rw[e];exact .rfl
  ·refine⟨i+1,⟨hlt,fun j hj => ?_⟩,.of (dL ⟨rfl,rfl,trivial⟩ ⟨rfl,trivial⟩ (zaF _)),by omega⟩;by_cases hji:j=i
   ·subst hji;exact h
   ·exact hp j (by omega)
 ·have h2:¬(i:Int)<(x.saq.length:Int):=by omega
  simp only[h2,zaC,zaE,zaB,zaD,aD,zaF,zaO,zaQ,aS,bI,zaI,zaH,zaN,zaM,zaT,zaR,zaS,ge_iff_le,Int.le_refl,if_true,if_false,reduceCtorEq,eq_self,BEq.rfl];have e:x.saq.any (aAA x)=false:=by rw[<-Bool.not_eq_true,List.any_eq_true];rintro ⟨z,hz,hz2⟩;obtain⟨j,hj,rfl⟩:=vB hz;have:=hp j (by omega);rw[this]at hz2;cases hz2
  rw[e];exact .rfl
theorem bGZ:bT zPr TPS:=bQ (gN.app dF) trivial gM ⟨aMI,a49,a5E,bB8,bCB,trivial⟩ trivial
theorem a6F {c:Cfg} {t:bF} {x:Stt} (h:x.ok) (hb:x.writes.length+x.table.length<=1000000):(jY c t x).table.length<=x.writes.length+x.table.length/\(jY c t x).writes.length+(jY c t x).table.length<=x.writes.length+x.table.length:=by
 unfold jY;split
 ·have h1:=aTS h.1 h.2.2.2.2.2.2.2.2.1 hb;have h2:=aCS (c:=c) (s:=t) (x:=gB x) h1.1 c.dI.toNat;have h3:=h1.2.2.2.2.2.2.2.2;obtain⟨_,_,_,_,_,_,_,a8,_,a10,_⟩:=h2;rw[a8,a10];omega
 ·omega
theorem a1G {c:Cfg} {x:Stt}:(fV c x).writes=x.writes/\(fV c x).table.length<=x.table.length+1:=by
 unfold fV;split
 ·refine⟨rfl, ?_⟩;show(x.table++[_]).length<=_;rw[bD];omega
 ·exact⟨rfl,by omega⟩
theorem bCH {x:Stt} (h:x.ok):({ x with aE:=IntKind.i64.wrap (x.aE+1) }:Stt).ok:=by obtain⟨⟨w0,w⟩,o⟩:=h;exact⟨⟨cY _,w⟩,o⟩
theorem aMN {c:Cfg} {s:Split} {t:bF} {x:Stt} (hs:kQ s) (h:a1F x):(jY c t x).ok/\(fV c (jY c t x)).ok/\(eX c s (fV c (jY c t x))).ok/\(lV c s t x).ok/\(lV c s t x).writes.length+(lV c s t x).table.length<=x.writes.length+x.table.length+2:=by
 obtain⟨ho,hb⟩:=h;have a1:(jY c t x).ok:=(aZ2 ⟨ho,by omega⟩).1;have a2:=a6F (c:=c) (t:=t) ho (by omega);have a3:(fV c (jY c t x)).ok:=a5F a1 (by omega);have a4:=a1G (c:=c) (x:=jY c t x);have a5:=a6A (c:=c) hs a3;have a6:=a6D (c:=c) hs a5.1;refine⟨a1,a3,a5.1, ?_⟩;unfold lV;split
 ·refine⟨bCH a6.1, ?_⟩;show(fL c s (eX c s (fV c (jY c t x)))).writes.length+(fL c s (eX c s (fV c (jY c t x)))).table.length<=_;have:=a6.2.2;rw[a6.2.1,a5.2.1,a4.1];rw[a5.2.2]at this;omega
 ·exact⟨ho,by omega⟩
theorem bCI:eV zPr (12,bGV):=bB fun⟨c,s,t,x⟩ h=>by
 obtain⟨h,hs⟩:a1F x/\kQ s:=h;show Pure _ _ (cons [aV c,aG s,bO t,aP x]) (con (aP (lV c s t x)));refine fF (u:=80) (k:=20) mix bGZ ?_;refine Eq.mpr (bGX c s t x _) ?_;obtain⟨b1,b2,b3,b4,b5,b6,b7,b8,b9⟩:=aZ9 h.1;have hc:=aMN (c:=c) (t:=t) hs h;simp only[b1,b2,b3,b4,b5,b6,b7,b8,b9,aD,zaF,cC,zaC,zaB];refine⟨(c,s,x),.rfl,⟨h.1⟩, ?_⟩;intro y hy;replace hy:y=aU c s x:=hy;unfold lV;rw[<-hy];cases y with
 |false=>exact .rfl
 |true =>
 show ∃ _,_;refine⟨(c,t,x),.rfl,⟨⟨h.1,by have:=h.2;show x.writes.length+x.table.length<=_;omega⟩⟩, ?_⟩;rintro y rfl;refine⟨(c,jY c t x),.rfl,⟨hc.1⟩, ?_⟩;rintro y rfl;refine⟨(c,s,fV c (jY c t x)),.rfl,⟨hc.2.1,hs⟩, ?_⟩;rintro y rfl;refine⟨(c,s,eX c s (fV c (jY c t x))),.rfl,⟨hc.2.2.1,hs⟩, ?_⟩;rintro y rfl;exact .rfl
end Go.Proofs.YtooojfbfobmkfaaGreat
