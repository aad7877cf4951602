/- Helpers of the proof of TopNames. -/
import Derived.Test.YtojegnbejmeehaaGreatDoorJBD
namespace Go.Proofs.YtojegnbejmeehaaGreatDoor
open Go.RowKit
set_option maxRecDepth 10000
set_option maxHeartbeats 16000000
set_option linter.all false
section
attribute [local irreducible] wpQuiet ax au aQ
variable {R:Ending→World→Prop} {w:World} {x i:Nat} {v:Value} {T:List Qk} {er pl:Int}
theorem ij {t:ByteArray} {b:Bool} (h:decide ((bC T i er).k=3∧(bC T i er).t=t)=b) (a:b=true):(bC T i er).k≠4:=by
 subst a;rw[(of_decide_eq_true h).1]
 decide
theorem DA (d:Nat) (hp:dY x v T 119 (Ia (IL x) d)):
 dY x v T 71 (Ia (IL x) d):=by
 intro w i er pl R h hR;have HR:=ae hR;have HP:=ae hp;clear hR hp;have H:=ae h;have k0:Same w (bj w):=(af _ w).alloc _;have gI:(bj w).heap[w.heap.size]?=_:=ag w _;have H0:=ae (h.same k0);have bL:=ae k0;have cE:=ae gI;have Jb:x<w.heap.size:=am h.blk;have n4:w.heap.size≠x:=by omega
 unfold bj at H0 bL cE;clear k0 gI h;go_enter Tryz.func71,Tryz.ntmps71;go_wp2_with fail;generalize w.alloc _=w1 at bL cE H0⊢;refine HP.o _ _ _ _ _ H0.o ?_;rintro e Y u i2 I6 rfl ⟨o,nm,F,a,E,m,c,rfl⟩ s;have j:=sal Y (Ht o nm F a E m c);have aH:=s.kp.at cE.o n4;have fw:w.heap.size<Y.heap.size:=am aH;have dE:=ae (j.at aH trivial);have ch:=ae ((Goes.of bL.o s).same j);have J:=ae (ag Y (Ht o nm F a E m c));clear s j aH;go_wp2_with fail;generalize Y.alloc _=w3 at dE ch J⊢;generalize Y.heap.size=z at fw J⊢;have Z:z≠x:=by omega
 have I1:w.heap.size≠z:=by omega
 go_loopw [] (fun wr=>∃(i1:Nat) (e1:Int) (o nm:ByteArray) (F a:Int) (E:Option Addr) (m c:Nat),Hid (Goes w wr x v T i i1 er e1)∧
  Hid (wr.heap[w.heap.size]?=(Ih GA GA 0 0 none 0 0))∧
  Hid (wr.heap[z]?=(Ih o nm F a E m c))) (fun wr=>ju x T.length wr)
 case atStart=>exact⟨i2,I6,o,nm,F,a,E,m,c,ch,dE,J⟩
 case round=>
  clear ch dE J;obtain⟨i1,e1,o,nm,F,a,E,m,c,M,IZ,IR⟩:=hrel;have I2:=bm M.o T.length;obtain⟨Ja,h1⟩:=M.o.st;have a8:=ae h1;have HI:Hid (i1<T.length):=ae h1.at_;clear h1;go_wp2_with fail;refine fZ a8.o _ ?_;rintro e w6 rfl k6;obtain⟨b1,aL⟩:∃b,decide ((bC T i1 e1).k=3∧(bC T i1 e1).t=⟨#[38]⟩)=b:=⟨_,rfl⟩;rw[aL];have A:=ij aL;have r:=ae (k6.at IR.o trivial);have g:=ae (k6.at IZ.o trivial);have ce:=ae (M.o.same k6);have H6:=ae (a8.o.same k6);clear k6 aL IR IZ M a8
  cases b1 with
  |true=>
   replace A:=A rfl;go_wp2_with fail;refine bW H6.o ?_;rintro e N i7 rfl _ gH s;have I8:=gH A;have If:=ae (s.kp.at r.o Z);have dp:=ae (s.kp.at g.o n4);have IT:=ae (ce.o.tr s);obtain⟨I0,h7⟩:=s.st;have H7:=ae h7;clear s h7 gH A r g ce H6;generalize bC T i1 e1=q;simp only[Qk.val];have j:=sal N (Hv q.k q.t q.n q.a);have p:=ae (j.at If.o trivial);have I:=ae (ag N (Hv q.k q.t q.n q.a));have cH:=ae (j.at dp.o trivial);have L:=ae (IT.o.same j);have H8:=ae (H7.o.same j);have Jc:w.heap.size<N.heap.size:=am dp.o;have ny:N.heap.size≠x:=by omega
   clear j If dp IT H7;go_wp2_with fail;generalize N.alloc _=X at p I cH L H8⊢;generalize N.heap.size=y at I ny⊢;obtain⟨i8,I3⟩:∃i8,i8=i7:=⟨_,rfl⟩;obtain⟨I5,O⟩:∃e8,e8=e1:=⟨_,rfl⟩;rw[←I3,←O]at H8 L;clear O;obtain⟨z0,z1,z2,z3,z4⟩:=xc5 p.o rfl rfl rfl rfl rfl;have e3:=xc1 I.o 3 rfl;have kd:Keeps (·≠x) X X.drew:=al (af _ _);refine zq0 8 (.take 0 (.take 1 (.take 2 (.take 3 (.take 4 (.one 5 (.one 6 (.take 7 .last)))))))) (Keeps (·≠x) X) (by kernel_rfl) (by kernel_rfl) kd ?_
   iterate 5 (first|(apply aC;rfl;rfl;go_simp)|(apply aB;rfl;rfl;intro w' hS;obtain⟨y0,y1,y2,y3,y4,y5⟩:=xk6 hS z0 z1 z2 z3 z4 e3 Z Z Z Z Z ny;go_simp;exact rfl;go_simp))
   refine aI (ay rfl rfl fun K l=>?_);go_simp;refine HP.o X.drew i8 I5 I0 _ (H8.o.same (al (af _ _))) ?_;rintro e w9 u9 i9 I4 rfl ⟨o9,fd,k9,a9,fu,m9,c9,rfl⟩ s;have kp:Keeps (·≠x) X w9:=kd.tr s.kp;refine l (Keeps (·≠x) X) _ _ kp (fun _ h=>h) ?_;clear l K z0 z1 z2 z3 z4 e3;have IS:=ae ((L.o.same (al (af _ _))).tr s);have IW:=ae (kp.at cH.o n4);have gJ:=ae (kp.at p.o Z);have I7:=s.le;clear s L cH p I H8;refine aI (ay rfl rfl fun K l=>?_);go_simp;refine l (Keeps (·≠x) X) _ _ (kp.alloc _) (fun _ h=>h) ?_;clear l K;have G:=sal w9 (Iw o nm F a E m c o9 fd k9 a9 fu m9 c9);have C:=ae (IS.o.same G);have D:=ae (G.at IW.o trivial);have f:=ae (G.at gJ.o trivial);clear G IS IW gJ kp;generalize w9.alloc _=dZ at C D f⊢;generalize w9.heap.size=bk
   iterate 1 (first|(apply aC;rfl;rfl;go_simp)|(apply aB;rfl;rfl;intro w' hS;go_simp;exact rfl;go_simp))
   obtain⟨d0,d1,d2,d3,d4⟩:=xc5 f.o rfl rfl rfl rfl rfl;obtain⟨g0,g1,g2,g3,g4⟩:=xf5 f.o;refine aO rfl rfl fun K l=>?_;go_simp;refine l _ _ (aG ?_);clear l K d0 d1 d2 d3 d4 g0 g1 g2 g3 g4;have U:=ae (bT f.o (.string GD) (.string GA) IU (IP q.a) (.slice (IQ bk 0) 2 2));have V:=ae ((bq dZ z (.string GD) (.string GA) IU (IP q.a) (.slice (IQ bk 0) 2 2)).at D.o I1);have B:=ae (C.o.box5 H.o (show w.heap.size≤z by omega) (.string GD) (.string GA) IU (IP q.a) (.slice (IQ bk 0) 2 2));clear C D f;generalize((((dZ.setCell ⟨z,0,none⟩ (.string GD)).setCell ⟨z,1,none⟩ (.string GA)).setCell ⟨z,2,none⟩ IU).setCell ⟨z,3,none⟩ (IP q.a)).setCell ⟨z,4,none⟩ (.slice (IQ bk 0) 2 2)=I9 at U V B⊢;go_wp2_with fail;go_roundw
   case rel=>exact⟨i9,I4,_,_,_,_,_,_,_,B,V,U⟩
   case measure=>rw[I2,bm B.o];have :=HI.o;omega
  |false=>
   clear A;have z0:=ai r.o 0;have z1:=ai r.o 1;have z2:=ai r.o 2;have z3:=ai r.o 3;have z4:=ai r.o 4;obtain⟨d0,d1,d2,d3,d4⟩:=xc5 g.o rfl rfl rfl rfl rfl;obtain⟨g0,g1,g2,g3,g4⟩:=xf5 g.o;simp only[List.getElem?_toArray,List.getElem?_cons_zero,List.getElem?_cons_succ]at z0 z1 z2 z3 z4;go_wp2_with fail;refine bodyPost_ret (v:=(Hw o nm F a E m c)) (by simp[results,Tryz.results71,go_sem,d0,d1,d2,d3,d4]) rfl ?_;exact HR.o _ _ _ _ _ rfl ⟨_,_,_,_,_,_,_,rfl⟩ (ce.o.box5 H.o (Nat.le_refl _) _ _ _ _ _)
theorem Fe (d:Nat) (hp:dY x v T 71 (Ia (IL x) d)):
 dY x v T 48 (Ia (IL x) d):=by
 intro w i er pl R h hR;have HR:=ae hR;have HP:=ae hp;clear hR hp;have H:=ae h;have k0:Same w (bj w):=(af _ w).alloc _;have gI:(bj w).heap[w.heap.size]?=_:=ag w _;have H0:=ae (h.same k0);have bL:=ae k0;have cE:=ae gI;have Jb:x<w.heap.size:=am h.blk;have n4:w.heap.size≠x:=by omega
 unfold bj at H0 bL cE;clear k0 gI h;go_enter Tryz.func48,Tryz.ntmps48;go_wp2_with fail;generalize w.alloc _=w1 at bL cE H0⊢;refine HP.o _ _ _ _ _ H0.o ?_;rintro e Y u i2 I6 rfl ⟨o,nm,F,a,E,m,c,rfl⟩ s;have j:=sal Y (Ht o nm F a E m c);have aH:=s.kp.at cE.o n4;have fw:w.heap.size<Y.heap.size:=am aH;have dE:=ae (j.at aH trivial);have ch:=ae ((Goes.of bL.o s).same j);have J:=ae (ag Y (Ht o nm F a E m c));clear s j aH;go_wp2_with fail;generalize Y.alloc _=w3 at dE ch J⊢;generalize Y.heap.size=z at fw J⊢;have Z:z≠x:=by omega
 have I1:w.heap.size≠z:=by omega
 go_loopw [] (fun wr=>∃(i1:Nat) (e1:Int) (o nm:ByteArray) (F a:Int) (E:Option Addr) (m c:Nat),Hid (Goes w wr x v T i i1 er e1)∧
  Hid (wr.heap[w.heap.size]?=(Ih GA GA 0 0 none 0 0))∧
  Hid (wr.heap[z]?=(Ih o nm F a E m c))) (fun wr=>ju x T.length wr)
 case atStart=>exact⟨i2,I6,o,nm,F,a,E,m,c,ch,dE,J⟩
 case round=>
  clear ch dE J;obtain⟨i1,e1,o,nm,F,a,E,m,c,M,IZ,IR⟩:=hrel;have I2:=bm M.o T.length;obtain⟨Ja,h1⟩:=M.o.st;have a8:=ae h1;have HI:Hid (i1<T.length):=ae h1.at_;clear h1;go_wp2_with fail;refine fZ a8.o _ ?_;rintro e w6 rfl k6;obtain⟨b1,aL⟩:∃b,decide ((bC T i1 e1).k=3∧(bC T i1 e1).t=G7)=b:=⟨_,rfl⟩;rw[aL];have A:=ij aL;have r:=ae (k6.at IR.o trivial);have g:=ae (k6.at IZ.o trivial);have ce:=ae (M.o.same k6);have H6:=ae (a8.o.same k6);clear k6 aL IR IZ M a8
  cases b1 with
  |true=>
   replace A:=A rfl;go_wp2_with fail;refine bW H6.o ?_;rintro e N i7 rfl _ gH s;have I8:=gH A;have If:=ae (s.kp.at r.o Z);have dp:=ae (s.kp.at g.o n4);have IT:=ae (ce.o.tr s);obtain⟨I0,h7⟩:=s.st;have H7:=ae h7;clear s h7 gH A r g ce H6;generalize bC T i1 e1=q;simp only[Qk.val];have j:=sal N (Hv q.k q.t q.n q.a);have p:=ae (j.at If.o trivial);have I:=ae (ag N (Hv q.k q.t q.n q.a));have cH:=ae (j.at dp.o trivial);have L:=ae (IT.o.same j);have H8:=ae (H7.o.same j);have Jc:w.heap.size<N.heap.size:=am dp.o;have ny:N.heap.size≠x:=by omega
   clear j If dp IT H7;go_wp2_with fail;generalize N.alloc _=X at p I cH L H8⊢;generalize N.heap.size=y at I ny⊢;obtain⟨i8,I3⟩:∃i8,i8=i7:=⟨_,rfl⟩;obtain⟨I5,O⟩:∃e8,e8=e1:=⟨_,rfl⟩;rw[←I3,←O]at H8 L;clear O;obtain⟨z0,z1,z2,z3,z4⟩:=xc5 p.o rfl rfl rfl rfl rfl;have e3:=xc1 I.o 3 rfl;have kd:Keeps (·≠x) X X.drew:=al (af _ _);refine zq0 8 (.take 0 (.take 1 (.take 2 (.take 3 (.take 4 (.one 5 (.one 6 (.take 7 .last)))))))) (Keeps (·≠x) X) (by kernel_rfl) (by kernel_rfl) kd ?_
   iterate 5 (first|(apply aC;rfl;rfl;go_simp)|(apply aB;rfl;rfl;intro w' hS;obtain⟨y0,y1,y2,y3,y4,y5⟩:=xk6 hS z0 z1 z2 z3 z4 e3 Z Z Z Z Z ny;go_simp;exact rfl;go_simp))
   refine aI (ay rfl rfl fun K l=>?_);go_simp;refine HP.o X.drew i8 I5 I0 _ (H8.o.same (al (af _ _))) ?_;rintro e w9 u9 i9 I4 rfl ⟨o9,fd,k9,a9,fu,m9,c9,rfl⟩ s;have kp:Keeps (·≠x) X w9:=kd.tr s.kp;refine l (Keeps (·≠x) X) _ _ kp (fun _ h=>h) ?_;clear l K z0 z1 z2 z3 z4 e3;have IS:=ae ((L.o.same (al (af _ _))).tr s);have IW:=ae (kp.at cH.o n4);have gJ:=ae (kp.at p.o Z);have I7:=s.le;clear s L cH p I H8;refine aI (ay rfl rfl fun K l=>?_);go_simp;refine l (Keeps (·≠x) X) _ _ (kp.alloc _) (fun _ h=>h) ?_;clear l K;have G:=sal w9 (Iw o nm F a E m c o9 fd k9 a9 fu m9 c9);have C:=ae (IS.o.same G);have D:=ae (G.at IW.o trivial);have f:=ae (G.at gJ.o trivial);clear G IS IW gJ kp;generalize w9.alloc _=dZ at C D f⊢;generalize w9.heap.size=bk
   iterate 1 (first|(apply aC;rfl;rfl;go_simp)|(apply aB;rfl;rfl;intro w' hS;go_simp;exact rfl;go_simp))
   obtain⟨d0,d1,d2,d3,d4⟩:=xc5 f.o rfl rfl rfl rfl rfl;obtain⟨g0,g1,g2,g3,g4⟩:=xf5 f.o;refine aO rfl rfl fun K l=>?_;go_simp;refine l _ _ (aG ?_);clear l K d0 d1 d2 d3 d4 g0 g1 g2 g3 g4;have U:=ae (bT f.o (.string GO) (.string GA) IU (IP q.a) (.slice (IQ bk 0) 2 2));have V:=ae ((bq dZ z (.string GO) (.string GA) IU (IP q.a) (.slice (IQ bk 0) 2 2)).at D.o I1);have B:=ae (C.o.box5 H.o (show w.heap.size≤z by omega) (.string GO) (.string GA) IU (IP q.a) (.slice (IQ bk 0) 2 2));clear C D f;generalize((((dZ.setCell ⟨z,0,none⟩ (.string GO)).setCell ⟨z,1,none⟩ (.string GA)).setCell ⟨z,2,none⟩ IU).setCell ⟨z,3,none⟩ (IP q.a)).setCell ⟨z,4,none⟩ (.slice (IQ bk 0) 2 2)=I9 at U V B⊢;go_wp2_with fail;go_roundw
   case rel=>exact⟨i9,I4,_,_,_,_,_,_,_,B,V,U⟩
   case measure=>rw[I2,bm B.o];have :=HI.o;omega
  |false=>
   clear A;have z0:=ai r.o 0;have z1:=ai r.o 1;have z2:=ai r.o 2;have z3:=ai r.o 3;have z4:=ai r.o 4;obtain⟨d0,d1,d2,d3,d4⟩:=xc5 g.o rfl rfl rfl rfl rfl;obtain⟨g0,g1,g2,g3,g4⟩:=xf5 g.o;simp only[List.getElem?_toArray,List.getElem?_cons_zero,List.getElem?_cons_succ]at z0 z1 z2 z3 z4;go_wp2_with fail;refine bodyPost_ret (v:=(Hw o nm F a E m c)) (by simp[results,Tryz.results48,go_sem,d0,d1,d2,d3,d4]) rfl ?_;exact HR.o _ _ _ _ _ rfl ⟨_,_,_,_,_,_,_,rfl⟩ (ce.o.box5 H.o (Nat.le_refl _) _ _ _ _ _)
theorem mg (d:Nat) (hd:d≤30) (hp:d<30→dY x v T 32 (Ia (IL x) d)):
 dY x v T 14 (Ia (IL x) d):=by
 intro w i er pl R h hR;have HR:=ae hR;have HP:=ae hp;clear hR hp;have H:=ae h;have k0:Same w (bj w):=(af _ w).alloc _;have IS:(bj w).heap[w.heap.size]?=_:=ag w _;have H0:=ae (h.same k0);have M:=ae k0;have U:=ae IS;have Jg:x<w.heap.size:=am h.blk;have n4:w.heap.size≠x:=by omega
 unfold bj at H0 M U;clear k0 IS h;go_enter Tryz.func14,Tryz.ntmps14;go_wp2_with fail;generalize w.alloc _=w1 at M U H0⊢;refine ve H0.o d (by omega) ?_;rintro e w0 b0 Ji rfl bL a8;have dE:=ae (Goes.of M.o a8);have j:=ae (a8.kp.at U.o n4);clear a8 H0 M U
 cases b0 with
 |false=>
  obtain⟨d0,d1,d2,Z,Y⟩:=xc5 j.o rfl rfl rfl rfl rfl;obtain⟨g0,g1,g2,g3,g4⟩:=xf5 j.o;clear bL;go_wp2_with fail;refine bodyPost_ret (v:=(Hw GA GA 0 0 none 0 0)) (by simp[results,Tryz.results14,go_sem,d0,d1,d2,Z,Y]) rfl ?_;exact HR.o _ _ _ _ _ rfl ⟨_,_,_,_,_,_,_,rfl⟩ (dE.o.box5 H.o (Nat.le_refl _) _ _ _ _ _)
 |true=>
  have IR:=bL rfl;have HP:=ae (HP.o IR);clear bL;obtain⟨Jf,h0⟩:=dE.o.st;have H0:=ae h0;clear h0;go_wp2_with fail;refine HP.o _ _ _ _ _ H0.o ?_;rintro e w2 u i2 Ja rfl ⟨o,nm,G,a,F,m,c,rfl⟩ A;have l:=sal w2 (Ht o nm G a F m c);have ce:=A.kp.at j.o n4;have gJ:w.heap.size<w2.heap.size:=am ce;have fu:=ae (l.at ce trivial);have dp:=ae ((dE.o.tr A).same l);have L:=ae (ag w2 (Ht o nm G a F m c));clear A l ce;go_wp2_with fail;generalize w2.alloc _=w3 at fu dp L⊢;generalize w2.heap.size=z at gJ L⊢;have nz:z≠x:=by omega
  have I5:w.heap.size≠z:=by omega
  go_loopw [] (fun wr=>∃(i1:Nat) (e1:Int) (o nm:ByteArray) (G a:Int) (F:Option Addr) (m c:Nat),Hid (Goes w wr x v T i i1 er e1)∧
   Hid (wr.heap[w.heap.size]?=(Ih GA GA 0 0 none 0 0))∧
   Hid (wr.heap[z]?=(Ih o nm G a F m c))) (fun wr=>ju x T.length wr)
  case atStart=>exact⟨i2,Ja,o,nm,G,a,F,m,c,dp,fu,L⟩
  case round=>
   clear dp fu L;obtain⟨i1,e1,o,nm,G,a,F,m,c,O,I3,IZ⟩:=hrel;have I6:=bm O.o T.length;obtain⟨Je,h1⟩:=O.o.st;have cE:=ae h1;have HI:Hid (i1<T.length):=ae h1.at_;clear h1;go_wp2_with fail;refine fZ cE.o _ ?_;rintro e w6 rfl k6;obtain⟨b1,ch⟩:∃b,decide ((bC T i1 e1).k=3∧(bC T i1 e1).t=GY)=b:=⟨_,rfl⟩;rw[ch];have B:=ij ch;have s:=ae (k6.at IZ.o trivial);have g:=ae (k6.at I3.o trivial);have cH:=ae (O.o.same k6);have H6:=ae (cE.o.same k6);clear k6 ch IZ I3 O cE
   cases b1 with
   |true=>
    replace B:=B rfl;go_wp2_with fail;refine bW H6.o ?_;rintro e V i7 rfl _ If A;have Jc:=If B;have IW:=ae (A.kp.at s.o nz);have fd:=ae (A.kp.at g.o n4);have I1:=ae (cH.o.tr A);obtain⟨I4,h7⟩:=A.st;have H7:=ae h7;clear A h7 If B s g cH H6;generalize bC T i1 e1=q;simp only[Qk.val];have l:=sal V (Hv q.k q.t q.n q.a);have r:=ae (l.at IW.o trivial);have J:=ae (ag V (Hv q.k q.t q.n q.a));have dZ:=ae (l.at fd.o trivial);have N:=ae (I1.o.same l);have H8:=ae (H7.o.same l);have Jh:w.heap.size<V.heap.size:=am fd.o;have ny:V.heap.size≠x:=by omega
    clear l IW fd I1 H7;go_wp2_with fail;generalize V.alloc _=w8 at r J dZ N H8⊢;generalize V.heap.size=y at J ny⊢;obtain⟨i8,I7⟩:∃i8,i8=i7:=⟨_,rfl⟩;obtain⟨I9,X⟩:∃e8,e8=e1:=⟨_,rfl⟩;rw[←I7,←X]at H8 N;clear X;obtain⟨z0,z1,z2,z3,z4⟩:=xc5 r.o rfl rfl rfl rfl rfl;have e3:=xc1 J.o 3 rfl;have kd:Keeps (·≠x) w8 w8.drew:=al (af _ _);refine zq0 8 (.take 0 (.take 1 (.take 2 (.take 3 (.take 4 (.one 5 (.one 6 (.take 7 .last)))))))) (Keeps (·≠x) w8) (by kernel_rfl) (by kernel_rfl) kd ?_
    iterate 5 (first|(apply aC;rfl;rfl;go_simp)|(apply aB;rfl;rfl;intro w' hS;obtain⟨y0,y1,y2,y3,y4,y5⟩:=xk6 hS z0 z1 z2 z3 z4 e3 nz nz nz nz nz ny;go_simp;exact rfl;go_simp))
    refine aI (ay rfl rfl fun K p=>?_);go_simp;refine HP.o w8.drew i8 I9 I4 _ (H8.o.same (al (af _ _))) ?_;rintro e w9 u9 i9 I8 rfl ⟨o9,gH,k9,a9,gI,m9,c9,rfl⟩ A;have kp:Keeps (·≠x) w8 w9:=kd.tr A.kp;refine p (Keeps (·≠x) w8) _ _ kp (fun _ h=>h) ?_;clear p K z0 z1 z2 z3 z4 e3;have I0:=ae ((N.o.same (al (af _ _))).tr A);have I2:=ae (kp.at dZ.o n4);have IT:=ae (kp.at r.o nz);have Jb:=A.le;clear A N dZ r J H8;refine aI (ay rfl rfl fun K p=>?_);go_simp;refine p (Keeps (·≠x) w8) _ _ (kp.alloc _) (fun _ h=>h) ?_;clear p K;have I:=sal w9 (Iw o nm G a F m c o9 gH k9 a9 gI m9 c9);have D:=ae (I0.o.same I);have E:=ae (I.at I2.o trivial);have f:=ae (I.at IT.o trivial);clear I I0 I2 IT kp;generalize w9.alloc _=fw at D E f⊢;generalize w9.heap.size=bk
    iterate 1 (first|(apply aC;rfl;rfl;go_simp)|(apply aB;rfl;rfl;intro w' hS;go_simp;exact rfl;go_simp))
    obtain⟨d0,d1,d2,Z,Y⟩:=xc5 f.o rfl rfl rfl rfl rfl;obtain⟨g0,g1,g2,g3,g4⟩:=xf5 f.o;refine aO rfl rfl fun K p=>?_;go_simp;refine p _ _ (aG ?_);clear p K d0 d1 d2 Z Y g0 g1 g2 g3 g4;have aH:=ae (bT f.o (.string GF) (.string GA) IU (IP q.a) (.slice (IQ bk 0) 2 2));have aL:=ae ((bq fw z (.string GF) (.string GA) IU (IP q.a) (.slice (IQ bk 0) 2 2)).at E.o I5);have C:=ae (D.o.box5 H.o (show w.heap.size≤z by omega) (.string GF) (.string GA) IU (IP q.a) (.slice (IQ bk 0) 2 2));clear D E f;generalize((((fw.setCell ⟨z,0,none⟩ (.string GF)).setCell ⟨z,1,none⟩ (.string GA)).setCell ⟨z,2,none⟩ IU).setCell ⟨z,3,none⟩ (IP q.a)).setCell ⟨z,4,none⟩ (.slice (IQ bk 0) 2 2)=Jd at aH aL C⊢;go_wp2_with fail;go_roundw
    case rel=>exact⟨i9,I8,_,_,_,_,_,_,_,C,aL,aH⟩
    case measure=>rw[I6,bm C.o];have :=HI.o;omega
   |false=>
    clear B;have z0:=ai s.o 0;have z1:=ai s.o 1;have z2:=ai s.o 2;have z3:=ai s.o 3;have z4:=ai s.o 4;obtain⟨d0,d1,d2,Z,Y⟩:=xc5 g.o rfl rfl rfl rfl rfl;obtain⟨g0,g1,g2,g3,g4⟩:=xf5 g.o;simp only[List.getElem?_toArray,List.getElem?_cons_zero,List.getElem?_cons_succ]at z0 z1 z2 z3 z4;go_wp2_with fail;refine bodyPost_ret (v:=(Hw o nm G a F m c)) (by simp[results,Tryz.results14,go_sem,d0,d1,d2,Z,Y]) rfl ?_;exact HR.o _ _ _ _ _ rfl ⟨_,_,_,_,_,_,_,rfl⟩ (cH.o.box5 H.o (Nat.le_refl _) _ _ _ _ _)
def DW (x:Nat) (v:Value) (T:List Qk) (F:Nat) (args:Array Value) (k:Nat):Prop:=
 ∀(w:World) (i:Nat) (er pl:Int) (R:Ending→World→Prop),T.length -i≤k→RAt w x v T i er pl→(∀e w' u i' er',e=.returned u→Nod u→Goes w w' x v T i i' er er'→R e w')→Calls Tryz.prog F args w R
theorem Bz {F:Nat} {a:Array Value} (h:∀k,DW x v T F a k):dY x v T F a:=
 fun w i er b R c d=>h (T.length -i) w i er b R (Nat.le_refl _) c d
theorem Fd (d:Nat) (hp:dY x v T 48 (Ia (IL x) d)):∀k,DW x v T 32 (Ia (IL x) d) k:=by
 intro k
 induction k with
 |zero=>
  intro w i er pl R hk h hR;have :=h.at_;omega
 |succ k ih=>
  intro w i er pl R I5 h hR;have IS:=ae ih;clear ih;have HR:=ae hR;have HP:=ae hp;clear hR;have H:=ae h;have k0:Same w (bj w):=(af _ w).alloc _;have dp:(bj w).heap[w.heap.size]?=_:=ag w _;have H0:=ae (h.same k0);have Y:=ae k0;have aH:=ae dp;have I2:x<w.heap.size:=am h.blk;have n4:w.heap.size≠x:=by omega
  unfold bj at H0 Y aH;clear k0 dp h;go_enter Tryz.func32,Tryz.ntmps32;go_wp2_with fail;generalize w.alloc _=w1 at Y aH H0⊢;refine HP.o _ _ _ _ _ H0.o ?_;rintro e N u i2 D rfl ⟨o,nm,kk,a,ks,m,c,rfl⟩ s;have j:=sal N (Ht o nm kk a ks m c);have U:=s.kp.at aH.o n4;have cE:w.heap.size<N.heap.size:=am U;have bL:=ae (j.at U trivial);have B:=ae ((Goes.of Y.o s).same j);have F:=ae (ag N (Ht o nm kk a ks m c));clear s j U;go_wp2_with fail;generalize N.alloc _=w3 at bL B F⊢;generalize N.heap.size=z at cE F⊢;have O:z≠x:=by omega
  have I3:w.heap.size≠z:=by omega
  have IW:=B.o.le;obtain⟨I1,h3⟩:=B.o.st;have H3:=ae h3;have HI:Hid (i2<T.length):=ae h3.at_;clear h3;refine fZ H3.o _ ?_;rintro e w6 rfl k6;obtain⟨b1,V⟩:∃b,decide ((bC T i2 D).k=3∧(bC T i2 D).t=GZ)=b:=⟨_,rfl⟩;rw[V];have A:=ij V;have r:=ae (k6.at F.o trivial);have g:=ae (k6.at bL.o trivial);have Z:=ae (B.o.same k6);have H6:=ae (H3.o.same k6);clear k6 V F bL B H3
  cases b1 with
  |false=>
   clear A;have z0:=ai r.o 0;have z1:=ai r.o 1;have z2:=ai r.o 2;have z3:=ai r.o 3;have z4:=ai r.o 4;obtain⟨d0,d1,d2,d3,d4⟩:=xc5 g.o rfl rfl rfl rfl rfl;obtain⟨g0,g1,g2,g3,g4⟩:=xf5 g.o;simp only[List.getElem?_toArray,List.getElem?_cons_zero,List.getElem?_cons_succ]at z0 z1 z2 z3 z4;go_wp2_with fail;refine bodyPost_ret (v:=(Hw o nm kk a ks m c)) (by simp[results,Tryz.results32,go_sem,d0,d1,d2,d3,d4]) rfl ?_;exact HR.o _ _ _ _ _ rfl ⟨_,_,_,_,_,_,_,rfl⟩ (Z.o.box5 H.o (Nat.le_refl _) _ _ _ _ _)
  |true=>
   replace A:=A rfl;go_wp2_with fail;refine bW H6.o ?_;rintro e I i7 rfl _ cH s;have IZ:=cH A;have dZ:=ae (s.kp.at r.o O);have a8:=ae (s.kp.at g.o n4);have fw:=ae (Z.o.tr s);obtain⟨gI,h7⟩:=s.st;have H7:=ae h7;clear s h7 cH A r g Z H6;generalize bC T i2 D=q;simp only[Qk.val];have j:=sal I (Hv q.k q.t q.n q.a);have p:=ae (j.at dZ.o trivial);have E:=ae (ag I (Hv q.k q.t q.n q.a));have aL:=ae (j.at a8.o trivial);have G:=ae (fw.o.same j);have H8:=ae (H7.o.same j);have I4:w.heap.size<I.heap.size:=am a8.o;have ny:I.heap.size≠x:=by omega
   clear j dZ a8 fw H7;go_wp2_with fail;generalize I.alloc _=M at p E aL G H8⊢;generalize I.heap.size=y at E ny⊢;obtain⟨i8,gJ⟩:∃i8,i8=i7:=⟨_,rfl⟩;obtain⟨If,J⟩:∃e8,e8=D:=⟨_,rfl⟩;rw[←gJ,←J]at H8 G;clear J;have I6:T.length -i8≤k:=by have :=HI.o;omega
   have HP:Hid (∀(w:World) (i:Nat) (er pl:Int) (R:Ending→World→Prop),RAt w x v T i er pl→i=i8→(∀e w' u i' IR,e=.returned u→Nod u→Goes w w' x v T i i' er IR→R e w')→Calls Tryz.prog 32 (Ia (IL x) d) w R):=ae fun w i er pl R h hi hR=>IS.o w i er pl R (by omega) h hR;obtain⟨z0,z1,z2,z3,z4⟩:=xc5 p.o rfl rfl rfl rfl rfl;have e3:=xc1 E.o 3 rfl;have kd:Keeps (·≠x) M M.drew:=al (af _ _);refine zq0 8 (.take 0 (.take 1 (.take 2 (.take 3 (.take 4 (.one 5 (.one 6 (.take 7 .last)))))))) (Keeps (·≠x) M) (by kernel_rfl) (by kernel_rfl) kd ?_
   iterate 5 (first|(apply aC;rfl;rfl;go_simp)|(apply aB;rfl;rfl;intro w' X;obtain⟨y0,y1,y2,y3,y4,y5⟩:=xk6 X z0 z1 z2 z3 z4 e3 O O O O O ny;go_simp;exact rfl;go_simp))
   refine aI (ay rfl rfl fun K l=>?_);go_simp;refine HP.o M.drew i8 If gI _ (H8.o.same (al (af _ _))) rfl ?_;rintro e w9 u9 i9 I7 rfl ⟨o9,ce,k9,a9,ch,m9,c9,rfl⟩ s;have kp:Keeps (·≠x) M w9:=kd.tr s.kp;refine l (Keeps (·≠x) M) _ _ kp (fun _ h=>h) ?_;clear l K z0 z1 z2 z3 z4 e3;have fu:=ae ((G.o.same (al (af _ _))).tr s);have gH:=ae (kp.at aL.o n4);have dE:=ae (kp.at p.o O);have IT:=s.le;clear s G aL p E H8;refine aI (ay rfl rfl fun K l=>?_);go_simp;refine l (Keeps (·≠x) M) _ _ (kp.alloc _) (fun _ h=>h) ?_;clear l K;have C:=sal w9 (Iw o nm kk a ks m c o9 ce k9 a9 ch m9 c9);have L:=ae (fu.o.same C);have f:=ae (C.at gH.o trivial);have fd:=ae (C.at dE.o trivial);clear C fu gH dE kp;generalize w9.alloc _=I0 at L f fd⊢;generalize w9.heap.size=bk
   iterate 1 (first|(apply aC;rfl;rfl;go_simp)|(apply aB;rfl;rfl;intro w' X;go_simp;exact rfl;go_simp))
   obtain⟨d0,d1,d2,d3,d4⟩:=xc5 f.o rfl rfl rfl rfl rfl;obtain⟨g0,g1,g2,g3,g4⟩:=xf5 f.o;refine aO rfl rfl fun K l=>?_;go_simp;refine l _ _ (aG ?_);clear l K g0 g1 g2 g3 g4;go_wp2_with fail;refine bodyPost_ret (v:=(Hw GL GA 0 q.a (IQ bk 0) 2 2)) (by simp[results,Tryz.results32,go_sem,d0,d1,d2,d3,d4]) rfl ?_;exact HR.o _ _ _ _ _ rfl ⟨_,_,_,_,_,_,_,rfl⟩ (L.o.box5 H.o (Nat.le_refl _) _ _ _ _ _)
theorem FB (d:Nat) (hd:d≤30) (JF:d<30→dY x v T 119 (Ia (IL x) ((d:Int)+1)))
 (IR:d<30→dY x v T 14 (Ia (IL x) ((d:Int)+1)))
 (IS:dY x v T 171 #[.pointer (IQ x 0)]):
 dY x v T 119 (Ia (IL x) d):=by
 intro w i er pl R h hR;have HR:=ae hR;have Jq:=ae JF;have Jd:=ae IR;have JZ:=ae IS;clear hR JF IR IS;have H:=ae h;have k0:Same w (bj w):=(af _ w).alloc _;have JI:(bj w).heap[w.heap.size]?=_:=ag w _;have H0:=ae (h.same k0);have Jb:=ae k0;have Je:=ae JI;have J8:x<w.heap.size:=am h.blk;have n4:w.heap.size≠x:=by omega
 unfold bj at H0 Jb Je;clear k0 JI h;go_enter Tryz.func119,Tryz.ntmps119;go_wp2_with fail;generalize w.alloc _=w1 at Jb Je H0⊢;refine ve H0.o d (by omega) ?_;rintro e w2 b0 If rfl Jp I7;have Js:=ae (Goes.of Jb.o I7);have J:=ae (I7.kp.at Je.o n4);obtain⟨J5,h2⟩:=I7.st;have H2:=ae h2;clear I7 h2 H0 Jb Je
 cases b0 with
 |false=>
  clear Jp;obtain⟨X,V,U,O,N⟩:=xc5 J.o rfl rfl rfl rfl rfl;obtain⟨g0,g1,g2,g3,g4⟩:=xf5 J.o;go_wp2_with fail;refine bodyPost_ret (v:=(Hw GA GA 0 0 none 0 0)) (by simp[results,Tryz.results119,go_sem,X,V,U,O,N]) rfl ?_;exact HR.o _ _ _ _ _ rfl ⟨_,_,_,_,_,_,_,rfl⟩ (Js.o.box5 H.o (Nat.le_refl _) _ _ _ _ _)
 |true=>
  have Jk:=Jp rfl;replace Jq:=ae (Jq.o Jk);replace Jd:=ae (Jd.o Jk);clear Jp;have Ka:IntKind.i64.wrap ((d:Int)+1)=(d:Int)+1:=by rw[IntKind.wrap_i64];omega
  go_wp2_with fail;refine dH H2.o ?_;rintro e w3 rfl k3;generalize bC T i If=q;simp only[Qk.val];have JG:w.heap.size<w3.heap.size:=Nat.lt_of_lt_of_le (am J.o) k3.size;have C:=k3.alloc (Hv q.k q.t q.n q.a);have Jr:=ae (Js.o.same C);have Jt:=ae (C.at J.o trivial);have I9:=ae (ag w3 (Hv q.k q.t q.n q.a));have H4:=ae (H2.o.same C);have ny:w3.heap.size≠x:=by omega
  clear C k3 Js J H2;go_wp2_with fail;generalize w3.alloc _=w4 at Jr Jt I9 H4⊢;generalize w3.heap.size=y at I9 JG ny⊢;refine jD H4.o _ (by decide) ?_;rintro e w5 k1 rfl Jj Ji _ k5;have JO:=ae (Jr.o.same k5);have JQ:=ae (aM k5 Jt.o trivial);have JN:=ae (aM k5 I9.o trivial);have H5:=ae (cG H4.o k5);clear k5 Jr Jt I9 H4;go_wp2_with fail;refine jD H5.o _ (by decide) ?_;rintro e w6 k2 rfl Jh Jg _ k6;have Jc:=ae (JO.o.same k6);have Jf:=ae (aM k6 JQ.o trivial);have I8:=ae (aM k6 JN.o trivial);have H6:=ae (cG H5.o k6);clear k6 JO JQ JN H5;go_wp2_with fail;refine ei H6.o _ ?_;rintro e w7 b7 i7 rfl _ c
  cases b7 with
  |true=>
   clear Jj Ji Jh Jg;have fd:=ae (Jc.o.tr c);have fu:=ae (c.kp.at Jf.o n4);have dZ:=ae (c.kp.at I8.o ny);obtain⟨Jw,h7⟩:=c.st;have H7:=ae h7;clear c h7 Jc Jf I8 H6;go_wp2_with fail;have e3:=xc1 dZ.o 3 rfl;have kd:Keeps (·≠x) w7 w7.drew:=al (af _ w7);refine zq0 8 (.take 0 (.take 1 (.take 2 (.take 3 (.take 4 (.one 5 (.one 6 (.take 7 .last)))))))) (Keeps (·≠x) w7) (by kernel_rfl) (by kernel_rfl) kd ?_
   iterate 5 (first|(apply aC;rfl;rfl;go_simp)|(apply aB;rfl;rfl;intro w' hS;have y5:=ak hS e3 ny;go_simp;exact rfl;go_simp))
   refine aI (ay rfl rfl fun K j=>?_);go_simp;refine Jq.o w7.drew i7 If Jw _ (H7.o.same (al (af _ _))) ?_;rintro e w9 u9 i9 JK rfl ⟨o9,G,k9,a9,I,m9,c9,rfl⟩ c;have kp:Keeps (·≠x) w7 w9:=kd.tr c.kp;refine j (Keeps (·≠x) w7) _ _ kp (fun _ h=>h) ?_;clear j K e3;have s:=ae ((fd.o.same (al (af _ _))).tr c);have g:=ae (kp.at fu.o n4);clear c fd fu dZ H7 kd;refine aI (ay rfl rfl fun K j=>?_);go_simp;refine j (Keeps (·≠x) w7) _ _ (kp.alloc _) (fun _ h=>h) ?_;clear j K;have dp:=sal w9 (Ht o9 G k9 a9 I m9 c9);have m:=ae (s.o.same dp);have b:=ae (dp.at g.o trivial);clear dp s g kp;generalize w9.alloc _=gJ at m b⊢;generalize w9.heap.size=bk
   iterate 1 (first|(apply aC;rfl;rfl;go_simp)|(apply aB;rfl;rfl;intro w' hS;go_simp;exact rfl;go_simp))
   obtain⟨X,V,U,O,N⟩:=xc5 b.o rfl rfl rfl rfl rfl;obtain⟨g0,g1,g2,g3,g4⟩:=xf5 b.o;refine aO rfl rfl fun K j=>?_;go_simp;refine j _ _ (aG ?_);clear j K g0 g1 g2 g3 g4;go_wp2_with fail;refine bodyPost_ret (v:=(Hw GJ GA 0 q.a (IQ bk 0) 1 1)) (by simp[results,Tryz.results119,go_sem,X,V,U,O,N]) rfl ?_;exact HR.o _ _ _ _ _ rfl ⟨_,_,_,_,_,_,_,rfl⟩ (m.o.box5 H.o (Nat.le_refl _) _ _ _ _ _)
  |false=>
   have fd:=ae (Jc.o.tr c);have fu:=ae (c.kp.at Jf.o n4);have dZ:=ae (c.kp.at I8.o ny);obtain⟨Jw,h7⟩:=c.st;have H7:=ae h7;clear c h7 Jc Jf I8 H6;have hb:decide (0≤k1)=true∨(decide (0≤k1)=false∧decide (0≤k2)=true)∨(decide (0≤k1)=false∧decide (0≤k2)=false):=by
    cases decide (0≤k1)<;>cases decide (0≤k2)<;>simp
   rcases hb with JJ|⟨JJ,JX⟩|⟨JJ,JX⟩
   rotate_left 2
   ·clear Jj Ji Jh Jg;go_wp2_with fail;refine fZ H7.o _ ?_;rintro e M rfl k8;generalize decide ((bC T i7 If).k=3∧(bC T i7 If).t=GU)=bt;have bL:=ae (fd.o.same k8);have aH:=ae (aM k8 fu.o trivial);have ch:=ae (aM k8 dZ.o trivial);have H8:=ae (cG H7.o k8);clear k8 fd fu dZ H7
    cases bt with
    |true=>
     go_wp2_with fail;refine bW H8.o ?_;rintro e w9 i9 rfl _ _ c;have s:=ae (bL.o.tr c);have g:=ae (c.kp.at aH.o n4);have dE:=ae (c.kp.at ch.o ny);obtain⟨J3,h9⟩:=c.st;have H9:=ae h9;clear c h9 bL aH ch H8;have e1:=xc1 dE.o 1 rfl;have e3:=xc1 dE.o 3 rfl;obtain⟨X,V,U,O,N⟩:=xc5 g.o rfl rfl rfl rfl rfl;obtain⟨g0,g1,g2,g3,g4⟩:=xf5 g.o;go_wp2_with fail;refine bodyPost_ret (v:=(Hw q.t GA 0 q.a none 0 0)) (by simp[results,Tryz.results119,go_sem,X,V,U,O,N]) rfl ?_;exact HR.o _ _ _ _ _ rfl ⟨_,_,_,_,_,_,_,rfl⟩ (s.o.box5 H.o (Nat.le_refl _) _ _ _ _ _)
    |false=>
     go_wp2_with fail;refine fZ H8.o _ ?_;rintro e w9 rfl k9;generalize decide ((bC T i7 If).k=3∧(bC T i7 If).t=Hi)=bf;have s:=ae (bL.o.same k9);have g:=ae (aM k9 aH.o trivial);have dE:=ae (aM k9 ch.o trivial);have H9:=ae (cG H8.o k9);clear k9 bL aH ch H8
     cases bf with
     |true=>
      go_wp2_with fail;refine bW H9.o ?_;rintro e gJ i9 rfl _ _ c;have m:=ae (s.o.tr c);have b:=ae (c.kp.at g.o n4);have Y:=ae (c.kp.at dE.o ny);obtain⟨JB,I0⟩:=c.st;have I3:=ae I0;clear c I0 s g dE H9;have e1:=xc1 Y.o 1 rfl;have e3:=xc1 Y.o 3 rfl;obtain⟨X,V,U,O,N⟩:=xc5 b.o rfl rfl rfl rfl rfl;obtain⟨g0,g1,g2,g3,g4⟩:=xf5 b.o;go_wp2_with fail;refine bodyPost_ret (v:=(Hw q.t GA 0 q.a none 0 0)) (by simp[results,Tryz.results119,go_sem,X,V,U,O,N]) rfl ?_;exact HR.o _ _ _ _ _ rfl ⟨_,_,_,_,_,_,_,rfl⟩ (m.o.box5 H.o (Nat.le_refl _) _ _ _ _ _)
     |false=>
      go_wp2_with fail;refine ei H9.o _ ?_;rintro e gJ JY J7 rfl _ c;have m:=ae (s.o.tr c);have b:=ae (c.kp.at g.o n4);have Y:=ae (c.kp.at dE.o ny);obtain⟨JB,I0⟩:=c.st;have I3:=ae I0;clear c I0 s g dE H9
      cases JY with
      |true=>
       go_wp2_with fail;refine Jd.o _ _ _ _ _ I3.o ?_;rintro e F JU JW JM rfl ⟨o9,G,k9,a9,I,m9,c9,rfl⟩ c;have r:=ae (m.o.tr c);have f:=ae (c.kp.at b.o n4);have I2:=ae (c.kp.at Y.o ny);obtain⟨JA,IZ⟩:=c.st;have Jv:=ae IZ;clear c IZ m b Y I3;have J9:w.heap.size<F.heap.size:=am f.o;have C:=sal F (Ht o9 G k9 a9 I m9 c9);have D:=ae (ag F (Ht o9 G k9 a9 I m9 c9));have nz:F.heap.size≠x:=by omega
       have A:=ae (r.o.same C);have E:=ae (aM C f.o trivial);have I1:=ae (aM C I2.o trivial);have ce:=ae (cG Jv.o C);clear C r f I2 Jv;go_wp2_with fail;generalize F.alloc _=JS at A E I1 ce D⊢;generalize F.heap.size=z at D nz⊢;refine cJ ce.o _ ?_;rintro e JR JT JV JL rfl c;have L:=ae (c.kp.at D.o nz);have gI:=ae (A.o.tr c);have p:=ae (c.kp.at E.o n4);have J1:=ae (c.kp.at I1.o ny);obtain⟨Jy,IT⟩:=c.st;have Ju:=ae IT;clear c IT A E I1 ce;obtain⟨z0,z1,z2,z3,z4⟩:=xc5 L.o rfl rfl rfl rfl rfl;obtain⟨X,V,U,O,N⟩:=xc5 p.o rfl rfl rfl rfl rfl;obtain⟨g0,g1,g2,g3,g4⟩:=xf5 p.o;go_wp2_with fail;refine bodyPost_ret (v:=(Hw o9 G k9 a9 I m9 c9)) (by simp[results,Tryz.results119,go_sem,X,V,U,O,N]) rfl ?_;exact HR.o _ _ _ _ _ rfl ⟨_,_,_,_,_,_,_,rfl⟩ (gI.o.box5 H.o (Nat.le_refl _) _ _ _ _ _)
      |false=>
       go_wp2_with fail;refine JZ.o _ _ _ _ _ I3.o ?_;rintro e F JU JW JM rfl ⟨o9,G,k9,a9,I,m9,c9,rfl⟩ c;have r:=ae (m.o.tr c);have f:=ae (c.kp.at b.o n4);have I2:=ae (c.kp.at Y.o ny);obtain⟨JA,IZ⟩:=c.st;have Jv:=ae IZ;clear c IZ m b Y I3;obtain⟨X,V,U,O,N⟩:=xc5 f.o rfl rfl rfl rfl rfl;obtain⟨g0,g1,g2,g3,g4⟩:=xf5 f.o;go_wp2_with fail;refine bodyPost_ret (v:=(Hw o9 G k9 a9 I m9 c9)) (by simp[results,Tryz.results119,go_sem,X,V,U,O,N]) rfl ?_;exact HR.o _ _ _ _ _ rfl ⟨_,_,_,_,_,_,_,rfl⟩ (r.o.box5 H.o (Nat.le_refl _) _ _ _ _ _)
   all_goals
    go_wp2_with fail;refine bW H7.o ?_;rintro e M i8 rfl _ _ c;have bL:=ae (fd.o.tr c);have aH:=ae (c.kp.at fu.o n4);have ch:=ae (c.kp.at dZ.o ny);obtain⟨J4,h8⟩:=c.st;have H8:=ae h8;clear c h8 fd fu dZ H7;go_wp2_with fail;have e3:=xc1 ch.o 3 rfl;have kd:Keeps (·≠x) M M.drew:=al (af _ M);have JE:w.heap.size<M.heap.size:=am aH.o;refine zq0 8 (.take 0 (.take 1 (.take 2 (.take 3 (.two 4 7 (.take 5 (.take 6 (.one 7 .last))) (.one 4 (.take 5 (.take 6 .last)))))))) (Keeps (·≠x) M) (by kernel_rfl) (by kernel_rfl) kd ?_
    iterate 4 (first|(apply aC;rfl;rfl;go_simp)|(apply aB;rfl;rfl;intro w' hS;have y5:=ak hS e3 ny;go_simp;exact rfl;go_simp))
    refine kP ?_ ?_;refine ay rfl rfl fun K j=>?_;go_simp;refine fz (H8.o.same (al (af _ _))) ?_;rintro e w9 qn i9 JK rfl _ c;have kp:Keeps (·≠x) M w9:=kd.tr c.kp;refine j (Keeps (·≠x) M) _ _ kp (fun _ h=>h) ?_;clear j K e3;simp only[Qk.val]
    iterate 2 (first|(apply aC;rfl;rfl;go_simp)|(apply aB;rfl;rfl;intro w' hS;go_simp;exact rfl;go_simp))
    refine aI (ay rfl rfl fun K j=>?_);go_simp;refine j (Keeps (·≠x) M) _ _ (kp.alloc _) (fun _ h=>h) ?_;clear j K;have dp:=sal w9 Ho;have s:=ae ((bL.o.same (al (af _ _))).tr c);have g:=ae (kp.at aH.o n4);have m:=ae (s.o.same dp);have b:=ae (dp.at g.o trivial);have l:=ae (ag w9 Ho);have JD:M.heap.size≤w9.heap.size:=kp.size;clear dp s g c bL aH ch H8;clear kp;generalize w9.alloc _=gJ at m b l⊢;generalize w9.heap.size=z at l JD⊢
    rotate_left
    refine ay rfl rfl fun K j=>?_;go_simp;have ka:Keeps (·≠x) M (M.alloc Ho).drew:=((af (·≠x) M).alloc _).drew;have I5:Same M (M.alloc Ho).drew:=((af _ M).alloc _).drew;refine j (Keeps (·≠x) M) _ _ ka (fun _ h=>h) ?_;clear j K;have JH:(M.alloc Ho).drew.heap[M.heap.size]?=_:=ag M Ho;have H9:=ae (H8.o.same I5);have s:=ae (bL.o.same I5);have g:=ae (I5.at aH.o trivial);have Ja:=ae JH;clear I5 JH bL aH H8 ch;generalize(M.alloc Ho).drew=w9 at ka H9 s g Ja⊢;generalize hz:M.heap.size=z at Ja JE⊢;have JD:M.heap.size≤z:=Nat.le_of_eq hz;clear hz;have JC:z≠x:=by omega
    refine aI (ay rfl rfl fun K j=>?_);go_simp;refine fz H9.o ?_;rintro e gJ qn i9 JK rfl _ c;refine j (Keeps (·≠x) M) _ _ (ka.tr c.kp) (fun _ h=>h) ?_;clear j K e3;have m:=ae (s.o.tr c);have b:=ae (c.kp.at g.o n4);have l:=ae (c.kp.at Ja.o JC);clear c ka s g Ja H9;simp only[Qk.val]
    iterate 2 (first|(apply aC;rfl;rfl;go_simp)|(apply aB;rfl;rfl;intro w' hS;go_simp;exact rfl;go_simp))
    clear JC
    all_goals
     have nz:z≠x:=by omega
     have Jn:w.heap.size≠z:=by omega
     obtain⟨X,V,U,O,N⟩:=xc5 l.o rfl rfl rfl rfl rfl;obtain⟨g0,g1,g2,g3,g4⟩:=xf5 l.o;refine aO rfl rfl fun K j=>?_;go_simp;refine j _ _ (aG ?_);clear j K X V U O N g0 g1 g2 g3 g4;generalize qn.t=cH;have u:=ae (bT l.o (.string GB) (.string cH) (IP k1) (IP q.a) IM);have f:=ae ((bq gJ z (.string GB) (.string cH) (IP k1) (IP q.a) IM).at b.o Jn);have r:=ae (m.o.box5 H.o (show w.heap.size≤z by omega) (.string GB) (.string cH) (IP k1) (IP q.a) IM);clear m b l;generalize((((gJ.setCell ⟨z,0,none⟩ (.string GB)).setCell ⟨z,1,none⟩ (.string cH)).setCell ⟨z,2,none⟩ (IP k1)).setCell ⟨z,3,none⟩ (IP q.a)).setCell ⟨z,4,none⟩ IM=F at u f r⊢;by_cases fw:k1<0
     case' pos=>
      have Jo:decide (k1<0)=true:=decide_eq_true fw;have z0:=xc1 u.o 0 rfl;have z2:=xc1 u.o 2 rfl;have f0:=ao u.o 0;have f2:=ao u.o 2;have D:Hid (((F.setCell ⟨z,0,none⟩ (.string GC)).setCell ⟨z,2,none⟩ (IP k2)).heap[z]?=(Ih GC cH k2 q.a none 0 0)):=ae (by rw[aj (aj u.o _ _)];simp);have E:=ae ((((af (·≠z) F).but 0 (.string GC)).but 2 (IP k2)).at f.o Jn);have A:=ae ((r.o.new H.o (show w.heap.size≤z by omega) 0 (.string GC)).new H.o (show w.heap.size≤z by omega) 2 (IP k2));obtain⟨Jz,IW⟩:=A.o.st;have ce:=ae IW;clear IW u f r fw;go_wp2_with fail;obtain⟨I4,aL⟩:∃o:ByteArray,o=GC:=⟨_,rfl⟩;obtain⟨I6,a8⟩:∃k,k=k2:=⟨_,rfl⟩;rw[←aL,←a8]at D E A ce;rw[←aL,←a8];clear aL a8 z0 z2 f0 f2 Jo;generalize(F.setCell ⟨z,0,none⟩ (.string I4)).setCell ⟨z,2,none⟩ (IP I6)=JS at D E A ce⊢
     case' neg=>
      have Jo:decide (k1<0)=false:=decide_eq_false fw;obtain⟨Jz,IW⟩:=r.o.st;have ce:=ae IW;clear IW fw;go_wp2_with fail;obtain⟨I4,aL⟩:∃o:ByteArray,o=GB:=⟨_,rfl⟩;obtain⟨I6,a8⟩:∃k,k=k1:=⟨_,rfl⟩;rw[←aL,←a8]at u;clear aL a8 Jo;have D:=u;have E:=f;have A:=r;clear u f r
     all_goals
      refine cJ ce.o _ ?_;rintro e JR JT JV JL rfl c;have L:=ae (c.kp.at D.o nz);have p:=ae (c.kp.at E.o n4);have gI:=ae (A.o.tr c);obtain⟨Jy,IT⟩:=c.st;have Ju:=ae IT;clear c IT D E A ce;go_wp2_with fail;refine Jd.o _ _ _ _ _ Ju.o ?_;rintro e Z J2 J6 J0 rfl ⟨o9,G,k9,a9,I,m9,c9,rfl⟩ c;have C:=sal Z (Ht o9 G k9 a9 I m9 c9);have gH:=ae (C.at (c.kp.at L.o nz) trivial);have Jm:=ae (C.at (c.kp.at p.o n4) trivial);have Jl:=ae ((gI.o.tr c).same C);clear c C L p gI Ju;have z4:=xc1 gH.o 4 rfl;have f4:=ao gH.o 4;have ks:=(af (·≠z) (Z.alloc (Ht o9 G k9 a9 I m9 c9))).but 4 (.slice (IQ Z.heap.size 0) 1 1);have cE:Hid (((Z.alloc (Ht o9 G k9 a9 I m9 c9)).setCell ⟨z,4,none⟩ (.slice (IQ Z.heap.size 0) 1 1)).heap[z]?=(Ih I4 cH I6 q.a (IQ Z.heap.size 0) 1 1)):=ae (by rw[aj gH.o];simp);have B:=ae (ks.at Jm.o Jn);have JP:=ae (Jl.o.new H.o (show w.heap.size≤z by omega) 4 (.slice (IQ Z.heap.size 0) 1 1));obtain⟨y0,y1,y2,y3,y4⟩:=xc5 cE.o rfl rfl rfl rfl rfl;obtain⟨X,V,U,O,N⟩:=xc5 B.o rfl rfl rfl rfl rfl;obtain⟨g0,g1,g2,g3,g4⟩:=xf5 B.o;clear ks gH Jm Jl;go_wp2_with fail;refine bodyPost_ret (v:=(Hw I4 cH I6 q.a (IQ Z.heap.size 0) 1 1)) (by simp[results,Tryz.results119,go_sem,X,V,U,O,N]) rfl ?_;exact HR.o _ _ _ _ _ rfl ⟨_,_,_,_,_,_,_,rfl⟩ (JP.o.box5 H.o (Nat.le_refl _) _ _ _ _ _)
end
end Go.Proofs.YtojegnbejmeehaaGreatDoor
