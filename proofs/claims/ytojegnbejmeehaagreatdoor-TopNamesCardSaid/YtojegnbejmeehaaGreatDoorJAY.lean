/- Helpers of the proof of TopNames. -/
import Derived.Test.YtojegnbejmeehaaGreatDoorJAX
namespace Go.Proofs.YtojegnbejmeehaaGreatDoor
open Go.RowKit
set_option maxRecDepth 10000
set_option maxHeartbeats 16000000
set_option linter.all false
section
attribute [local irreducible] wpQuiet ax au aQ
variable {R:Ending→World→Prop} {w:World}
theorem Keeps.box6 {w g:World} {S:Nat→Prop} (k:Keeps S w g) {x:Nat} (hx:w.heap.size≤x) (a b c d e f:Value):Keeps S w ((((((g.setCell ⟨x,0,none⟩ a).setCell ⟨x,1,none⟩ b).setCell ⟨x,2,none⟩ c).setCell ⟨x,3,none⟩ d).setCell ⟨x,4,none⟩ e).setCell ⟨x,5,none⟩ f):=
 (((((k.new hx _ _).new hx _ _).new hx _ _).new hx _ _).new hx _ _).new hx _ _
theorem bE {g:World} {x:Nat} {n m l k j i:Value} {t:TypeId} (h:g.heap[x]?=some (.cells #[n,m,l,k,j,i] t (0,0))) (a b c d e f:Value):((((((g.setCell ⟨x,0,none⟩ a).setCell ⟨x,1,none⟩ b).setCell ⟨x,2,none⟩ c).setCell ⟨x,3,none⟩ d).setCell ⟨x,4,none⟩ e).setCell ⟨x,5,none⟩ f).heap[x]?=some (.cells #[a,b,c,d,e,f] t (0,0)):=by
 rw[aj (aj (aj (aj (aj (aj h _ _) _ _) _ _) _ _) _ _)];simp
theorem aU (w:World) (x:Nat) (a b c d e f:Value):Keeps (·≠x) w ((((((w.setCell ⟨x,0,none⟩ a).setCell ⟨x,1,none⟩ b).setCell ⟨x,2,none⟩ c).setCell ⟨x,3,none⟩ d).setCell ⟨x,4,none⟩ e).setCell ⟨x,5,none⟩ f):=
 ((((((af (·≠x) w).but _ _).but _ _).but _ _).but _ _).but _ _).but _ _
theorem CoIn.low {G:Nat→Prop} {v:Value} {t:Co} (h:CoIn G w v t) {x:Nat} (hx:w.heap.size≤x):CoIn (fun b=>G b∧b≠x) w v t:=em (fun _ h1 h2=>⟨h2,by omega⟩) h
theorem ph {a:Int} {c d:Value} {k l:Co} {G:Nat→Prop} (hc:CoIn G w c k) (hd:CoIn G w d l) (hG:∀b,w.heap.size≤b→G b) (hR:∀e w' v,e=.returned v→CoIn G w' v (.bound a k l)→Same w w'→R e w'):
 Calls Tryz.prog 149 #[IP a,c,d] w R:=by
 have HR:=ae hR;have HG:=ae hG;clear hR hG;obtain⟨n,j,rfl,_,_⟩:=hc.shape;have X:=ae hc;clear hc;generalize k.op=D at X⊢;generalize k.va=C at X⊢;generalize k.vb=B at X⊢;generalize k.vc=A at X⊢;generalize k.vn=z at X⊢;generalize k.kids.length=y at X⊢;obtain⟨m,i,rfl,_,_⟩:=hd.shape;have V:=ae hd;clear hd;generalize l.op=t at V⊢;generalize l.va=s at V⊢;generalize l.vb=r at V⊢;generalize l.vc=q at V⊢;generalize l.vn=p at V⊢;generalize l.kids.length=o at V⊢;go_enter Tryz.func149,Tryz.ntmps149;have hk:Same w (((w.alloc (Hu D C B A z n y j)).alloc (Hu t s r q p m o i)).alloc Hl):=(((af (fun _=>True) w).alloc (Hu D C B A z n y j)).alloc (Hu t s r q p m o i)).alloc Hl;have H:=ag ((w.alloc (Hu D C B A z n y j)).alloc (Hu t s r q p m o i)) Hl;have hz:((w.alloc (Hu D C B A z n y j)).alloc (Hu t s r q p m o i)).heap.size=w.heap.size+1+1:=by simp
 rw[hz]at H;have HK:=ae hk;have HB:=ae H;have a8:(((w.alloc (Hu D C B A z n y j)).alloc (Hu t s r q p m o i)).alloc Hl).heap.size=w.heap.size+1+1+1:=by simp
 have h:=ae a8;have dp:=ae ((X.o.low (x:=w.heap.size+1+1) (by omega)).same hk);have cH:=ae ((V.o.low (x:=w.heap.size+1+1) (by omega)).same hk);clear hk H hz a8 X V;go_wp2_with fail;generalize((w.alloc (Hu D C B A z n y j)).alloc (Hu t s r q p m o i)).alloc Hl=w1 at dp cH HK HB h⊢;have dZ:=ae HK.o;have fu:=ae HB.o;replace h:=ae (Nat.le_of_eq h.o.symm);clear HK HB;refine pi (G:=fun b=>G b∧b≠w.heap.size+1+1) dp.o cH.o (fun b H=>⟨HG.o b (by have :=h.o;omega),by have :=h.o;omega⟩) ?_;rintro e w2 u rfl Z k2;have cE:=k2.at fu.o trivial;have ce:=dZ.o.tr k2;have aL:=Nat.le_trans h.o k2.size;clear k2 fu dZ h;have fd:=ae cE;have dE:=ae ce;have U:=ae aL;clear cE ce aL;go_wp2_with fail;refine Gi (G:=fun b=>G b∧b≠w.heap.size+1+1) Z (fun b H=>⟨HG.o b (by have :=U.o;omega),by have :=U.o;omega⟩) ?_;rintro e w3 u2 rfl Z k3;have ch:=k3.at fd.o trivial;have bL:=dE.o.tr k3;have aH:=Nat.le_trans U.o k3.size;clear k3 fd dE U;have f:=ae ch;have gH:=ae bL;have gI:=ae aH;clear ch bL aH;generalize hT:Co.ex a (k.and l)=T at Z;have HT:=ae hT;clear hT;obtain⟨F,E,rfl,_,_⟩:=Z.shape;have Y:=ae Z;clear Z;generalize T.op=O at Y⊢;generalize T.va=N at Y⊢;generalize T.vb=M at Y⊢;generalize T.vc=L at Y⊢;generalize T.vn=J at Y⊢;generalize T.kids.length=I at Y⊢;obtain⟨d0,d1,d2,d3,d4,d5⟩:=xc6 f.o rfl rfl rfl rfl rfl rfl;obtain⟨g0,g1,g2,g3,g4,g5⟩:=xf6 f.o;have g:=bE f.o (.string O) (IP N) (IP M) (IP L) (IP J) (.slice F I E);obtain⟨e0,e1,e2,e3,e4,e5⟩:=xc6 g rfl rfl rfl rfl rfl rfl;have k6:=aU w3 (w.heap.size+1+1) (.string O) (IP N) (IP M) (IP L) (IP J) (.slice F I E);have HU:=ae (Y.o.kept k6 fun b H=>H.2);have fw:=ae (gH.o.box6 (x:=w.heap.size+1+1) (by omega) (.string O) (IP N) (IP M) (IP L) (IP J) (.slice F I E));clear g k6;go_wp2_with fail;refine bodyPost_ret (v:=(Ib O N M L J F I E)) (by simp[results,Tryz.results149,go_sem,e0,e1,e2,e3,e4,e5]) rfl ?_;exact HR.o _ _ _ rfl (by rw[show Co.bound a k l=T from HT.o];exact HU.o.mono fun b _ H=>H.1) fw.o
theorem wQ {c d:Value} {k l:Co} {G:Nat→Prop} (hc:CoIn G w c k) (hd:CoIn G w d l) (hG:∀b,w.heap.size≤b→G b) (hR:∀e Z v,e=.returned v→CoIn G Z v (.imp k l)→Same w Z→R e Z):
 Calls Tryz.prog 100 #[c,d] w R:=by
 have HR:=ae hR;have HG:=ae hG;clear hR hG;obtain⟨i,g,rfl,_,_⟩:=hc.shape;have Hx:=ae hc;clear hc;generalize k.op=q at Hx⊢;generalize k.va=p at Hx⊢;generalize k.vb=o at Hx⊢;generalize k.vc=n at Hx⊢;generalize k.vn=m at Hx⊢;generalize k.kids.length=j at Hx⊢;obtain⟨s,r,rfl,_,_⟩:=hd.shape;have Hy:=ae hd;clear hd;generalize l.op=C at Hy⊢;generalize l.va=B at Hy⊢;generalize l.vb=A at Hy⊢;generalize l.vc=z at Hy⊢;generalize l.vn=y at Hy⊢;generalize l.kids.length=t at Hy⊢;have ce:=aw (aw (ag w (Hu q p o n m i j g)) (Hu C B A z y s t r)) Hl;have aH:=aw (ag (w.alloc (Hu q p o n m i j g)) (Hu C B A z y s t r)) Hl;rw[show(w.alloc (Hu q p o n m i j g)).heap.size=w.heap.size+1 by simp]at aH
 have H:=ae ce;have F:=ae aH
 clear ce aH
 go_enter Tryz.func100,Tryz.ntmps100;have hk:Same w (((w.alloc (Hu q p o n m i j g)).alloc (Hu C B A z y s t r)).alloc Hl):=(((af (fun _=>True) w).alloc (Hu q p o n m i j g)).alloc (Hu C B A z y s t r)).alloc Hl;have J:=ag ((w.alloc (Hu q p o n m i j g)).alloc (Hu C B A z y s t r)) Hl;have hz:((w.alloc (Hu q p o n m i j g)).alloc (Hu C B A z y s t r)).heap.size=w.heap.size+1+1:=by simp
 rw[hz]at J;have HK:=ae hk;have HB:=ae J;have bL:(((w.alloc (Hu q p o n m i j g)).alloc (Hu C B A z y s t r)).alloc Hl).heap.size=w.heap.size+1+1+1:=by simp
 have E:=ae bL;have a8:=ae ((Hx.o.low (x:=w.heap.size+1+1) (by omega)).same hk);have aL:=ae ((Hy.o.low (x:=w.heap.size+1+1) (by omega)).same hk);clear hk J hz bL Hx Hy;go_wp2_with fail;generalize((w.alloc (Hu q p o n m i j g)).alloc (Hu C B A z y s t r)).alloc Hl=w1 at H F a8 aL HK HB E⊢;have dZ:=ae HK.o;have I:=ae HB.o;replace E:=ae (Nat.le_of_eq E.o.symm);clear HK HB;refine zq0 5 (.take 0 (.take 1 (.one 2 (.one 3 (.one 4 .last))))) (fun Z=>Z.heap[w.heap.size]?=(Iq q p o n m i j g)∧Z.heap[w.heap.size+1]?=(Iq C B A z y s t r)∧Z.heap[w.heap.size+1+1]?=(Iq GA 0 0 0 0 none 0 0)) (by kernel_rfl) (by kernel_rfl) ⟨(al (af (fun _=>True) w1)).at H.o trivial,(al (af (fun _=>True) w1)).at F.o trivial,(al (af (fun _=>True) w1)).at I.o trivial⟩ ?_;have kd:Same w1 w1.drew:=al (af (fun _=>True) w1);have cH:=ae (Nat.le_trans E.o kd.size)
 iterate 2 (first|(apply aC;rfl;rfl;go_simp)|(apply aB;rfl;rfl;intro Z hS;obtain⟨s0,s1,_⟩:=hS;have q0:=ai s0 0;have q1:=ai s0 1;have q2:=ai s0 2;have q3:=ai s0 3;have q4:=ai s0 4;have q5:=ai s0 5;have p0:=ai s1 0;have p1:=ai s1 1;have p2:=ai s1 2;have p3:=ai s1 3;have p4:=ai s1 4;have p5:=ai s1 5;simp only[List.getElem?_toArray,List.getElem?_cons_zero,List.getElem?_cons_succ]at q0 q1 q2 q3 q4 q5 p0 p1 p2 p3 p4 p5;go_simp;exact rfl;go_simp))
 refine aI (ay rfl rfl fun K f=>?_);go_simp;refine jo (G:=fun b=>G b∧b≠w.heap.size+1+1) (aL.o.same kd) (fun b J=>⟨HG.o b (by have :=cH.o;omega),by have :=cH.o;omega⟩) ?_;rintro e w2 u rfl hu k2;have c2:=kd.tr k2;have cE:=ae (Nat.le_trans E.o c2.size);refine f _ _ _ ⟨c2.at H.o trivial,c2.at F.o trivial,c2.at I.o trivial⟩ (fun _ h=>h) ?_;clear f K;refine aI (ay rfl rfl fun K f=>?_);go_simp;refine pi (G:=fun b=>G b∧b≠w.heap.size+1+1) (a8.o.same c2) hu (fun b J=>⟨HG.o b (by have :=cE.o;omega),by have :=cE.o;omega⟩) ?_;rintro e w3 u3 rfl hu k3;have c3:=c2.tr k3;have ch:=ae (Nat.le_trans E.o c3.size);refine f _ _ _ ⟨c3.at H.o trivial,c3.at F.o trivial,c3.at I.o trivial⟩ (fun _ h=>h) ?_;clear f K;refine aI (ay rfl rfl fun K f=>?_);go_simp;refine jo (G:=fun b=>G b∧b≠w.heap.size+1+1) hu (fun b J=>⟨HG.o b (by have :=ch.o;omega),by have :=ch.o;omega⟩) ?_;rintro e w4 u4 rfl hu k4;have c4:=c3.tr k4;refine f _ _ _ ⟨c4.at H.o trivial,c4.at F.o trivial,c4.at I.o trivial⟩ (fun _ h=>h) ?_;clear f K;have a:=ae (c4.at I.o trivial);have dE:=ae (dZ.o.tr c4);clear k2 k3 k4 c2 c3 c4 kd H F a8 aL;generalize hT:(k.and l.not).not=T at hu;have HT:=ae hT;clear hT;obtain⟨M,L,rfl,_,_⟩:=hu.shape;have Hz:=ae hu;clear hu;generalize T.op=Y at Hz⊢;generalize T.va=X at Hz⊢;generalize T.vb=V at Hz⊢;generalize T.vc=U at Hz⊢;generalize T.vn=O at Hz⊢;generalize T.kids.length=N at Hz⊢;obtain⟨d0,d1,d2,d3,d4,d5⟩:=xc6 a.o rfl rfl rfl rfl rfl rfl;obtain⟨g0,g1,g2,g3,g4,g5⟩:=xf6 a.o;have D:=bE a.o (.string Y) (IP X) (IP V) (IP U) (IP O) (.slice M N L);obtain⟨e0,e1,e2,e3,e4,e5⟩:=xc6 D rfl rfl rfl rfl rfl rfl;have k6:=aU w4 (w.heap.size+1+1) (.string Y) (IP X) (IP V) (IP U) (IP O) (.slice M N L);have HU:=ae (Hz.o.kept k6 fun b J=>J.2);have dp:=ae (dE.o.box6 (x:=w.heap.size+1+1) (by omega) (.string Y) (IP X) (IP V) (IP U) (IP O) (.slice M N L));clear D k6;refine aO rfl rfl fun K f=>?_;go_simp;refine f _ _ (aG ?_);clear f K;go_wp2_with fail;refine bodyPost_ret (v:=(Ib Y X V U O M N L)) (by simp[results,Tryz.results100,go_sem,e0,e1,e2,e3,e4,e5]) rfl ?_;exact HR.o _ _ _ rfl (by rw[show Co.imp k l=T from HT.o];exact HU.o.mono fun b _ J=>J.1) dp.o
def Co.pair (op:ByteArray) (a b:Int):Co:=if op=GQ then .and (.sub a b) (.sub b a)else if op=GK then .less a b else if op=GR then .not (.less b a)else .sub a b
theorem ET {op:ByteArray} {a b:Int} {G:Nat→Prop} (ho:op=GN∨op=GK∨op=GE∨op=GQ∨op=GR) (hG:∀b,w.heap.size≤b→G b) (hR:∀e w' v,e=.returned v→CoIn G w' v (.pair op a b)→Same w w'→R e w'):
 Calls Tryz.prog 152 #[.string op,IP a,IP b] w R:=by
 have HR:=ae hR;have HG:=ae hG;clear hR hG;have hk:Same w (w.alloc Hl):=(af (fun _=>True) w).alloc Hl;have B:=ag w Hl;have r:=ae hk;have s:=ae B;have ce:(w.alloc Hl).heap.size=w.heap.size+1:=by simp
 have q:=ae (Nat.le_of_eq ce.symm);clear hk B ce;rcases ho with rfl|rfl|rfl|rfl|rfl
 ·
  go_enter Tryz.func152,Tryz.ntmps152;go_wp2_with fail;generalize w.alloc _=w1 at s r q⊢;refine rY ?_;rintro e w2 u2 rfl X A;replace o:=X (fun b=>G b∧b≠w.heap.size);clear X;have y:=A.at s.o trivial;have u:=r.o.tr A;have t:=Nat.le_trans q.o A.size;clear A s r q;have c:=ae y;have C:=ae u;have D:=ae t;clear y u t;generalize I:Co.sub a b=T at o;have HT:=ae I;clear I;obtain⟨g,f,rfl,_,_⟩:=o.shape;have n:=ae o;clear o;generalize T.op=m at n⊢;generalize T.va=l at n⊢;generalize T.vb=k at n⊢;generalize T.vc=j at n⊢;generalize T.vn=i at n⊢;generalize T.kids.length=h at n⊢;obtain⟨d0,d1,d2,d3,d4,d5⟩:=xc6 c.o rfl rfl rfl rfl rfl rfl;obtain⟨g0,g1,g2,g3,g4,g5⟩:=xf6 c.o;have d:=bE c.o (.string m) (IP l) (IP k) (IP j) (IP i) (.slice g h f);obtain⟨U,O,N,M,L,J⟩:=xc6 d rfl rfl rfl rfl rfl rfl;have H:=aU w2 (w.heap.size) (.string m) (IP l) (IP k) (IP j) (IP i) (.slice g h f);have HU:=ae (n.o.kept H fun b B=>B.2);have E:=ae (C.o.box6 (x:=w.heap.size) (by omega) (.string m) (IP l) (IP k) (IP j) (IP i) (.slice g h f));clear d H;go_wp2_with fail;refine bodyPost_ret (v:=(Ib m l k j i g h f)) (by simp[results,Tryz.results152,go_sem,U,O,N,M,L,J]) rfl ?_;exact HR.o _ _ _ rfl (by rw[show Co.pair GN a b=T from HT.o];exact HU.o.mono fun b _ B=>B.1) E.o
 ·
  go_enter Tryz.func152,Tryz.ntmps152;go_wp2_with fail;generalize w.alloc _=w1 at s r q⊢;refine yD ?_;rintro e w2 u2 rfl X A;replace o:=X (fun b=>G b∧b≠w.heap.size);clear X;have y:=A.at s.o trivial;have u:=r.o.tr A;have t:=Nat.le_trans q.o A.size;clear A s r q;have c:=ae y;have C:=ae u;have D:=ae t;clear y u t;generalize I:Co.less a b=T at o;have HT:=ae I;clear I;obtain⟨g,f,rfl,_,_⟩:=o.shape;have n:=ae o;clear o;generalize T.op=m at n⊢;generalize T.va=l at n⊢;generalize T.vb=k at n⊢;generalize T.vc=j at n⊢;generalize T.vn=i at n⊢;generalize T.kids.length=h at n⊢;obtain⟨d0,d1,d2,d3,d4,d5⟩:=xc6 c.o rfl rfl rfl rfl rfl rfl;obtain⟨g0,g1,g2,g3,g4,g5⟩:=xf6 c.o;have d:=bE c.o (.string m) (IP l) (IP k) (IP j) (IP i) (.slice g h f);obtain⟨U,O,N,M,L,J⟩:=xc6 d rfl rfl rfl rfl rfl rfl;have H:=aU w2 (w.heap.size) (.string m) (IP l) (IP k) (IP j) (IP i) (.slice g h f);have HU:=ae (n.o.kept H fun b B=>B.2);have E:=ae (C.o.box6 (x:=w.heap.size) (by omega) (.string m) (IP l) (IP k) (IP j) (IP i) (.slice g h f));clear d H;go_wp2_with fail;refine bodyPost_ret (v:=(Ib m l k j i g h f)) (by simp[results,Tryz.results152,go_sem,U,O,N,M,L,J]) rfl ?_;exact HR.o _ _ _ rfl (by rw[show Co.pair GK a b=T from HT.o];exact HU.o.mono fun b _ B=>B.1) E.o
 ·
  go_enter Tryz.func152,Tryz.ntmps152;go_wp2_with fail;generalize w.alloc _=w1 at s r q⊢;refine rY ?_;rintro e w2 u2 rfl X A;replace o:=X (fun b=>G b∧b≠w.heap.size);clear X;have y:=A.at s.o trivial;have u:=r.o.tr A;have t:=Nat.le_trans q.o A.size;clear A s r q;have c:=ae y;have C:=ae u;have D:=ae t;clear y u t;generalize I:Co.sub a b=T at o;have HT:=ae I;clear I;obtain⟨g,f,rfl,_,_⟩:=o.shape;have n:=ae o;clear o;generalize T.op=m at n⊢;generalize T.va=l at n⊢;generalize T.vb=k at n⊢;generalize T.vc=j at n⊢;generalize T.vn=i at n⊢;generalize T.kids.length=h at n⊢;obtain⟨d0,d1,d2,d3,d4,d5⟩:=xc6 c.o rfl rfl rfl rfl rfl rfl;obtain⟨g0,g1,g2,g3,g4,g5⟩:=xf6 c.o;have d:=bE c.o (.string m) (IP l) (IP k) (IP j) (IP i) (.slice g h f);obtain⟨U,O,N,M,L,J⟩:=xc6 d rfl rfl rfl rfl rfl rfl;have H:=aU w2 (w.heap.size) (.string m) (IP l) (IP k) (IP j) (IP i) (.slice g h f);have HU:=ae (n.o.kept H fun b B=>B.2);have E:=ae (C.o.box6 (x:=w.heap.size) (by omega) (.string m) (IP l) (IP k) (IP j) (IP i) (.slice g h f));clear d H;go_wp2_with fail;refine bodyPost_ret (v:=(Ib m l k j i g h f)) (by simp[results,Tryz.results152,go_sem,U,O,N,M,L,J]) rfl ?_;exact HR.o _ _ _ rfl (by rw[show Co.pair GE a b=T from HT.o];exact HU.o.mono fun b _ B=>B.1) E.o
 ·
  go_enter Tryz.func152,Tryz.ntmps152;go_wp2_with fail;generalize w.alloc _=w1 at s r q⊢;refine rY ?_;rintro e w2 u2 rfl o A;have HA:=ae (o (fun b=>G b∧b≠w.heap.size));clear o;have y:=A.at s.o trivial;have u:=r.o.tr A;have t:=Nat.le_trans q.o A.size;clear A s r q;have c:=ae y;have C:=ae u;have D:=ae t;clear y u t;go_wp2_with fail;refine rY ?_;rintro e w3 u3 rfl F k3;have HC:=ae (F (fun b=>G b∧b≠w.heap.size));clear F;have Z:=k3.at c.o trivial;have Y:=C.o.tr k3;have V:=Nat.le_trans D.o k3.size;have ch:=HA.o.same k3;clear k3 c C D HA;have p:=ae Z;have a8:=ae Y;have aH:=ae V;have HA:=ae ch;clear Z Y V ch;go_wp2_with fail;refine pi (G:=fun b=>G b∧b≠w.heap.size) HA.o HC.o (fun b B=>⟨HG.o b (by have :=aH.o;omega),by have :=aH.o;omega⟩) ?_;rintro e w4 u4 rfl aL k4;have cH:=k4.at p.o trivial;have cE:=a8.o.tr k4;have bL:=Nat.le_trans aH.o k4.size;clear k4 p a8 aH;have z:=ae cH;have dp:=ae cE;have dE:=ae bL;clear cH cE bL;generalize I:Co.and (Co.sub a b) (Co.sub b a)=T at aL;have HT:=ae I;clear I HA HC;obtain⟨g,f,rfl,_,_⟩:=aL.shape;have n:=ae aL;clear aL;generalize T.op=m at n⊢;generalize T.va=l at n⊢;generalize T.vb=k at n⊢;generalize T.vc=j at n⊢;generalize T.vn=i at n⊢;generalize T.kids.length=h at n⊢;obtain⟨d0,d1,d2,d3,d4,d5⟩:=xc6 z.o rfl rfl rfl rfl rfl rfl;obtain⟨g0,g1,g2,g3,g4,g5⟩:=xf6 z.o;have d:=bE z.o (.string m) (IP l) (IP k) (IP j) (IP i) (.slice g h f);obtain⟨U,O,N,M,L,J⟩:=xc6 d rfl rfl rfl rfl rfl rfl;have H:=aU w4 (w.heap.size) (.string m) (IP l) (IP k) (IP j) (IP i) (.slice g h f);have HU:=ae (n.o.kept H fun b B=>B.2);have E:=ae (dp.o.box6 (x:=w.heap.size) (by omega) (.string m) (IP l) (IP k) (IP j) (IP i) (.slice g h f));clear d H;go_wp2_with fail;refine bodyPost_ret (v:=(Ib m l k j i g h f)) (by simp[results,Tryz.results152,go_sem,U,O,N,M,L,J]) rfl ?_;exact HR.o _ _ _ rfl (by rw[show Co.pair GQ a b=T from HT.o];exact HU.o.mono fun b _ B=>B.1) E.o
 ·
  go_enter Tryz.func152,Tryz.ntmps152;go_wp2_with fail;generalize w.alloc _=w1 at s r q⊢;refine yD ?_;rintro e w2 u2 rfl X A;have HA:=ae (X (fun b=>G b∧b≠w.heap.size));clear X;have y:=A.at s.o trivial;have u:=r.o.tr A;have t:=Nat.le_trans q.o A.size;clear A s r q;have c:=ae y;have C:=ae u;have D:=ae t;clear y u t;go_wp2_with fail;refine jo (G:=fun b=>G b∧b≠w.heap.size) HA.o (fun b B=>⟨HG.o b (by have :=D.o;omega),by have :=D.o;omega⟩) ?_;rintro e w3 u3 rfl F k3;have Z:=k3.at c.o trivial;have Y:=C.o.tr k3;have V:=Nat.le_trans D.o k3.size;clear k3 c C D;have p:=ae Z;have a8:=ae Y;have aH:=ae V;clear Z Y V;generalize I:Co.not (Co.less b a)=T at F;have HT:=ae I;clear I HA;obtain⟨g,f,rfl,_,_⟩:=F.shape;have n:=ae F;clear F;generalize T.op=m at n⊢;generalize T.va=l at n⊢;generalize T.vb=k at n⊢;generalize T.vc=j at n⊢;generalize T.vn=i at n⊢;generalize T.kids.length=h at n⊢;obtain⟨d0,d1,d2,d3,d4,d5⟩:=xc6 p.o rfl rfl rfl rfl rfl rfl;obtain⟨g0,g1,g2,g3,g4,g5⟩:=xf6 p.o;have d:=bE p.o (.string m) (IP l) (IP k) (IP j) (IP i) (.slice g h f);obtain⟨U,O,N,M,L,J⟩:=xc6 d rfl rfl rfl rfl rfl rfl;have H:=aU w3 (w.heap.size) (.string m) (IP l) (IP k) (IP j) (IP i) (.slice g h f);have HU:=ae (n.o.kept H fun b B=>B.2);have E:=ae (a8.o.box6 (x:=w.heap.size) (by omega) (.string m) (IP l) (IP k) (IP j) (IP i) (.slice g h f));clear d H;go_wp2_with fail;refine bodyPost_ret (v:=(Ib m l k j i g h f)) (by simp[results,Tryz.results152,go_sem,U,O,N,M,L,J]) rfl ?_;exact HR.o _ _ _ rfl (by rw[show Co.pair GR a b=T from HT.o];exact HU.o.mono fun b _ B=>B.1) E.o
end
section
open Go.RowKit Go.Shelf
attribute [local go_sem] Oper.semAt_some
variable {R:Ending→World→Prop} {w:World}
def nm0:ByteArray:=GA
def E8 (x:Nat×ByteArray):Array Value:=#[IP x.1,.string x.2]
theorem Gp (n:Nat) (M:1≤n) (l q b off cap:Nat) (D:List ByteArray) (O:D.length≤100000) (C:D.length≤cap) (J F:List (Nat×ByteArray)→World→Prop)
 (I:∀a x W,J a W→a.length<D.length→YieldAt Fence.wide (n -1) Tryz.prog l (E8 x) W fun e o=>
  (e=.returned (.bool true)∧J (a++[x]) o∧Two q b W o)∨(e=.returned (.bool false)∧F (a++[x]) o))
 (W:World) (t:W.cell? ⟨q,0,none⟩=some (.slice (IQ b off) D.length cap))
 (H:∀j (N:j<D.length),W.cell? ⟨b,off+j,none⟩=some (.string D[j])) (h0:J [] W):
 CallsIn Fence.wide n Tryz.prog 193 #[.func (.yield l) #[] #[],.pointer (IQ q 0)] W fun e o=>(∃v,e=.returned v)∧
  ((∃y,y=bwL nm0 D D.length∧J y o)∨(∃a,(∃k,k≤D.length∧a=bwL nm0 D k)∧F a o)):=by
 refine callsIn_of_wp Tryz.func193 rfl trivial ?_ rfl;simp only[Tryz.ntmps193,List.size_toArray,List.length_cons,List.length_nil,Nat.reduceAdd,Nat.reduceSub,Array.replicate_succ,Array.replicate_zero,List.push_toArray,List.append_toArray,List.nil_append,List.cons_append]
 gi_wp2
 gi_loopw [3] (fun i wr=>Two q b W wr∧((∃m:Nat,m<D.length∧i=.int .i64 (m:Int)∧J (bwL nm0 D (D.length -1 -m)) wr)∨(i=.int .i64 (-1)∧J (bwL nm0 D D.length) wr)))
  (fun i _=>(intOf i+1).toNat)
 case atStart=>
  refine⟨Two.refl _ _ _,?_⟩;by_cases A:D.length=0
  ·exact .inr ⟨by rw[A];rfl,by rw[A];exact h0⟩
  ·exact .inl ⟨D.length -1,by omega,by congr 1;omega,by rw[Nat.sub_self];exact h0⟩
 case round=>
  obtain⟨f,⟨m,B,rfl,g⟩|⟨rfl,g⟩⟩:=hrel
  ·have u:=H m B;replace u:=(f.c2 _).trans u;have E:=(f.c1 _).trans t;have c:=pO nm0 D B;generalize D[m]=d at u c;obtain⟨T,z,assign,body,G,L⟩:=I _ (m,d) wr g (by rw[lp];omega);simp only[E8]at G
   gi_wp2
   refine L.mono ?_;rintro e U (⟨rfl,h,s⟩|⟨rfl,p⟩)
   ·rw[←c]at h
    gi_wp2
    go_roundw
    case rel=>
     refine⟨f.trans s,?_⟩;by_cases r:m=0
     ·subst r;exact .inr ⟨rfl,by rwa [Nat.sub_zero]at h⟩
     ·refine .inl ⟨m -1,by omega,by congr 1;omega,?_⟩;have :D.length -1 -(m -1)=D.length -m:=by omega
      rw[this];exact h
    case measure=>simp[intOf]
   ·gi_wp2
    refine bodyPost_ret (results_none rfl _ _ _) rfl ?_;exact⟨⟨_,rfl⟩,.inr ⟨_,⟨D.length -m,by omega,c.symm⟩,p⟩⟩
  ·gi_wp2
   go_end0;exact⟨⟨_,rfl⟩,.inl ⟨_,rfl,g⟩⟩
theorem xJ (n:Nat) (i:1≤n) (a b off cap:Nat) (D:List ByteArray) (r:D.length≤100000) (c:D.length≤cap) (w:World) (e:a<w.heap.size) (o:b<w.heap.size)
 (s:w.cell? ⟨a,0,none⟩=some (.slice (IQ b off) D.length cap))
 (m:∀j (f:j<D.length),w.cell? ⟨b,off+j,none⟩=some (.string D[j])):
 SeqStopsK Fence.wide n Tryz.prog 193 #[.pointer (IQ a 0)] E8 (Two a b) (fun h=>h=bwL nm0 D D.length) (fun d=>∃k,k≤D.length∧d=bwL nm0 D k) D.length w:=fun l J t W q _ _ p h0=>by
 have g:Two a b w W:=Two.of (dq q) e o trivial trivial;exact Gp n i l a b off cap D r c J t p W ((g.c1 _).trans s) (fun j f=>by
  exact(g.c2 _).trans (m j f)) h0
theorem Gx {a:Option Addr} {b cap:Nat} {w:World}:Calls Tryz.prog 150 #[.slice a b cap] w fun e c=>e=.returned (.func (.func 193) #[] #[.pointer (IQ w.heap.size 0)])∧c=w.alloc (.cells #[.slice a b cap] 22):=by
 go_enter Tryz.func150,Tryz.ntmps150;go_wp2_with fail
 go_ret
 exact⟨rfl,rfl⟩
def du (D:List ByteArray) (x:ByteArray):Int:=match (bwL nm0 D D.length).find? (fun p=>decide (p.2=x))with |some p=>(p.1:Int)|none=>-1
theorem B3 {D:List ByteArray} {x:ByteArray} (h:∀p∈bwL nm0 D D.length,p.2≠x):du D x=-1:=by
 unfold du;have :(bwL nm0 D D.length).find? (fun p=>decide (p.2=x))=none:=by
  rw[List.find?_eq_none];intro p a
  simpa using h p a
 rw[this]
theorem DP {α:Type} (z:α) (D:List α) {k:Nat} (a:k≤D.length):bwL z D k=(bwL z D D.length).take k:=by
 unfold bwL;rw[←List.map_take,List.take_range,Nat.min_eq_left a]
theorem B0 {D:List ByteArray} {x:ByteArray} {k:Nat} {a:List (Nat×ByteArray)} {last:Nat×ByteArray} (c:k≤D.length) (e:bwL nm0 D k=a++[last]) (f:∀p∈a,p.2≠x) (b:last.2=x):du D x=(last.1:Int):=by
 unfold du;have :(bwL nm0 D D.length).find? (fun p=>decide (p.2=x))=some last:=by
  rw[←List.take_append_drop k (bwL nm0 D D.length),←DP nm0 D c,e,List.find?_append,List.find?_append];have h1:a.find? (fun p=>decide (p.2=x))=none:=by
   rw[List.find?_eq_none];intro d g
   simpa using f d g
  rw[h1];simp[b]
 rw[this]
theorem qY {b off cap X:Nat} {D:List ByteArray} {x:ByteArray} {lg:Bool} (hD:D.length≤100000) (J:D.length≤cap) (hX:w.heap[X]?=some (.cells #[.slice (IQ b off) D.length cap,lg] 133)) (hb:b<w.heap.size)
 (hc:∀j (hj:j<D.length),w.cell? ⟨b,off+j,none⟩=some (.string D[j]))
 (hR:∀e V,e=.returned (IP (du D x))→Same w V→R e V):
 Calls Tryz.prog 102 #[.pointer (IQ X 0),.string x] w R:=by
 refine(callsIn_wide (n:=4)).1 ?_;have U:=xc1 hX 0 rfl;replace U:=ak (((af (fun _=>True) w).alloc (Iu x)).alloc Hn) U trivial;have HR:=ae hR;clear hR;refine callsIn_of_wp_marks Tryz.func102 rfl trivial ?_ rfl;simp only[Tryz.ntmps102,List.size_toArray,List.length_cons,List.length_nil,Nat.reduceAdd,Nat.reduceSub,Array.replicate_succ,Array.replicate_zero,List.push_toArray,List.append_toArray,List.nil_append,List.cons_append]
 gi_wp2_with (refine⟨trivial,?_⟩;gi_at_call 150;refine(callsIn_wide.2 Gx).mono ?_;rintro e V ⟨rfl,rfl⟩)
 have b0:=aw (aw (ag w (Iu x)) Hn) (.cells #[.slice (IQ b off) D.length cap] 22);have b1:=aw (ag (w.alloc (Iu x)) Hn) (.cells #[.slice (IQ b off) D.length cap] 22);have O:=ag ((w.alloc (Iu x)).alloc Hn) (.cells #[.slice (IQ b off) D.length cap] 22);have v:Same w (((w.alloc (Iu x)).alloc Hn).alloc (.cells #[.slice (IQ b off) D.length cap] 22)):=(((af _ w).alloc _).alloc _).alloc _;have aH:(((w.alloc (Iu x)).alloc Hn).alloc (.cells #[.slice (IQ b off) D.length cap] 22)).heap.size=w.heap.size+3:=by simp
 simp only[World.size_alloc]at b1 O;obtain⟨T,L⟩:∃T,((w.alloc (Iu x)).alloc Hn).alloc (.cells #[.slice (IQ b off) D.length cap] 22)=T:=⟨_,rfl⟩;rw[L]at b0 b1 O v aH⊢;clear L;have ce:Below w.heap.size w T:=⟨v.os,v.tape,v.output,v.size,fun k h=>v.block k h trivial⟩;refine wpIn_rangeFunc_ownH rfl (by omega) (gf:=193) (lb:=#[.pointer (some ⟨w.heap.size+1+1,0,none⟩)]) rfl trivial (enters_of Tryz.func193 (by kernel_rfl) rfl)
  (xJ 3 (by omega) (w.heap.size+1+1) b off cap D hD J T (by omega) (by omega) (by rw[ai O];rfl) (fun j hj=>by
   exact v.cell (hc j hj) trivial)) Two.trans (fun W l o o' hl _ _ _=>⟨by rw[World.putObj_heap_other (by omega)],by rw[World.putObj_heap_other (by omega)]⟩) (Below.refl _ _) (fun _=>rfl)
  (fun d W=>((∀p∈d,p.2≠x)∧W.heap[w.heap.size]?=some (.cells #[x] 9)∧W.heap[w.heap.size+1]?=(ID 0)∧W.heap[w.heap.size+1+1]?=some (.cells #[.slice (IQ b off) D.length cap] 22))∧Below w.heap.size w W)
  (fun c d W=>(c=.ret∧∃f last,d=f++[last]∧(∀p∈f,p.2≠x)∧last.2=x∧W.heap[w.heap.size+1]?=(ID last.1))∧Below w.heap.size w W)
  (OwnFrom.and (fun s A B row hs G z=>⟨hs.1,gN hs.2.1 G z (by omega),gN hs.2.2.1 G z (by omega),gN hs.2.2.2 G z (by omega)⟩) (ownFrom_below (Nat.le_refl _) (by omega)))
  (fun c=>OwnFrom.and (fun s A B row hs G z=>by obtain⟨hc,f,last,e1,e2,e3,e4⟩:=hs;exact⟨hc,f,last,e1,e2,e3,gN e4 G z (by omega)⟩) (ownFrom_below (Nat.le_refl _) (by omega)))
  ⟨⟨by simp,b0,b1,O⟩,ce⟩
  (fun p a' W=>a'={tmps:=#[.pointer (IQ X 0),.string x,undef,.pointer (IQ w.heap.size 0),.pointer (some ⟨w.heap.size+1,0,none⟩),IP p.1,.string p.2,.pointer (IQ X 0),.pointer (IQ X 0),.pointer (IQ X 0),.slice (IQ b off) D.length cap,.func (.func 193) #[] #[.pointer (some ⟨w.heap.size+1+1,0,none⟩)],IP p.1,.string p.2,undef,undef,undef,undef],defers:=[]})
  (fun p a' _ X Y row hs G z=>hs)
  ?assign ?body ?done ?stop
 case assign=>
  rintro l d ⟨m,nm⟩ W K ⟨⟨M,i,a,q⟩,u⟩ F;have cE:w.heap.size+1+1<W.heap.size:=am q;have ch:=u.size;simp only[E8]
  gi_wp2
  exact F _ _ (KeepsFrom.refl _ _) (Two.refl _ _ _) ⟨⟨M,i,a,q⟩,u⟩ rfl
 case body=>
  rintro l d ⟨m,nm⟩ a' W hl ⟨r,z⟩ ⟨⟨M,i,a,q⟩,u⟩ rfl cH;dsimp only;have n0:=xc1 i 0 rfl;have Z:=xc1 a 0 rfl;have f0:=ao a 0;by_cases hn:nm=x
  ·subst hn
   gi_wp2
   have kr:Keeps (·≠w.heap.size+1) W (W.setCell ⟨w.heap.size+1,0,none⟩ (IP (m:Int))):=(af _ W).but 0 _;exact⟨(KeepsOthers.setCell _ _ _).from _,⟨rfl,d,_,rfl,M,rfl,by rw[aj a];simp⟩,u.trans (jJ kr u.size fun y hy=>by omega)⟩
  ·have I:(nm.toList==x.toList)=false:=by rw[eP];exact decide_eq_false hn
   gi_wp2
   exact⟨KeepsFrom.refl _ _,Two.refl _ _ _,⟨fun p aL=>(List.mem_append.1 aL).elim (M p) (fun e=>by simp at e;subst e;exact hn),i,a,q⟩,u⟩
 case done=>
  rintro H ys W bL rfl ⟨⟨I,i,a,q⟩,u⟩ F;have Z:=xc1 a 0 rfl;have f0:=ao a 0
  gi_wp2
  have E:=(KeepsOthers.setCell W ⟨w.heap.size+1,0,none⟩ (IP (-1))).same H _ F rfl;refine⟨by simp,.inl ⟨_,_,rfl,run_takeDeferred E,?_⟩⟩;have a8:(W.setCell ⟨w.heap.size+1,0,none⟩ (IP (-1))).heap[w.heap.size+1]?=(ID (-1)):=by rw[aj a];simp
  have C:=eX a8 (grownBy_putObj' _ H (.deferred none)) (N:=0) (fun r e=>by cases e;exact⟨Nat.zero_le _,_,E,rfl⟩);have g:=xc1 C 0 rfl;have kr:Keeps (·≠w.heap.size+1) W (W.setCell ⟨w.heap.size+1,0,none⟩ (IP (-1))):=(af _ W).but 0 _;have t:=(u.trans (jJ kr u.size fun y hy=>by omega)).trans (belowK_b (w:=w) (Nat.le_refl _) _ H _ (.deferred none) (by omega) E rfl rfl);refine⟨.int .i64 (-1),?_,HR.o _ _ (by rw[B3 I]) (dq t)⟩;simp[results,Tryz.f102,go_sem,g]
 case stop=>
  rintro H c d W bL ⟨k,v,rfl⟩ ⟨⟨rfl,f,last,e1,e2,e3,a⟩,u⟩ F
  gi_wp2
  refine⟨by simp,.inl ⟨_,_,rfl,run_takeDeferred F,?_⟩⟩;have C:=eX a (grownBy_putObj' _ H (.deferred none)) (N:=0) (fun r e=>by cases e;exact⟨Nat.zero_le _,_,F,rfl⟩);have g:=xc1 C 0 rfl;have t:=u.trans (belowK_b (w:=w) (Nat.le_refl _) W H _ (.deferred none) (by omega) F rfl rfl);refine⟨.int .i64 (last.1:Int),?_,HR.o _ _ (by rw[B0 v e1 e2 e3]) (dq t)⟩;simp[results,Tryz.f102,go_sem,g]
end
section
attribute [local irreducible] wpQuiet ax au aQ
variable {R:Ending→World→Prop} {w:World}
theorem tD:(Tryz.prog.info? 9).map (fun i=>(i.zero,i.size,i.bytes))=some (some (.string GA),1,16):=by kernel_rfl
structure To (D D':Nat→Prop) (w w':World):Prop where
 keep:Keeps (fun b=>¬D b) w w'
 new:∀b,D' b→D b∨w.heap.size≤b
theorem To.of_same {D:Nat→Prop} {a:World} (k:Same w a):To D D w a:=⟨k.mono fun _ _ _=>trivial,fun _ h=>.inl h⟩
theorem To.trans {D g d:Nat→Prop} {a b c:World} (h:To D g a b) (k:To g d b c):To D d a c:=
 ⟨h.keep.trans k.keep fun x hx f=>⟨f,fun i=>(h.new x i).elim f fun e=>by omega⟩,
  fun x hx=>(k.new x hx).elim (h.new x) fun e=>.inr (Nat.le_trans h.keep.size e)⟩
theorem To.tr_same {D d:Nat→Prop} {a b c:World} (h:To D d a b) (k:Same b c):To D d a c:=h.trans (To.of_same k)
theorem To.same_tr {D d:Nat→Prop} {a b c:World} (h:Same a b) (k:To D d b c):To D d a c:=(To.of_same h).trans k
def cN:=@To.same_tr
theorem To.set {D c:Nat→Prop} {a:World} (h:To D c w a) {b:Nat} (d:w.heap.size≤b) (i:Nat) (x:Value):To D c w (a.setCell ⟨b,i,none⟩ x):=⟨h.keep.new d i x,h.new⟩
theorem CoIn.to {B:Nat} {D c:Nat→Prop} {d:World} {v:Value} {t:Co} (h:CoIn (fun b=>B≤b∧¬D b) w v t) (k:To D c w d):CoIn (fun b=>B≤b∧¬c b) d v t:=
 CoIn.kept (k.keep.mono fun b f (g:(B≤b∧¬c b)∧¬D b)=>g.2) (fun _ h=>h) (em (fun b f a=>⟨⟨a.1,fun e=>(k.new b e).elim a.2 fun i=>by omega⟩,a.2⟩) h)|>.mono fun _ _ a=>a.1
theorem FmIn.to {D c:Nat→Prop} {d:World} {v:Value} {t:Fm} (h:FmIn (fun b=>¬D b) w v t) (k:To D c w d):FmIn (fun b=>¬c b) d v t:=
 FmIn.kept (k.keep.mono fun b f (g:¬c b∧¬D b)=>g.2) (fun _ h=>h) (bH (fun b f a=>⟨fun e=>(k.new b e).elim a fun i=>by omega,a⟩) h)|>.mono fun _ _ a=>a.1
structure LowAt (B:Nat) (w:World) (X:Nat) (u:Value) (N:List ByteArray):Prop where
 blk:w.heap[X]?=some (.cells #[u,false] 133)
 own:w.ownsRow B 9 1 u N.length (N.map Value.string)
def Dx (X:Nat) (u:Value):Nat→Prop:=fun b=>b=X∨u.ownBlock=some b
theorem LowAt.lt {B X:Nat} {u:Value} {N:List ByteArray} (h:LowAt B w X u N) {b:Nat} (a:Dx X u b):b<w.heap.size:=by
 rcases a with rfl|a
 ·exact am h.blk
 ·obtain⟨_,d,c⟩:=ah h.own a;exact am c
theorem LowAt.keep {B X:Nat} {u:Value} {N:List ByteArray} {S:Nat→Prop} {a:World} (h:LowAt B w X u N) (k:Keeps S w a) (hs:∀b,Dx X u b→S b):LowAt B a X u N:=
 ⟨k.at h.blk (hs _ (.inl rfl)),ar h.own k fun b c=>hs b (.inr c)⟩
theorem LowAt.same {B X:Nat} {u:Value} {N:List ByteArray} {a:World} (h:LowAt B w X u N) (k:Same w a):LowAt B a X u N:=h.keep k fun _ _=>trivial
theorem LowAt.fresh {B X C:Nat} {u:Value} {N:List ByteArray} (h:LowAt B w X u N) (d:C≤w.heap.size):∀b,w.heap.size≤b→C≤b∧¬Dx X u b:=fun b c=>⟨by omega,fun a=>by have :=h.lt a;omega⟩
theorem qX {B X:Nat} {u:Value} {N:List ByteArray} {x:ByteArray} (h:LowAt B w X u N) (m:B≤w.heap.size) (Y:N.length<6)
 (y:∀e f p,e=.returned (IP (N.length:Int))→LowAt B f X p (N++[x])→To (Dx X u) (Dx X p) w f→R e f):
 Calls Tryz.prog 145 #[.pointer (IQ X 0),.string x] w R:=by
 have T:=ae y;clear y;have Z:=ae m;obtain⟨g,cap,f,q,d,i,s,l⟩:=bi (P:=Tryz.prog) w 22 22 9 Tryz.underlying22 tD rfl h.own m (.string x) rfl (by omega) (by decide);obtain⟨s0,z,rfl⟩:=av h.own;obtain⟨F,E⟩:=xc2 h.blk rfl rfl;obtain⟨M,L⟩:=xf2 h.blk;have j:∀b,(Value.slice s0 N.length z).ownBlock=some b→b≠X:=fun b c e=>by
  obtain⟨_,O,t⟩:=ah h.own c;rw[e,h.blk]at t;simp at t
 have a:=i.at h.blk (fun c=>j X c rfl);obtain⟨D,C⟩:=xc2 a rfl rfl;obtain⟨J,I⟩:=xf2 a;have H:=am h.blk;have o:=ae a;have U:=ae d;have V:=ae i;have A:=ae s;have n:=ae j;have r:decide ((6:Int)<(N.length:Int)+1)=false:=by simp;omega
 clear d i s l a h m j;go_enter Tryz.func145,Tryz.ntmps145
 go_wp2_with (at_builtin;refine ap rfl _ _ _ rfl rfl rfl q ?_;clear q)
 have k:Keeps (·≠X) f ((f.setCell ⟨X,0,none⟩ (.slice (IQ g 0) (N.length+1) cap)).setCell ⟨X,1,none⟩ (.bool false)):=((af (·≠X) f).but _ _).but _ _;have G:g≠X:=by
  rcases A.o with e|e
  ·exact n.o g e
  ·omega
 refine T.o _ _ (.slice (IQ g 0) (N.length+1) cap) rfl ⟨?_,?_⟩ ⟨?_,?_⟩
 ·rw[aj (aj o.o _ _)];simp
 ·have :=ar U.o k (fun b c=>by simp[Value.ownBlock]at c;omega)
  simpa using this
 ·exact(V.o.mono (S':=fun b=>¬Dx X (.slice s0 N.length z) b) fun b _ c e=>c (.inr e)).trans k fun b c v=>⟨v,fun e=>v (.inl e)⟩
 ·rintro b (rfl|c)
  ·exact .inl (.inl rfl)
  ·simp[Value.ownBlock]at c;subst c;exact A.o.elim (fun e=>.inl (.inr e)) .inr
theorem jl {e:TypeId} {B n n' c:Nat} {s:Option Addr} {a:List Value} (h:w.ownsRow B e 1 (.slice s n' c) n a):n≤c:=by
 rcases h.2 with⟨e,h0⟩|⟨g,cap,b,e,_,_,h2,_⟩
 ·omega
 ·simp at e;omega
theorem lR {e:TypeId} {B m n c:Nat} {s:Option Addr} {d:List Value} (h:w.ownsRow B e 1 (.slice s n c) n d) (k:m≤n):w.ownsRow B e 1 (.slice s m c) m (d.take m):=by
 have l:=h.1;refine⟨by rw[List.length_take];omega,?_⟩;rcases h.2 with⟨a,h0⟩|⟨g,cap,b,a,h1,h2,o,j,i,f⟩
 ·left;simp at a⊢;exact⟨⟨a.1,by omega,a.2.2⟩,by omega⟩
 ·right;simp at a;obtain⟨rfl,rfl⟩:=a;refine⟨g,c,b,rfl,h1,h2,by omega,j,i,?_⟩;rw[←f,List.take_take]
  congr 1;omega
theorem yC {B X n:Nat} {u:Value} {N:List ByteArray} (h:LowAt B w X u N) (j:n≤N.length)
 (p:∀e i l v,e=.returned v→LowAt B i X l (N.take n)→To (Dx X u) (Dx X l) w i→R e i):
 Calls Tryz.prog 148 (Ia (IL X) n) w R:=by
 have x:=ae p;clear p;have g:=ae h;obtain⟨s0,a,rfl⟩:=av h.own;have q:=xc1 h.blk 0 rfl;have s:=ao h.blk 0;have m:n≤a:=Nat.le_trans j (jl h.own);clear h;go_enter Tryz.func148,Tryz.ntmps148;go_wp2_with fail;go_end0;have d:Keeps (·≠X) w (w.setCell ⟨X,0,none⟩ (.slice s0 n a)):=(af (·≠X) w).but _ _;have k:∀b,(Value.slice s0 N.length a).ownBlock=some b→b≠X:=fun b f e=>by
  obtain⟨_,t,o⟩:=ah g.o.own f;rw[e,g.o.blk]at o;simp at o
 have c:(Value.slice s0 n a).ownBlock=(Value.slice s0 N.length a).ownBlock:=by cases s0<;>rfl
 refine x.o _ _ (.slice s0 n a) _ rfl ⟨?_,?_⟩ ⟨?_,?_⟩
 ·rw[aj g.o.blk];simp
 ·have :=ar (lR g.o.own j) d (fun b f=>k b (c▸f));rw[List.length_take,Nat.min_eq_left j,List.map_take];exact this
 ·exact d.mono fun b _ r e=>r (.inl e)
 ·rintro b (rfl|f)
  ·exact .inl (.inl rfl)
  ·exact .inl (.inr (c▸f))
theorem ut {B X:Nat} {u:Value} {N:List ByteArray} {n:Int} (h:LowAt B w X u N) (p:n≤20)
 (i:∀e d,e=.returned (IP n)→LowAt B d X u N→To (Dx X u) (Dx X u) w d→R e d):
 Calls Tryz.prog 195 (Ia (IL X) n) w R:=by
 have o:=ae i;clear i;have c:=ae h;have j:=xc1 h.blk 1 rfl;have l:=ao h.blk 1;have f:decide ((20:Int)<n)=false:=decide_eq_false (by omega);clear h;go_enter Tryz.func195,Tryz.ntmps195;go_wp2_with fail;have a:Keeps (·≠X) w (w.setCell ⟨X,1,none⟩ (.bool false)):=(af (·≠X) w).but _ _;refine o.o _ _ rfl ⟨?_,?_⟩ ⟨?_,?_⟩
 ·rw[aj c.o.blk];simp
 ·exact ar c.o.own a (fun b g e=>by
   obtain⟨_,m,f⟩:=ah c.o.own g;rw[e,c.o.blk]at f;simp at f)
 ·exact a.mono fun b _ k e=>k (.inl e)
 ·exact fun b g=>.inl g
end
end Go.Proofs.YtojegnbejmeehaaGreatDoor
