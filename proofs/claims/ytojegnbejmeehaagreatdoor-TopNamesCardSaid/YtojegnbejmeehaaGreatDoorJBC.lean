/- Helpers of the proof of TopNames. -/
import Derived.Test.YtojegnbejmeehaaGreatDoorJAO
namespace Go.Proofs.YtojegnbejmeehaaGreatDoor
open Go.RowKit
set_option maxRecDepth 10000
set_option maxHeartbeats 16000000
set_option linter.all false
section
attribute [local irreducible] wpQuiet ax au aQ
variable {R:Ending→World→Prop} {w:World} {x i:Nat} {v:Value} {T:List Qk} {er pl:Int}
def vK (T:List Qk):Prop:=∀i (hi:i<T.length),(T[i].k=4↔i+1=T.length)∧(T[i].k=1→cM T[i].t)
abbrev F1:Qk:=⟨4,GA,0,0⟩
def bC (T:List Qk) (i:Nat) (er:Int):Qk:=if er=0 then(T[i]?).getD F1 else F1
theorem yv (h:i<T.length):bC T i 0=T[i]:=by
 unfold bC;rw[if_pos rfl,List.getElem?_eq_getElem h,Option.getD_some]
theorem ud (h:er≠0):bC T i er=F1:=if_neg h
theorem jU (h:vK T) (b:i<T.length) (a:(bC T i er).k≠4):er=0∧i+1<T.length∧bC T i er=T[i]:=by
 by_cases c:er=0
 ·subst c;rw[yv b]at a⊢;exact⟨rfl,by have :=(h i b).1;omega,rfl⟩
 ·exact absurd (by rw[ud c]) a
theorem zR (h:vK T) (b:i<T.length) (a:(bC T i er).k=1):cM (bC T i er).t:=by
 obtain⟨h1,h2,c⟩:=jU h b (er:=er) (by rw[a];decide);rw[c]at a⊢;exact(h i b).2 a
theorem mA {w:World} {v:Value} {T:List Qk} (h:StrAt 4 w v (T.map Qk.cells)):∃a c,v=.slice a T.length c∧T.length≤c∧c≤maxLen∧
 (∀i (e:i<T.length),∃b off,a=some ⟨b,off,none⟩∧w.cell? ⟨b,off+i*4,none⟩=some (.int .i64 T[i].k)∧w.cell? ⟨b,off+i*4+1,none⟩=some (.string T[i].t)∧w.cell? ⟨b,off+i*4+2,none⟩=some (.int .i64 T[i].n)∧w.cell? ⟨b,off+i*4+3,none⟩=some (.int .i64 T[i].a)):=by
 obtain⟨a,c,rfl,h1,h2,f⟩:=h.open;simp only[List.length_map]at *;refine⟨a,c,rfl,h1,h2,fun i e=>?_⟩;obtain⟨b,off,rfl,_,d⟩:=f i e;have hx:(T.map Qk.cells)[i]?=some T[i].cells:=by simp[e]
 exact⟨b,off,rfl,d i _ hx 0 _ rfl,d i _ hx 1 _ rfl,d i _ hx 2 _ rfl,d i _ hx 3 _ rfl⟩
structure RAt (w:World) (x:Nat) (v:Value) (T:List Qk) (i:Nat) (er pl:Int):Prop where
 blk:w.heap[x]?=some (.cells #[v,i,er,pl] 51)
 toks:StrAt 4 w v (T.map Qk.cells)
 ne:live v≠some x
 le:T.length≤3001
 at_:i<T.length
 ok:vK T
theorem RAt.same {a:World} (h:RAt w x v T i er pl) (k:Same w a):RAt a x v T i er pl:=
 ⟨k.at h.blk trivial,h.toks.same k,h.ne,h.le,h.at_,h.ok⟩
def cG:=@RAt.same
theorem RAt.kept {S:Nat→Prop} {a:World} (h:RAt w x v T i er pl) (k:Keeps S w a) (hx:S x) (hv:∀b,live v=some b→S b):RAt a x v T i er pl:=
 ⟨k.at h.blk hx,h.toks.keep k hv,h.ne,h.le,h.at_,h.ok⟩
theorem RAt.step {c:World} {m:Nat} {b a:Int} (h:RAt w x v T i er pl) (k:Keeps (·≠x) w c) (d:c.heap[x]?=some (.cells #[v,m,b,a] 51)) (f:m<T.length):RAt c x v T m b a:=
 ⟨d,h.toks.keep k fun _ d e=>h.ne (e▸d),h.ne,h.le,f,h.ok⟩
structure Goes (w w':World) (x:Nat) (v:Value) (T:List Qk) (i i':Nat) (er er':Int):Prop where
 st:∃pl,RAt w' x v T i' er' pl
 le:i≤i'
 er:er≠0→er'≠0
 kp:Keeps (·≠x) w w'
theorem Goes.refl (h:RAt w x v T i er pl):Goes w w x v T i i er er:=⟨⟨_,h⟩,Nat.le_refl _,id,af _ _⟩
def gn:=@Goes.refl
theorem Goes.same {c b:World} {d:Nat} {a:Int} (h:Goes w c x v T i d er a) (k:Same c b):Goes w b x v T i d er a:=
 ⟨let ⟨p,q⟩:=h.st;⟨p,q.same k⟩,h.le,h.er,h.kp.tr_same k⟩
theorem Goes.tr {b a:World} {d c:Nat} {f e:Int} (h:Goes w b x v T i d er f) (k:Goes b a x v T d c f e):Goes w a x v T i c er e:=
 ⟨k.st,Nat.le_trans h.le k.le,fun h0=>k.er (h.er h0),h.kp.tr k.kp⟩
theorem Goes.of {b a:World} {c:Nat} {d:Int} (e:Same w b) (k:Goes b a x v T i c er d):Goes w a x v T i c er d:=
 ⟨k.st,k.le,k.er,e.same_tr k.kp⟩
theorem Goes.new {c:World} {f:Nat} {g:Int} (h:Goes w c x v T i f er g) (h0:RAt w x v T i er pl) {b:Nat} (j:w.heap.size≤b) (k:Nat) (a:Value):Goes w (c.setCell ⟨b,k,none⟩ a) x v T i f er g:=by
 obtain⟨d,h1⟩:=h.st;have hx:x<w.heap.size:=am h0.blk;refine⟨⟨d,h1.kept ((af (·≠b) c).but k a) (by omega) fun l e=>?_⟩,h.le,h.er,h.kp.new j k a⟩;have :=h0.toks.lt l e;omega
theorem Goes.box4 {c:World} {d:Nat} {e:Int} (h:Goes w c x v T i d er e) (h0:RAt w x v T i er pl) {b:Nat} (a:w.heap.size≤b) (k j g f:Value):Goes w ((((c.setCell ⟨b,0,none⟩ k).setCell ⟨b,1,none⟩ j).setCell ⟨b,2,none⟩ g).setCell ⟨b,3,none⟩ f) x v T i d er e:=
 (((h.new h0 a _ _).new h0 a _ _).new h0 a _ _).new h0 a _ _
theorem Goes.box5 {c:World} {d:Nat} {e:Int} (h:Goes w c x v T i d er e) (h0:RAt w x v T i er pl) {b:Nat} (a:w.heap.size≤b) (l k j g f:Value):Goes w (((((c.setCell ⟨b,0,none⟩ l).setCell ⟨b,1,none⟩ k).setCell ⟨b,2,none⟩ j).setCell ⟨b,3,none⟩ g).setCell ⟨b,4,none⟩ f) x v T i d er e:=
 ((((h.new h0 a _ _).new h0 a _ _).new h0 a _ _).new h0 a _ _).new h0 a _ _
def ju (x len:Nat) (w:World):Nat:=len -(intOf ((w.cell? ⟨x,1,none⟩).getD undef)).toNat
theorem Cy (h:RAt w x v T i er pl) (a:Nat):ju x a w=a -i:=by
 unfold ju;rw[ai h.blk 1];simp[intOf]
theorem bm {c:World} {d:Nat} {b:Int} (h:Goes w c x v T i d er b) (a:Nat):ju x a c=a -d:=by
 obtain⟨_,h⟩:=h.st;exact Cy h a
theorem dH (h:RAt w x v T i er pl) (L:∀e G,e=.returned (bC T i er).val→Same w G→R e G):
 Calls Tryz.prog 16 #[.pointer (IQ x 0)] w R:=by
 have E:=ae L;clear L;obtain⟨a,c,rfl,X,I,g⟩:=mA h.toks;have u:=h.blk;have V:=h.le;have J:=h.at_;unfold maxLen at I;have j:Same w (bJ w):=(af _ w).alloc _;have l:(bJ w).heap[w.heap.size]?=_:=ag w _;have F:=ae j;have N:=ak j (ai u 0) trivial;have M:=ak j (ai u 1) trivial;have c2:=ak j (ai u 2) trivial;have d:=ae l;unfold bJ at *;by_cases H:er=0
 ·subst H;obtain⟨b,off,rfl,s,r,p,o⟩:=g i J;rw[yv J]at E;generalize T[i]=q at E s r p o;obtain⟨s,r,p,o⟩:=xs4 j s r p o;clear h g u j l;go_enter Tryz.func16,Tryz.ntmps16;go_wp2_with fail;generalize w.alloc _=O at F d N M c2 s r p o⊢;have D:=ae (Nat.le_refl w.heap.size);generalize hx:w.heap.size=bx at d⊢;have D:=ae (Nat.le_of_eq hx);refine zq0 10 (.take 0 (.take 1 (.take 2 (.take 3 (.take 4 (.take 5 (.take 6 (.take 7 (.take 8 (.take 9 .last)))))))))) (Same O) (by kernel_rfl) (by kernel_rfl) ?hS0 ?_
  case hS0=>exact al (af _ _)
  iterate 10 (first|(apply aC;rfl;rfl;go_simp)|(apply aB;rfl;rfl;intro G m;obtain⟨q0,q1,y0,y1,y2,y3⟩:=xs6 m N M s r p o;go_simp;exact rfl;go_simp))
  have f:=d.o;obtain⟨C,B,A,z⟩:=xc4 f rfl rfl rfl rfl;obtain⟨f0,f1,Z,Y⟩:=xf4 f;refine aO rfl rfl fun K y=>?_;go_simp;refine y _ _ (aG ?_);clear y K f f0 f1 Z Y;go_wp2_with fail;exact bodyPost_ret (v:=(Ig q.k q.t q.n q.a)) (by simp[results,Tryz.results16,go_sem,C,B,A,z]) rfl (E.o _ _ rfl (((((F.o.new D.o _ _).new D.o _ _).new D.o _ _).new D.o _ _).drew))
 ·rw[ud H]at E;have U:(er !=0)=true:=by rw[bne_iff_ne];exact H
  obtain⟨C,B,A,z⟩:=xc4 d.o rfl rfl rfl rfl;obtain⟨g0,g1,g2,g3⟩:=xf4 d.o;clear h g u j l;go_enter Tryz.func16,Tryz.ntmps16;go_wp2_with fail;refine bodyPost_ret (v:=(Ig 4 GA 0 0)) (by simp[results,Tryz.results16,go_sem,C,B,A,z]) rfl ?_;exact E.o _ _ rfl ((af _ w).alloc _)
theorem fZ (h:RAt w x v T i er pl) (t:ByteArray) (o:∀e l,e=.returned (.bool (decide ((bC T i er).k=3∧(bC T i er).t=t)))→Same w l→R e l):
 Calls Tryz.prog 10 #[.pointer (IQ x 0),.string t] w R:=by
 have c:=ae o;clear o;have H:=ae h;clear h;go_enter Tryz.func10,Tryz.ntmps10;go_wp2_with fail;refine dH H.o ?_;rintro e p rfl m;generalize bC T i er=q at c⊢;simp only[Qk.val];have f:=ag p (Hv q.k q.t q.n q.a);have j:=ae (m.alloc (Hv q.k q.t q.n q.a));obtain⟨u,s⟩:=xc2 f rfl rfl;clear m f;by_cases b:q.k=3
 ·have g:(q.k==3)=true:=by simp[b]
  have y:=ae b;clear b;by_cases d:q.t=t
  ·subst d;go_wp2_with fail;exact c.o _ _ (by simp[y.o]) j.o
  ·have r:(q.t.toList==t.toList)=false:=by rw[eP];exact decide_eq_false d
   go_wp2_with fail;exact c.o _ _ (by simp[d]) j.o
 ·have g:(q.k==3)=false:=by simp[b]
  go_wp2_with fail;exact c.o _ _ (by simp[b]) j.o
theorem cV (h:RAt w x v T i er pl) (a f:Int) (c:f≠0) (k:∀e g u b,e=.returned u→b≠0→Goes w g x v T i i er b→R e g):
 Calls Tryz.prog 17 (Il (IL x) a f) w R:=by
 have l:=ae k;clear k;have H:=ae h;have o:=xc1 h.blk 2 rfl;have n:=xc1 h.blk 3 rfl;have q:=ao h.blk 2;have p:=ao h.blk 3;clear h;by_cases d:er=0
 ·subst d;go_enter Tryz.func17,Tryz.ntmps17;go_wp2_with fail;go_end0;have j:=((af (·≠x) w).but 2 (IP f)).but 3 (IP a);exact l.o _ _ _ _ rfl c ⟨⟨a,H.o.step j (by rw[aj (aj H.o.blk _ _)];simp) H.o.at_⟩,Nat.le_refl _,fun h=>absurd rfl h,j⟩
 ·have m:(er==0)=false:=by simp[d]
  go_enter Tryz.func17,Tryz.ntmps17;go_wp2_with fail;go_end0;exact l.o _ _ _ _ rfl d (gn H.o)
theorem bW (h:RAt w x v T i er pl) (hR:∀e w' V,e=.returned (bC T i er).val→((bC T i er).k=4→V=i)→((bC T i er).k≠4→V=i+1)→Goes w w' x v T i V er er→R e w'):
 Calls Tryz.prog 27 #[.pointer (IQ x 0)] w R:=by
 have z:=ae hR;clear hR;have H:=ae h;have aL:=h.le;have hi:=h.at_;have U:Same w (bJ w):=(af _ w).alloc _;have c:(bJ w).heap[w.heap.size]?=_:=ag w _;have N:=ae (h.same U);have p:=ae U;have r:=ae c;unfold bJ at N p r;clear U c h;go_enter Tryz.func27,Tryz.ntmps27;go_wp2_with fail;generalize w.alloc _=w1 at p r N⊢;refine dH N.o ?_;rintro e s rfl A;have J:Hid ((bC T i er).k≠4→er=0∧i+1<T.length):=ae fun g=>let ⟨a,b,_⟩:=jU H.o.ok H.o.at_ g;⟨a,b⟩;generalize bC T i er=q at z J⊢;simp only[Qk.val]at z⊢;have H2:=ae (N.o.same A);have B:=aw H2.o.blk (Hv q.k q.t q.n q.a);have c:=aw (A.at r.o trivial) (Hv q.k q.t q.n q.a);have u:=ag s (Hv q.k q.t q.n q.a);have d:=ae ((p.o.tr A).alloc (Hv q.k q.t q.n q.a));have M:=ae (H2.o.same ((af _ s).alloc (Hv q.k q.t q.n q.a)));have I:=xc1 B 1 rfl;have G:=xc1 B 2 rfl;obtain⟨F,E,D,C⟩:=xc4 u rfl rfl rfl rfl;obtain⟨o,m,l,j⟩:=xc4 c rfl rfl rfl rfl;have f1:=ao B 1;obtain⟨g0,g1,g2,g3⟩:=xf4 c;have n1:x≠s.heap.size:=Nat.ne_of_lt (am H2.o.blk);have n2:x≠w.heap.size:=Nat.ne_of_lt (am H.o.blk);have n3:=n1.symm;have n4:=n2.symm;clear A B c u;by_cases g:q.k=4
 ·have X:(q.k !=4)=false:=by rw[bne_eq_false_iff_eq];exact g
  have L:=ae g;clear g J;by_cases f:er=0
  ·have a8:=ae f;have aH:(er==0)=true:=by simp[f]
   clear f;go_wp2_with fail;generalize s.alloc _=O at d M I G f1 F E D C o m l j g0 g1 g2 g3⊢;refine bodyPost_ret (v:=(Ig q.k q.t q.n q.a)) (by simp[results,Tryz.results27,go_sem,o,m,l,j]) rfl ?_;exact z.o _ _ i rfl (fun _=>rfl) (fun h=>absurd L.o h) ((gn H.o).same (d.o.box4 (Nat.le_refl _) (IP q.k) (.string q.t) (IP q.n) (IP q.a)))
  ·have aH:(er==0)=false:=by simp[f]
   clear f;go_wp2_with fail;generalize s.alloc _=O at d M I G f1 F E D C o m l j g0 g1 g2 g3⊢;refine bodyPost_ret (v:=(Ig q.k q.t q.n q.a)) (by simp[results,Tryz.results27,go_sem,o,m,l,j]) rfl ?_;exact z.o _ _ i rfl (fun _=>rfl) (fun h=>absurd L.o h) ((gn H.o).same (d.o.box4 (Nat.le_refl _) (IP q.k) (.string q.t) (IP q.n) (IP q.a)))
 ·obtain⟨rfl,Z⟩:=J.o g;have X:(q.k !=4)=true:=by rw[bne_iff_ne];exact g
  have L:=ae g;clear g J;go_wp2_with fail;generalize s.alloc _=O at d M I G f1 F E D C o m l j g0 g1 g2 g3⊢;refine bodyPost_ret (v:=(Ig q.k q.t q.n q.a)) (by simp[results,Tryz.results27,go_sem,o,m,l,j]) rfl ?_;have Y:Keeps (·≠x) w (O.setCell ⟨x,1,none⟩ (IP ((i:Int)+1))):=(d.o.bar x).but _ _;have y:=Y.box4 (Nat.le_refl _) (IP q.k) (.string q.t) (IP q.n) (IP q.a);refine z.o _ _ (i+1) rfl (fun h=>absurd h L.o) (fun _=>rfl) ⟨⟨pl,H.o.step y ?_ Z⟩,Nat.le_succ _,id,y⟩;rw[yM n2,aj M.o.blk];simp
theorem ei (h:RAt w x v T i er pl) (t:ByteArray) (q:∀e n b o,e=.returned (.bool b)→(b=true→er=0∧o=i+1)→Goes w n x v T i o er er→R e n):
 Calls Tryz.prog 30 #[.pointer (IQ x 0),.string t] w R:=by
 have r:=ae q;clear q;have H:=ae h;clear h;go_enter Tryz.func30,Tryz.ntmps30;go_wp2_with fail;refine fZ H.o t ?_;rintro e z rfl a;have u:=ae (H.o.same a);by_cases j:(bC T i er).k=3∧(bC T i er).t=t
 ·have c:(bC T i er).k≠4:=by rw[j.1];decide
  have s:=(jU H.o.ok H.o.at_ c).1;have g:decide ((bC T i er).k=3∧(bC T i er).t=t)=true:=decide_eq_true j;rw[g];clear g;have l:=ae a;clear a;go_wp2_with fail;refine bW u.o ?_;rintro e y A rfl _ f p;have m:=ae (Goes.of l.o p);have d:=f c;clear f p;go_wp2_with fail;exact r.o _ _ _ _ rfl (fun _=>⟨s,d⟩) m.o
 ·have g:decide ((bC T i er).k=3∧(bC T i er).t=t)=false:=decide_eq_false j;rw[g];clear g;have m:=ae ((gn H.o).same a);clear a;go_wp2_with fail;exact r.o _ _ _ _ rfl (fun h=>by cases h) m.o
theorem cJ (h:RAt w x v T i er pl) (t:ByteArray) (n:∀e l u y f,e=.returned u→Goes w l x v T i y er f→R e l):
 Calls Tryz.prog 15 #[.pointer (IQ x 0),.string t] w R:=by
 have o:=ae n;clear n;have H:=ae h;clear h;go_enter Tryz.func15,Tryz.ntmps15;go_wp2_with fail;refine ei H.o t ?_;rintro e D b s rfl _ m;have k:=ae m;clear m
 cases b with
 |true=>
  go_wp2_with fail;go_end0;exact o.o _ _ _ _ _ rfl k.o
 |false=>
  obtain⟨r,h1⟩:=k.o.st;have p:=ae h1;clear h1;go_wp2_with fail;refine dH p.o ?_;rintro e C rfl d;have A:=ae (p.o.same d);have j:=ae (k.o.same d);clear d;generalize bC T s er=q;simp only[Qk.val];go_wp2_with fail;refine cV A.o q.a 2 (by decide) ?_;rintro e B u z rfl _ c;have g:=ae (j.o.tr c);clear c;go_wp2_with fail;go_end0;exact o.o _ _ _ _ _ rfl g.o
theorem fz (h:RAt w x v T i er pl) (X:∀e U (q:Qk) i' er',e=.returned q.val→(er'=0→cM q.t)→Goes w U x v T i i' er er'→R e U):
 Calls Tryz.prog 28 #[.pointer (IQ x 0)] w R:=by
 have Y:=ae X;clear X;have H:=ae h;have I:Same w (bJ w):=(af _ w).alloc _;have r:(bJ w).heap[w.heap.size]?=_:=ag w _;have D:=ae (h.same I);have f:=ae I;have g:=ae r;have n2:x≠w.heap.size:=Nat.ne_of_lt (am h.blk);have V:=n2.symm;unfold bJ at D f g;clear I r h;go_enter Tryz.func28,Tryz.ntmps28;go_wp2_with fail;generalize w.alloc _=w1 at f g D⊢;refine dH D.o ?_;rintro e w2 rfl F;have c:Hid ((bC T i er).k=1→cM (bC T i er).t):=ae fun m=>zR H.o.ok H.o.at_ m;have G:=ae (D.o.same F);have d:=ae (f.o.tr F);have j:=ae (F.at g.o trivial);clear F D f g;obtain⟨q,J⟩:∃q,bC T i er=q:=⟨_,rfl⟩;rw[J]at c⊢;simp only[Qk.val];have Z:=ae J;clear J;by_cases m:q.k=1
 ·have l:(q.k !=1)=false:=by rw[bne_eq_false_iff_eq];exact m
  have M:=ae (c.o m);clear c m;go_wp2_with fail;refine bW G.o ?_;rintro e w3 i3 rfl _ _ o;rw[Z.o];have N:=ae (Goes.of d.o o);have b:=o.kp.at j.o V;obtain⟨A,z,y,s⟩:=xc4 b rfl rfl rfl rfl;obtain⟨g0,g1,g2,g3⟩:=xf4 b;clear o b j d l;simp only[Qk.val];go_wp2_with fail;refine bodyPost_ret (v:=(Ig q.k q.t q.n q.a)) (by simp[results,Tryz.results28,go_sem,A,z,y,s]) rfl ?_;exact Y.o _ _ q i3 er rfl (fun _=>M.o) (N.o.box4 H.o (Nat.le_refl _) _ _ _ _)
 ·have l:(q.k !=1)=true:=by rw[bne_iff_ne];exact m
  clear c m;go_wp2_with fail;refine dH G.o ?_;rintro e w3 rfl E;have H3:=ae (G.o.same E);have B:=ae (d.o.tr E);have C:=ae (E.at j.o trivial);clear E G d j l;rw[Z.o];simp only[Qk.val];go_wp2_with fail;refine cV H3.o q.a 2 (by decide) ?_;rintro e w4 u L rfl p o;have O:=ae p;have N:=ae (Goes.of B.o o);have b:=o.kp.at C.o V;obtain⟨A,z,y,s⟩:=xc4 b rfl rfl rfl rfl;obtain⟨g0,g1,g2,g3⟩:=xf4 b;clear o b C B p;go_wp2_with fail;refine bodyPost_ret (v:=(Ig 0 GA 0 0)) (by simp[results,Tryz.results28,go_sem,A,z,y,s]) rfl ?_;exact Y.o _ _ ⟨0,GA,0,0⟩ i L rfl (fun h=>absurd h O.o) (N.o.box4 H.o (Nat.le_refl _) _ _ _ _)
end
section
attribute [local irreducible] wpQuiet ax au aQ
theorem Dt (w:World) {c:Nat} (h:c<256):(convert 76 9 (.slice (IQ w.heap.size 0) 1 1)).run Tryz.prog (w.alloc (.cells #[.int .u8 (c:Int)] 5))=.ok (.string ⟨#[c.toUInt8]⟩) (w.alloc (.cells #[.int .u8 (c:Int)] 5)):=
 run_convert_bytes_back (P:=Tryz.prog) _ 76 9 5 ⟨w.heap.size,0,none⟩ 1 [c.toUInt8] Tryz.underlying76 Tryz.underlying5 Tryz.underlying9 (fun j a=>by
  have a:j<1:=a;obtain rfl:j=0:=by omega
  show(w.alloc (.cells #[.int .u8 (c:Int)] 5)).cell? ⟨w.heap.size,0+0,none⟩=_
  rw[ai (ag w (.cells #[.int .u8 (c:Int)] 5))];simp;omega)
variable {R:Ending→World→Prop} {w:World} {x i:Nat} {v:Value} {T:List Qk} {er pl:Int}
theorem jD (h:RAt w x v T i er pl) (s:ByteArray) (hs:s.size≤10) (l:∀e g (k:Int),e=.returned (IP k)→-1≤k→k≤2→(0≤k→(bC T i er).k=3)→Same w g→R e g):
 Calls Tryz.prog 11 #[.pointer (IQ x 0),.string s] w R:=by
 have n:=ae l;clear l;have H:=ae h;clear h;go_enter Tryz.func11,Tryz.ntmps11;go_wp2_with fail
 go_loopw [5] (fun i wr=>∃k:Nat,i=.int .i64 k∧k≤3∧Hid (Same w wr)) (fun i _=>3 -(intOf i).toNat)
 case atStart=>exact⟨0,rfl,Nat.zero_le _,ae (af _ _)⟩
 case round=>
  obtain⟨k,rfl,y,m⟩:=hrel;by_cases p:k<3
  ·have b:=Dt wr (show 48+k<256 by omega);have r:IntKind.i64.wrap (48+(k:Int))=48+(k:Int):=by rw[IntKind.wrap_i64];omega
   have q:IntKind.u8.wrap (48+(k:Int))=48+(k:Int):=by simp[IntKind.wrap,IntKind.bits,IntKind.signed];omega
   rw[show((48+k:Nat):Int)=48+(k:Int) by omega]at b;have o:(⟨#[(48+k).toUInt8]⟩:ByteArray).size=1:=rfl;have d:=ae (m.o.alloc (.cells #[.int .u8 (48+(k:Int))] 5));go_wp2_with fail;refine fZ (H.o.same d.o) _ ?_;rintro e u rfl j;generalize s++(⟨#[48+UInt8.ofNat k]⟩:ByteArray)=t;have c:=ae (d.o.tr j);clear j b;by_cases f:(bC T i er).k=3∧(bC T i er).t=t
   ·have a:decide ((bC T i er).k=3∧(bC T i er).t=t)=true:=decide_eq_true f;rw[a];clear a;go_wp2_with fail;exact n.o _ _ _ rfl (by omega) (by omega) (fun _=>f.1) c.o
   ·have a:decide ((bC T i er).k=3∧(bC T i er).t=t)=false:=decide_eq_false f;rw[a];clear a f;go_wp2_with fail;go_roundw
    case rel=>exact⟨k+1,by go_num,by omega,c⟩
    case measure=>simp[intOf];omega
  ·obtain rfl:k=3:=by omega
   go_wp2_with fail;exact n.o _ _ (-1) rfl (by decide) (by decide) (fun h=>absurd h (by decide)) m.o
theorem ve (h:RAt w x v T i er pl) (d:Nat) (C:d≤1000) (r:∀e p b m,e=.returned (.bool b)→(b=true→d<30)→Goes w p x v T i i er m→R e p):
 Calls Tryz.prog 31 (Ia (IL x) d) w R:=by
 have s:=ae r;clear r;have H:=ae h;clear h;by_cases k:d<30
 ·have j:decide ((30:Int)≤(d:Int))=false:=by simp;omega
  have n:=xc1 H.o.blk 2 rfl;go_enter Tryz.func31,Tryz.ntmps31;go_wp2_with fail;exact s.o _ _ _ _ rfl (fun _=>k) (gn H.o)
 ·have j:decide ((30:Int)≤(d:Int))=true:=by simp;omega
  go_enter Tryz.func31,Tryz.ntmps31;go_wp2_with fail;refine dH H.o ?_;rintro e B rfl c;have z:=ae (H.o.same c);have y:=ae ((gn H.o).same c);generalize bC T i er=q;simp only[Qk.val];clear c;go_wp2_with fail;refine cV z.o q.a 4 (by decide) ?_;rintro e A u l rfl f g;have o:=ae (y.o.tr g);obtain⟨t,h2⟩:=g.st;have n:=xc1 h2.blk 2 rfl;have D:(l==0)=false:=by simp[f]
  clear g h2;go_wp2_with fail;exact s.o _ _ _ _ rfl (fun h=>by cases h) o.o
end
section
attribute [local irreducible] wpQuiet ax au aQ
variable {R:Ending→World→Prop} {w:World} {x i:Nat} {v:Value} {T:List Qk} {er pl:Int}
def Nod (u:Value):Prop:=∃(o nm:ByteArray) (k a:Int) (ks:Option Addr) (n c:Nat),u=(Hw o nm k a ks n c)
def dY (x:Nat) (v:Value) (T:List Qk) (F:Nat) (args:Array Value):Prop:=
 ∀(w:World) (i:Nat) (er pl:Int) (R:Ending→World→Prop),RAt w x v T i er pl→(∀e w' u i' er',e=.returned u→Nod u→Goes w w' x v T i i' er er'→R e w')→Calls Tryz.prog F args w R
def tq (x:Nat) (v:Value) (T:List Qk) (F:Nat) (args:Array Value):Prop:=
 ∀(w:World) (i:Nat) (er pl:Int) (R:Ending→World→Prop),RAt w x v T i er pl→(∀e w' (a:Option Addr) (n c:Nat) i' er',e=.returned (.slice a n c)→Goes w w' x v T i i' er er'→R e w')→Calls Tryz.prog F args w R
theorem vd (b:Bool) (gH:b=false→tq x v T 225 #[.pointer (IQ x 0),.string ⟨#[125]⟩,.bool true]):
 dY x v T 258 (Id (IL x) b):=by
 intro w i er pl R h hR;have HR:=ae hR;clear hR;have IW:=ae gH;clear gH;have H:=ae h;have k0:Same w (bj w):=(af _ w).alloc _;have IR:(bj w).heap[w.heap.size]?=_:=ag w _;have H0:=ae (h.same k0);have fw:=ae k0;have dE:=ae IR;have n2:x≠w.heap.size:=Nat.ne_of_lt (am h.blk);have n4:=n2.symm;have I9:x<w.heap.size:=am h.blk;unfold bj at H0 fw dE;clear k0 IR h;go_enter Tryz.func258,Tryz.ntmps258;go_wp2_with fail;generalize w.alloc _=w1 at fw dE H0⊢;refine dH H0.o ?_;rintro e w2 rfl k2;generalize bC T i er=q;simp only[Qk.val];have ch:w.heap.size<w2.heap.size:=Nat.lt_of_lt_of_le (am dE.o) k2.size;have j:=k2.alloc (Hv q.k q.t q.n q.a);have Y:=ae ((gn H.o).same (fw.o.tr j));have aH:=ae (j.at dE.o trivial);have o:=ae (ag w2 (Hv q.k q.t q.n q.a));have H3:=ae (H0.o.same j);have ny:w2.heap.size≠x:=by omega
 clear j k2 dE fw H0;obtain⟨B,A,s,r⟩:=xc4 o.o rfl rfl rfl rfl;by_cases dZ:q.k=1
 ·have O:(q.k==1)=true:=by simp[dZ]
  clear dZ;go_wp2_with fail;generalize w2.alloc _=w3 at Y aH o H3 B A s r⊢;generalize w2.heap.size=y at o ch ny B A s r⊢;refine bW H3.o ?_;rintro e w4 i4 rfl _ _ c;clear B A s r O;have I3:y<w4.heap.size:=am (c.kp.at o.o ny);have L:=ae (Y.o.tr c);have m:=ae (c.kp.at aH.o n4);have f:=ae (c.kp.at o.o ny);obtain⟨I2,h4⟩:=c.st;have H4:=ae h4;clear c h4 Y aH o H3;obtain⟨B,A,s,r⟩:=xc4 f.o rfl rfl rfl rfl;have j:=sal w4 (Ht GG q.t 0 q.a none 0 0);have fu:=ae (ag w4 (Ht GG q.t 0 q.a none 0 0));have nz:w4.heap.size≠x:=by omega
  have N:=ae (L.o.same j);have d:=ae (aM j m.o trivial);have J:=ae (aM j f.o trivial);have H5:=ae (cG H4.o j);clear j L m f H4;go_wp2_with fail;generalize w4.alloc _=w5 at N d J H5 fu⊢;generalize w4.heap.size=z at fu nz I3⊢;clear B A s r;refine ei H5.o _ ?_;rintro e w6 b6 i6 rfl _ c;have a8:=ae (c.kp.at fu.o nz);clear fu;have dp:=ae (N.o.tr c);have l:=ae (c.kp.at d.o n4);have IT:=ae (c.kp.at J.o ny);obtain⟨I8,h6⟩:=c.st;have H6:=ae h6;clear c h6 N d J H5
  cases b6 with
  |false=>
   obtain⟨z0,z1,z2,z3,z4⟩:=xc5 a8.o rfl rfl rfl rfl rfl;obtain⟨I,G,F,E,D⟩:=xc5 l.o rfl rfl rfl rfl rfl;obtain⟨g0,g1,g2,g3,g4⟩:=xf5 l.o;go_wp2_with fail;refine bodyPost_ret (v:=(Hw GG q.t 0 q.a none 0 0)) (by simp[results,Tryz.results258,go_sem,I,G,F,E,D]) rfl ?_;exact HR.o _ _ _ _ _ rfl ⟨_,_,_,_,_,_,_,rfl⟩ (dp.o.box5 H.o (Nat.le_refl _) _ _ _ _ _)
  |true=>
   go_wp2_with fail;refine dH H6.o ?_;rintro e w7 rfl k7;generalize bC T i6 er=C;simp only[Qk.val];have IZ:=ae (k7.at a8.o trivial);clear a8;have I0:=ae (dp.o.same k7);have gJ:=ae (aM k7 l.o trivial);have IS:=ae (aM k7 IT.o trivial);have H7:=ae (cG H6.o k7);clear k7 dp l IT H6;have M:=ae (ag w7 (Hv C.k C.t C.n C.a));have j:=sal w7 (Hv C.k C.t C.n C.a);have aL:=ae (j.at IZ.o trivial);have nk:w7.heap.size≠x:=by have :=am gJ.o;omega
   clear IZ;have X:=ae (I0.o.same j);have Z:=ae (aM j gJ.o trivial);have V:=ae (aM j IS.o trivial);have H8:=ae (cG H7.o j);clear j I0 gJ IS H7;obtain⟨B,A,s,r⟩:=xc4 M.o rfl rfl rfl rfl;by_cases U:C.k=2
   ·have O:(C.k !=2)=false:=by rw[bne_eq_false_iff_eq];exact U
    clear U;by_cases fd:C.n=0
    ·have bL:(C.n==0)=true:=by simp[fd]
     clear fd;go_wp2_with fail;generalize w7.alloc _=w8 at X Z V H8 aL M⊢;refine cV H8.o C.a 2 (by decide) ?_;rintro e w9 u9 I4 rfl _ c;have p:=ae (c.kp.at aL.o nz);have ce:=ae (X.o.tr c);have g:=ae (c.kp.at Z.o n4);have cH:=ae (c.kp.at V.o ny);obtain⟨If,h9⟩:=c.st;have H9:=ae h9;clear c h9 X Z V H8;clear B A s r O;obtain⟨z0,z1,z2,z3,z4⟩:=xc5 p.o rfl rfl rfl rfl rfl;obtain⟨I,G,F,E,D⟩:=xc5 g.o rfl rfl rfl rfl rfl;obtain⟨g0,g1,g2,g3,g4⟩:=xf5 g.o;go_wp2_with fail;refine bodyPost_ret (v:=(Hw GG q.t 0 q.a none 0 0)) (by simp[results,Tryz.results258,go_sem,I,G,F,E,D]) rfl ?_;exact HR.o _ _ _ _ _ rfl ⟨_,_,_,_,_,_,_,rfl⟩ (ce.o.box5 H.o (Nat.le_refl _) _ _ _ _ _)
    ·have bL:(C.n==0)=false:=by simp[fd]
     clear fd;go_wp2_with fail;generalize w7.alloc _=w8 at X Z V H8 aL M B A s r⊢;generalize w7.heap.size=kk at M nk B A s r⊢;refine bW H8.o ?_;rintro e w9 i9 rfl _ _ c;clear B A s r O bL;have p:=ae (c.kp.at aL.o nz);have I6:=ae (c.kp.at M.o nk);clear aL M;have ce:=ae (X.o.tr c);have g:=ae (c.kp.at Z.o n4);have cH:=ae (c.kp.at V.o ny);obtain⟨If,h9⟩:=c.st;have H9:=ae h9;clear c h9 X Z V H8;have s:=xc1 I6.o 2 rfl;have r:=xc1 cH.o 3 rfl;obtain⟨z0,z1,z2,z3,z4⟩:=xc5 p.o rfl rfl rfl rfl rfl;have j:=sal w9 (Ht GG q.t 0 q.a none 0 0);have I1:=ae (ce.o.same j);have u:=ae (aM j g.o trivial);have I7:=ae (aM j cH.o trivial);have Jb:=ae (cG H9.o j);clear j ce g cH H9;obtain⟨I,G,F,E,D⟩:=xc5 u.o rfl rfl rfl rfl rfl;obtain⟨g0,g1,g2,g3,g4⟩:=xf5 u.o;go_wp2_with fail;refine bodyPost_ret (v:=(Hw Hj GA C.n q.a (IQ w9.heap.size 0) 1 1)) (by simp[results,Tryz.results258,go_sem,I,G,F,E,D]) rfl ?_;exact HR.o _ _ _ _ _ rfl ⟨_,_,_,_,_,_,_,rfl⟩ (I1.o.box5 H.o (Nat.le_refl _) _ _ _ _ _)
   ·have O:(C.k !=2)=true:=by rw[bne_iff_ne];exact U
    clear U;go_wp2_with fail;generalize w7.alloc _=w8 at X Z V H8 aL M⊢;refine cV H8.o C.a 2 (by decide) ?_;rintro e w9 u9 I4 rfl _ c;have p:=ae (c.kp.at aL.o nz);have ce:=ae (X.o.tr c);have g:=ae (c.kp.at Z.o n4);have cH:=ae (c.kp.at V.o ny);obtain⟨If,h9⟩:=c.st;have H9:=ae h9;clear c h9 X Z V H8;clear B A s r O;obtain⟨z0,z1,z2,z3,z4⟩:=xc5 p.o rfl rfl rfl rfl rfl;obtain⟨I,G,F,E,D⟩:=xc5 g.o rfl rfl rfl rfl rfl;obtain⟨g0,g1,g2,g3,g4⟩:=xf5 g.o;go_wp2_with fail;refine bodyPost_ret (v:=(Hw GG q.t 0 q.a none 0 0)) (by simp[results,Tryz.results258,go_sem,I,G,F,E,D]) rfl ?_;exact HR.o _ _ _ _ _ rfl ⟨_,_,_,_,_,_,_,rfl⟩ (ce.o.box5 H.o (Nat.le_refl _) _ _ _ _ _)
 ·have O:(q.k==1)=false:=by simp[dZ]
  clear dZ;by_cases U:q.k=2
  ·have bL:(q.k==2)=true:=by simp[U]
   clear U;go_wp2_with fail;generalize w2.alloc _=w3 at Y aH o H3 B A s r⊢;generalize w2.heap.size=y at o ch ny B A s r⊢;refine bW H3.o ?_;rintro e w4 i4 rfl _ _ c;clear B A s r O bL;have L:=ae (Y.o.tr c);have m:=ae (c.kp.at aH.o n4);have f:=ae (c.kp.at o.o ny);obtain⟨I2,h4⟩:=c.st;have H4:=ae h4;clear c h4 Y aH o H3;obtain⟨B,A,s,r⟩:=xc4 f.o rfl rfl rfl rfl;obtain⟨I,G,F,E,D⟩:=xc5 m.o rfl rfl rfl rfl rfl;obtain⟨g0,g1,g2,g3,g4⟩:=xf5 m.o;go_wp2_with fail;refine bodyPost_ret (v:=(Hw GH GA q.n q.a none 0 0)) (by simp[results,Tryz.results258,go_sem,I,G,F,E,D]) rfl ?_;exact HR.o _ _ _ _ _ rfl ⟨_,_,_,_,_,_,_,rfl⟩ (L.o.box5 H.o (Nat.le_refl _) _ _ _ _ _)
  ·have bL:(q.k==2)=false:=by simp[U]
   clear U;go_wp2_with fail;generalize w2.alloc _=w3 at Y aH o H3 B A s r⊢;generalize w2.heap.size=y at o ch ny B A s r⊢;refine fZ H3.o _ ?_;rintro e w4 rfl k4;clear B A s r O bL;have L:=ae (Y.o.same k4);have m:=ae (aM k4 aH.o trivial);have f:=ae (aM k4 o.o trivial);have H4:=ae (cG H3.o k4);clear k4 Y aH o H3;generalize decide ((bC T i er).k=3∧(bC T i er).t=⟨#[123]⟩)=bb
   cases bb with
   |false=>
    obtain⟨B,A,s,r⟩:=xc4 f.o rfl rfl rfl rfl;go_wp2_with fail;refine cV H4.o q.a 2 (by decide) ?_;rintro e w5 u5 I5 rfl _ c;clear B A s r;have N:=ae (L.o.tr c);have d:=ae (c.kp.at m.o n4);have J:=ae (c.kp.at f.o ny);obtain⟨gI,h5⟩:=c.st;have H5:=ae h5;clear c h5 L m f H4;obtain⟨I,G,F,E,D⟩:=xc5 d.o rfl rfl rfl rfl rfl;obtain⟨g0,g1,g2,g3,g4⟩:=xf5 d.o;go_wp2_with fail;refine bodyPost_ret (v:=(Hw GA GA 0 0 none 0 0)) (by simp[results,Tryz.results258,go_sem,I,G,F,E,D]) rfl ?_;exact HR.o _ _ _ _ _ rfl ⟨_,_,_,_,_,_,_,rfl⟩ (N.o.box5 H.o (Nat.le_refl _) _ _ _ _ _)
   |true=>
    cases b with
    |true=>
     obtain⟨B,A,s,r⟩:=xc4 f.o rfl rfl rfl rfl;go_wp2_with fail;refine cV H4.o q.a 2 (by decide) ?_;rintro e w5 u5 I5 rfl _ c;clear B A s r;have N:=ae (L.o.tr c);have d:=ae (c.kp.at m.o n4);have J:=ae (c.kp.at f.o ny);obtain⟨gI,h5⟩:=c.st;have H5:=ae h5;clear c h5 L m f H4;obtain⟨I,G,F,E,D⟩:=xc5 d.o rfl rfl rfl rfl rfl;obtain⟨g0,g1,g2,g3,g4⟩:=xf5 d.o;go_wp2_with fail;refine bodyPost_ret (v:=(Hw GA GA 0 0 none 0 0)) (by simp[results,Tryz.results258,go_sem,I,G,F,E,D]) rfl ?_;exact HR.o _ _ _ _ _ rfl ⟨_,_,_,_,_,_,_,rfl⟩ (N.o.box5 H.o (Nat.le_refl _) _ _ _ _ _)
    |false=>
     go_wp2_with fail;refine bW H4.o ?_;rintro e w5 i5 rfl _ _ c;have N:=ae (L.o.tr c);have d:=ae (c.kp.at m.o n4);have J:=ae (c.kp.at f.o ny);obtain⟨gI,h5⟩:=c.st;have H5:=ae h5;clear c h5 L m f H4;go_wp2_with fail;obtain⟨B,A,s,r⟩:=xc4 J.o rfl rfl rfl rfl;have kd:Keeps (·≠x) w5 w5.drew:=al (af _ w5);refine zq0 5 (.take 0 (.take 1 (.take 2 (.one 3 (.take 4 .last))))) (Keeps (·≠x) w5) (by kernel_rfl) (by kernel_rfl) kd ?_
     iterate 3 (first|(apply aC;rfl;rfl;go_simp)|(apply aB;rfl;rfl;intro w' hS;have y3:=ak hS r ny;go_simp;exact rfl;go_simp))
     refine aI (ay rfl rfl fun K cE=>?_);go_simp;refine IW.o (by trivial) w5.drew i5 er gI _ (H5.o.same (al (af _ _))) ?_;rintro e w6 ra rn rc i6 Ja rfl c;have kp:Keeps (·≠x) w5 w6:=kd.tr c.kp;refine cE (Keeps (·≠x) w5) _ _ kp (fun _ h=>h) ?_;clear cE K B A s r;have dp:=ae ((N.o.same (al (af _ _))).tr c);have l:=ae (kp.at d.o n4);clear c kp N d J H5 kd
     iterate 1 (first|(apply aC;rfl;rfl;go_simp)|(apply aB;rfl;rfl;intro w' hS;go_simp;exact rfl;go_simp))
     obtain⟨I,G,F,E,D⟩:=xc5 l.o rfl rfl rfl rfl rfl;obtain⟨g0,g1,g2,g3,g4⟩:=xf5 l.o;refine aO rfl rfl fun K cE=>?_;go_simp;refine cE _ _ (aG ?_);clear cE K g0 g1 g2 g3 g4;go_wp2_with fail;refine bodyPost_ret (v:=(Hw ⟨#[115,101,116]⟩ GA 0 q.a ra rn rc)) (by simp[results,Tryz.results258,go_sem,I,G,F,E,D]) rfl ?_;exact HR.o _ _ _ _ _ rfl ⟨_,_,_,_,_,_,_,rfl⟩ (dp.o.box5 H.o (Nat.le_refl _) _ _ _ _ _)
theorem zU:(Tryz.prog.info? 27).map (fun i=>(i.zero,i.size,i.bytes))=some (some (.agg #[GA,GA,IU,IU,IM]),5,72):=by kernel_rfl
def OwnC (w:World) (B:Nat) (e:TypeId) (k:Nat) (v:Value) (n:Nat):Prop:=∃vs:List (List Value),w.ownsRow B e k v n vs.flatten
theorem OwnC.nil (w:World) (B:Nat) (e:TypeId) (k:Nat):OwnC w B e k IM 0:=⟨[],⟨by simp,.inl ⟨rfl,rfl⟩⟩⟩
theorem OwnC.keep {B k n:Nat} {e:TypeId} {v:Value} {S:Nat→Prop} {a:World} (h:OwnC w B e k v n) (c:Keeps S w a) (hs:∀b,v.ownBlock=some b→S b):OwnC a B e k v n:=
 let ⟨vs,h⟩:=h;⟨vs,ar h c hs⟩
theorem OwnC.but {B k n p:Nat} {e:TypeId} {v:Value} {a:World} (h:OwnC w B e k v n) (c:Keeps (·≠p) w a) (f:p<B):OwnC a B e k v n:=
 h.keep c fun b d e=>by
  obtain⟨vs,h⟩:=h;have :=(ah h d).1;omega
theorem OwnC.shape {B k n:Nat} {e:TypeId} {v:Value} (h:OwnC w B e k v n):∃s c,v=.slice s n c:=by
 obtain⟨vs,h⟩:=h;exact av h
theorem OwnC.push5 {B n:Nat} {v:Value} (h:OwnC w B 27 5 v n) (p:B≤w.heap.size) (o nm:ByteArray) (k a:Int) (f:Option Addr) (m c:Nat) (r:n≤5000):
 ∃g cap b,(Builtin.append_ #[25,25] 25 #[v,.slice (IQ w.heap.size 0) 1 1]).run Tryz.prog (w.alloc (Ht o nm k a f m c))=.ok (.slice (IQ g 0) (n+1) cap) b∧
  OwnC b B 27 5 (.slice (IQ g 0) (n+1) cap) (n+1)∧Keeps (·<B) w b:=by
 obtain⟨vs,h⟩:=h;obtain⟨g,cap,b,j,d,l,_,_⟩:=cF (P:=Tryz.prog) (k:=5) (by decide) w 25 25 27 Tryz.underlying25 zU rfl h p [.string o,.string nm,.int .i64 k,.int .i64 a,.slice f m c] rfl (by simp[Value.oneCell']) (by omega) (by decide);refine⟨g,cap,b,j,⟨_,d⟩,l.mono fun y _ q e=>?_⟩;have :=(ah h e).1;omega
theorem Goes.low {d c:World} {e:Nat} {f:Int} (h:Goes w d x v T i e er f) (h0:RAt w x v T i er pl) (k:Keeps (·<w.heap.size) d c):Goes w c x v T i e er f:=by
 obtain⟨a,h1⟩:=h.st;have hx:x<w.heap.size:=am h0.blk;exact⟨⟨a,h1.kept k hx fun b j=>h0.toks.lt b j⟩,h.le,h.er,h.kp.trans k fun y g l=>⟨l,g⟩⟩
theorem yK (f:Bool) (t:ByteArray) (B:f=true→dY x v T 258 (Id (IL x) true)) (A:f=false→dY x v T 226 #[.pointer (IQ x 0)]):
 tq x v T 225 #[.pointer (IQ x 0),.string t,.bool f]:=by
 intro w i er pl R h hR;have HR:=ae hR;have H:=ae h;have HP:=ae B;have cH:=ae A;have J:x<w.heap.size:=am h.blk;clear hR h B A;go_enter Tryz.func225,Tryz.ntmps225;go_wp2_with fail;refine ei H.o t ?_;rintro e w1 b1 V rfl _ b;have d:=ae b;have r:=b.kp.size;clear b
 cases b1 with
 |true=>
  go_wp2_with fail;exact HR.o _ _ _ _ _ _ _ rfl d.o
 |false=>
  go_wp2_with fail
  go_loopw [7] (fun l wr=>∃(n V:Nat) (e1:Int),Hid (OwnC wr w.heap.size 27 5 l n)∧n≤6∧Hid (Goes w wr x v T i V er e1)∧w.heap.size≤wr.heap.size) (fun _ wr=>ju x T.length wr)
  case atStart=>exact⟨0,V,er,ae (OwnC.nil _ _ _ _),by omega,d,r⟩
  case round=>
   clear d r;obtain⟨n,V,e1,I,fu,d,r⟩:=hrel;have Y:=bm d.o T.length;obtain⟨s0,c0,rfl⟩:=I.o.shape;obtain⟨dZ,h1⟩:=d.o.st;have z:=ae h1;have HI:Hid (V<T.length):=ae h1.at_;have c2:=xc1 h1.blk 2 rfl;clear h1;by_cases aL:e1=0
   ·subst aL;by_cases hn:n=6
    ·subst hn;go_wp2_with fail;refine dH z.o ?_;rintro e w2 rfl k2;generalize bC T V 0=q;simp only[Qk.val];have dp:=ae (z.o.same k2);have dE:=ae (d.o.same k2);clear k2 c2;go_wp2_with fail;refine cV dp.o q.a 2 (by decide) ?_;rintro e w3 u3 L rfl _ b;have y:=ae (dE.o.tr b);clear b;go_wp2_with fail;exact HR.o _ _ _ _ _ _ _ rfl y.o
    ·have fd:((n:Int)==6)=false:=by rw[beq_eq_false_iff_ne];omega
     cases f with
     |true=>
      have N:=ae (HP.o (by trivial));go_wp2_with fail;refine N.o _ _ _ _ _ z.o ?_;rintro e w3 u i3 L rfl ⟨o,nm,kk,a,ks,m,c,rfl⟩ b;have G:=ae (I.o.but b.kp J);have y:=ae (d.o.tr b);have p:=Nat.le_trans r b.kp.size;have aH:=b.le;clear b I d z r;obtain⟨g,cap,w4,X,D,k⟩:=G.o.push5 p o nm kk a ks m c (by omega);have F:=ae D;have s:=ae (y.o.low H.o k);have E:=Nat.le_trans p k.size;clear k D G y p
      go_wp2_with (at_builtin;refine ap rfl _ _ _ rfl rfl rfl X ?_;clear X)
      obtain⟨bL,h4⟩:=s.o.st;refine ei h4 _ ?_;rintro e w5 b5 i5 rfl C b;have O:=ae (F.o.but b.kp J);have j:=ae (s.o.tr b);have M:=Nat.le_trans E b.kp.size;have Z:=b.le;clear b h4 F s E
      cases b5 with
      |true=>
       obtain⟨ch,ce⟩:=C rfl;go_wp2_with fail;go_roundw
       case rel=>exact⟨n+1,i5,L,O,by omega,j,M⟩
       case measure=>rw[Y,bm j.o];have :=HI.o;omega
      |false=>
       obtain⟨a8,h5⟩:=j.o.st;have H5:=ae h5;clear h5 C;go_wp2_with fail;refine cJ H5.o _ ?_;rintro e w6 u6 i6 cE rfl b;have U:=ae (j.o.tr b);clear b;go_wp2_with fail;exact HR.o _ _ _ _ _ _ _ rfl U.o
     |false=>
      have N:=ae (cH.o (by trivial));go_wp2_with fail;refine N.o _ _ _ _ _ z.o ?_;rintro e w3 u i3 L rfl ⟨o,nm,kk,a,ks,m,c,rfl⟩ b;have G:=ae (I.o.but b.kp J);have y:=ae (d.o.tr b);have p:=Nat.le_trans r b.kp.size;have aH:=b.le;clear b I d z r;obtain⟨g,cap,w4,X,D,k⟩:=G.o.push5 p o nm kk a ks m c (by omega);have F:=ae D;have s:=ae (y.o.low H.o k);have E:=Nat.le_trans p k.size;clear k D G y p
      go_wp2_with (at_builtin;refine ap rfl _ _ _ rfl rfl rfl X ?_;clear X)
      obtain⟨bL,h4⟩:=s.o.st;refine ei h4 _ ?_;rintro e w5 b5 i5 rfl C b;have O:=ae (F.o.but b.kp J);have j:=ae (s.o.tr b);have M:=Nat.le_trans E b.kp.size;have Z:=b.le;clear b h4 F s E
      cases b5 with
      |true=>
       obtain⟨ch,ce⟩:=C rfl;go_wp2_with fail;go_roundw
       case rel=>exact⟨n+1,i5,L,O,by omega,j,M⟩
       case measure=>rw[Y,bm j.o];have :=HI.o;omega
      |false=>
       obtain⟨a8,h5⟩:=j.o.st;have H5:=ae h5;clear h5 C;go_wp2_with fail;refine cJ H5.o _ ?_;rintro e w6 u6 i6 cE rfl b;have U:=ae (j.o.tr b);clear b;go_wp2_with fail;exact HR.o _ _ _ _ _ _ _ rfl U.o
   ·have fw:(e1==0)=false:=by simp[aL]
    go_wp2_with fail;exact HR.o _ _ _ _ _ _ _ rfl d.o
theorem Fb (dZ:dY x v T 258 (Id (IL x) false)):
 dY x v T 226 #[.pointer (IQ x 0)]:=by
 intro w i er pl R h hR;have HR:=ae hR;have HP:=ae dZ;clear hR dZ;have H:=ae h;have k0:Same w (bj w):=(af _ w).alloc _;have Jc:(bj w).heap[w.heap.size]?=_:=ag w _;have H0:=ae (h.same k0);have IT:=ae k0;have IW:=ae Jc;have Jh:x<w.heap.size:=am h.blk;have n4:w.heap.size≠x:=by omega
 unfold bj at H0 IT IW;clear k0 Jc h;go_enter Tryz.func226,Tryz.ntmps226;go_wp2_with fail;generalize w.alloc _=w1 at IT IW H0⊢;refine HP.o _ _ _ _ _ H0.o ?_;rintro e w2 u i2 Je rfl ⟨o,nm,kk,a,ks,m,c,rfl⟩ l;have U:=sal w2 (Ht o nm kk a ks m c);have O:=l.kp.at IW.o n4;have Ja:w.heap.size<w2.heap.size:=am O;have I8:=ae (U.at O trivial);have I6:=ae ((Goes.of IT.o l).same U);have IS:=ae (ag w2 (Ht o nm kk a ks m c));clear l U O H0 IT IW;go_wp2_with fail;generalize w2.alloc _=w3 at I8 I6 IS⊢;generalize w2.heap.size=z at Ja IS⊢;have M:z≠x:=by omega
 have I1:w.heap.size≠z:=by omega
 go_loopw [] (fun wr=>∃(i1:Nat) (e1:Int) (o nm:ByteArray) (kk a:Int) (ks:Option Addr) (m c:Nat),Hid (Goes w wr x v T i i1 er e1)∧
  Hid (wr.heap[w.heap.size]?=(Ih GA GA 0 0 none 0 0))∧
  Hid (wr.heap[z]?=(Ih o nm kk a ks m c))) (fun wr=>ju x T.length wr)
 case atStart=>exact⟨i2,Je,o,nm,kk,a,ks,m,c,I6,I8,IS⟩
 case round=>
  clear I6 I8 IS;obtain⟨i1,e1,o,nm,kk,a,ks,m,c,If,F,bL⟩:=hrel;have I2:=bm If.o T.length;obtain⟨Jg,h1⟩:=If.o.st;have I3:=ae h1;have HI:Hid (i1<T.length):=ae h1.at_;have c2:=xc1 h1.blk 2 rfl;clear h1;by_cases Jb:e1=0
  ·subst Jb;go_wp2_with fail;refine dH I3.o ?_;rintro e w4 rfl k4;have Jd:z<w4.heap.size:=Nat.lt_of_lt_of_le (am bL.o) k4.size;obtain⟨q,hq⟩:∃q,bC T i1 0=q:=⟨_,rfl⟩;rw[hq];simp only[Qk.val];have U:=k4.alloc (Hv q.k q.t q.n q.a);have IR:=ae (ag w4 (Hv q.k q.t q.n q.a));have I4:=ae (U.at bL.o trivial);have I7:=ae (U.at F.o trivial);have I5:=ae (If.o.same U);have H5:=ae (I3.o.same U);have ny:w4.heap.size≠x:=by omega
   clear U k4 bL F If I3 c2;go_wp2_with fail;generalize w4.alloc _=w5 at IR I4 I7 I5 H5⊢;generalize w4.heap.size=y at IR Jd ny⊢;refine fZ H5.o _ ?_;rintro e w6 rfl k6;obtain⟨b1,gH⟩:∃b,decide ((bC T i1 0).k=3∧(bC T i1 0).t=Ha)=b:=⟨_,rfl⟩;rw[gH];rw[hq]at gH;have B:=ae (k6.at I4.o trivial);have p:=ae (k6.at IR.o trivial);have j:=ae (k6.at I7.o trivial);have L:=ae (I5.o.same k6);have H7:=ae (H5.o.same k6);obtain⟨e0,e1,e2⟩:=xc3 p.o rfl rfl rfl;clear k6 I4 IR I7 I5 H5
   cases b1 with
   |true=>
    have fd:q.k=3:=(of_decide_eq_true gH).1;clear gH;have dE:(bC T i1 0).k≠4:=by rw[hq,fd];decide
    go_wp2_with fail;refine bW H7.o ?_;rintro e G i8 rfl _ aH l;have I0:=aH dE;have g:=ae (l.kp.at B.o M);have aL:=ae (l.kp.at p.o ny);have cE:=ae (l.kp.at j.o n4);have J:=ae (L.o.tr l);obtain⟨dp,h8⟩:=l.st;have H8:=ae h8;obtain⟨gJ,fu⟩:∃e8:Int,e8=0:=⟨_,rfl⟩;rw[←fu]at H8 J;clear l h8 aH B p j L H7 e0 e1 e2;go_wp2_with fail;obtain⟨z0,z1,z2,z3,z4⟩:=xc5 g.o rfl rfl rfl rfl rfl;have e3:=xc1 aL.o 3 rfl;have kd:Keeps (·≠x) G G.drew:=al (af _ _);refine zq0 8 (.take 0 (.take 1 (.take 2 (.take 3 (.take 4 (.one 5 (.one 6 (.take 7 .last)))))))) (Keeps (·≠x) G) (by kernel_rfl) (by kernel_rfl) kd ?_
    iterate 5 (first|(apply aC;rfl;rfl;go_simp)|(apply aB;rfl;rfl;intro w' I;obtain⟨y0,y1,y2,y3,y4,y5⟩:=xk6 I z0 z1 z2 z3 z4 e3 M M M M M ny;go_simp;exact rfl;go_simp))
    refine aI (ay rfl rfl fun K f=>?_);go_simp;refine HP.o G.drew i8 gJ dp _ (H8.o.same (al (af _ _))) ?_;rintro e N u9 i9 gI rfl ⟨o9,X,k9,a9,Y,m9,c9,rfl⟩ l;have Z:Keeps (·≠x) G N:=kd.tr l.kp;refine f (Keeps (·≠x) G) _ _ Z (fun _ h=>h) ?_;clear f K z0 z1 z2 z3 z4 e3;have ce:=ae ((J.o.same (al (af _ _))).tr l);have ch:=ae (Z.at cE.o n4);have a8:=ae (Z.at g.o M);have IZ:=l.le;clear l J cE g aL H8;refine aI (ay rfl rfl fun K f=>?_);go_simp;refine f (Keeps (·≠x) G) _ _ (Z.alloc _) (fun _ h=>h) ?_;clear f K;have C:=sal N (Iw o nm kk a ks m c o9 X k9 a9 Y m9 c9);have s:=ae (ce.o.same C);have A:=ae (C.at ch.o trivial);have d:=ae (C.at a8.o trivial);clear C ce ch a8 Z;generalize N.alloc _=V at s A d⊢;generalize N.heap.size=bk
    iterate 1 (first|(apply aC;rfl;rfl;go_simp)|(apply aB;rfl;rfl;intro w' I;go_simp;exact rfl;go_simp))
    obtain⟨d0,d1,d2,d3,d4⟩:=xc5 d.o rfl rfl rfl rfl rfl;obtain⟨g0,g1,g2,g3,g4⟩:=xf5 d.o;refine aO rfl rfl fun K f=>?_;go_simp;refine f _ _ (aG ?_);clear f K d0 d1 d2 d3 d4 g0 g1 g2 g3 g4;have D:=ae (bT d.o (.string q.t) (.string GA) IU (IP q.a) (.slice (IQ bk 0) 2 2));have E:=ae ((bq V z (.string q.t) (.string GA) IU (IP q.a) (.slice (IQ bk 0) 2 2)).at A.o I1);have r:=ae (s.o.box5 H.o (show w.heap.size≤z by omega) (.string q.t) (.string GA) IU (IP q.a) (.slice (IQ bk 0) 2 2));clear s A d;generalize((((V.setCell ⟨z,0,none⟩ (.string q.t)).setCell ⟨z,1,none⟩ (.string GA)).setCell ⟨z,2,none⟩ IU).setCell ⟨z,3,none⟩ (IP q.a)).setCell ⟨z,4,none⟩ (.slice (IQ bk 0) 2 2)=I9 at D E r⊢;go_wp2_with fail;go_roundw
    case rel=>exact⟨i9,gI,_,_,_,_,_,_,_,r,E,D⟩
    case measure=>rw[I2,bm r.o];have :=HI.o;omega
   |false=>
    clear gH;go_wp2_with fail;refine fZ H7.o _ ?_;rintro e w7 rfl k7;obtain⟨b2,O⟩:∃b,decide ((bC T i1 0).k=3∧(bC T i1 0).t=Hb)=b:=⟨_,rfl⟩;rw[O];rw[hq]at O;replace B:=ae (aM k7 B.o trivial);replace p:=ae (aM k7 p.o trivial);replace j:=ae (aM k7 j.o trivial);replace L:=ae (Goes.same L.o k7);replace H7:=ae (cG H7.o k7);replace e0:=ai p.o 0;replace e1:=ai p.o 1;replace e2:=ai p.o 2;simp only[List.getElem?_toArray,List.getElem?_cons_zero,List.getElem?_cons_succ]at e0 e1 e2;clear k7
    cases b2 with
    |true=>
     have fd:q.k=3:=(of_decide_eq_true O).1;clear O;have dE:(bC T i1 0).k≠4:=by rw[hq,fd];decide
     go_wp2_with fail;refine bW H7.o ?_;rintro e G i8 rfl _ aH l;have I0:=aH dE;have g:=ae (l.kp.at B.o M);have aL:=ae (l.kp.at p.o ny);have cE:=ae (l.kp.at j.o n4);have J:=ae (L.o.tr l);obtain⟨dp,h8⟩:=l.st;have H8:=ae h8;obtain⟨gJ,fu⟩:∃e8:Int,e8=0:=⟨_,rfl⟩;rw[←fu]at H8 J;clear l h8 aH B p j L H7 e0 e1 e2;go_wp2_with fail;obtain⟨z0,z1,z2,z3,z4⟩:=xc5 g.o rfl rfl rfl rfl rfl;have e3:=xc1 aL.o 3 rfl;have kd:Keeps (·≠x) G G.drew:=al (af _ _);refine zq0 8 (.take 0 (.take 1 (.take 2 (.take 3 (.take 4 (.one 5 (.one 6 (.take 7 .last)))))))) (Keeps (·≠x) G) (by kernel_rfl) (by kernel_rfl) kd ?_
     iterate 5 (first|(apply aC;rfl;rfl;go_simp)|(apply aB;rfl;rfl;intro w' I;obtain⟨y0,y1,y2,y3,y4,y5⟩:=xk6 I z0 z1 z2 z3 z4 e3 M M M M M ny;go_simp;exact rfl;go_simp))
     refine aI (ay rfl rfl fun K f=>?_);go_simp;refine HP.o G.drew i8 gJ dp _ (H8.o.same (al (af _ _))) ?_;rintro e N u9 i9 gI rfl ⟨o9,X,k9,a9,Y,m9,c9,rfl⟩ l;have Z:Keeps (·≠x) G N:=kd.tr l.kp;refine f (Keeps (·≠x) G) _ _ Z (fun _ h=>h) ?_;clear f K z0 z1 z2 z3 z4 e3;have ce:=ae ((J.o.same (al (af _ _))).tr l);have ch:=ae (Z.at cE.o n4);have a8:=ae (Z.at g.o M);have IZ:=l.le;clear l J cE g aL H8;refine aI (ay rfl rfl fun K f=>?_);go_simp;refine f (Keeps (·≠x) G) _ _ (Z.alloc _) (fun _ h=>h) ?_;clear f K;have C:=sal N (Iw o nm kk a ks m c o9 X k9 a9 Y m9 c9);have s:=ae (ce.o.same C);have A:=ae (C.at ch.o trivial);have d:=ae (C.at a8.o trivial);clear C ce ch a8 Z;generalize N.alloc _=V at s A d⊢;generalize N.heap.size=bk
     iterate 1 (first|(apply aC;rfl;rfl;go_simp)|(apply aB;rfl;rfl;intro w' I;go_simp;exact rfl;go_simp))
     obtain⟨d0,d1,d2,d3,d4⟩:=xc5 d.o rfl rfl rfl rfl rfl;obtain⟨g0,g1,g2,g3,g4⟩:=xf5 d.o;refine aO rfl rfl fun K f=>?_;go_simp;refine f _ _ (aG ?_);clear f K d0 d1 d2 d3 d4 g0 g1 g2 g3 g4;have D:=ae (bT d.o (.string q.t) (.string GA) IU (IP q.a) (.slice (IQ bk 0) 2 2));have E:=ae ((bq V z (.string q.t) (.string GA) IU (IP q.a) (.slice (IQ bk 0) 2 2)).at A.o I1);have r:=ae (s.o.box5 H.o (show w.heap.size≤z by omega) (.string q.t) (.string GA) IU (IP q.a) (.slice (IQ bk 0) 2 2));clear s A d;generalize((((V.setCell ⟨z,0,none⟩ (.string q.t)).setCell ⟨z,1,none⟩ (.string GA)).setCell ⟨z,2,none⟩ IU).setCell ⟨z,3,none⟩ (IP q.a)).setCell ⟨z,4,none⟩ (.slice (IQ bk 0) 2 2)=I9 at D E r⊢;go_wp2_with fail;go_roundw
     case rel=>exact⟨i9,gI,_,_,_,_,_,_,_,r,E,D⟩
     case measure=>rw[I2,bm r.o];have :=HI.o;omega
    |false=>
     clear O;go_wp2_with fail;refine fZ H7.o _ ?_;rintro e Jf rfl cH;obtain⟨b3,fw⟩:∃b,decide ((bC T i1 0).k=3∧(bC T i1 0).t=⟨#[92]⟩)=b:=⟨_,rfl⟩;rw[fw];rw[hq]at fw;replace B:=ae (aM cH B.o trivial);replace p:=ae (aM cH p.o trivial);replace j:=ae (aM cH j.o trivial);replace L:=ae (Goes.same L.o cH);replace H7:=ae (cG H7.o cH);replace e0:=ai p.o 0;replace e1:=ai p.o 1;replace e2:=ai p.o 2;simp only[List.getElem?_toArray,List.getElem?_cons_zero,List.getElem?_cons_succ]at e0 e1 e2;clear cH
     cases b3 with
     |true=>
      have fd:q.k=3:=(of_decide_eq_true fw).1;clear fw;have dE:(bC T i1 0).k≠4:=by rw[hq,fd];decide
      go_wp2_with fail;refine bW H7.o ?_;rintro e G i8 rfl _ aH l;have I0:=aH dE;have g:=ae (l.kp.at B.o M);have aL:=ae (l.kp.at p.o ny);have cE:=ae (l.kp.at j.o n4);have J:=ae (L.o.tr l);obtain⟨dp,h8⟩:=l.st;have H8:=ae h8;obtain⟨gJ,fu⟩:∃e8:Int,e8=0:=⟨_,rfl⟩;rw[←fu]at H8 J;clear l h8 aH B p j L H7 e0 e1 e2;go_wp2_with fail;obtain⟨z0,z1,z2,z3,z4⟩:=xc5 g.o rfl rfl rfl rfl rfl;have e3:=xc1 aL.o 3 rfl;have kd:Keeps (·≠x) G G.drew:=al (af _ _);refine zq0 8 (.take 0 (.take 1 (.take 2 (.take 3 (.take 4 (.one 5 (.one 6 (.take 7 .last)))))))) (Keeps (·≠x) G) (by kernel_rfl) (by kernel_rfl) kd ?_
      iterate 5 (first|(apply aC;rfl;rfl;go_simp)|(apply aB;rfl;rfl;intro w' I;obtain⟨y0,y1,y2,y3,y4,y5⟩:=xk6 I z0 z1 z2 z3 z4 e3 M M M M M ny;go_simp;exact rfl;go_simp))
      refine aI (ay rfl rfl fun K f=>?_);go_simp;refine HP.o G.drew i8 gJ dp _ (H8.o.same (al (af _ _))) ?_;rintro e N u9 i9 gI rfl ⟨o9,X,k9,a9,Y,m9,c9,rfl⟩ l;have Z:Keeps (·≠x) G N:=kd.tr l.kp;refine f (Keeps (·≠x) G) _ _ Z (fun _ h=>h) ?_;clear f K z0 z1 z2 z3 z4 e3;have ce:=ae ((J.o.same (al (af _ _))).tr l);have ch:=ae (Z.at cE.o n4);have a8:=ae (Z.at g.o M);have IZ:=l.le;clear l J cE g aL H8;refine aI (ay rfl rfl fun K f=>?_);go_simp;refine f (Keeps (·≠x) G) _ _ (Z.alloc _) (fun _ h=>h) ?_;clear f K;have C:=sal N (Iw o nm kk a ks m c o9 X k9 a9 Y m9 c9);have s:=ae (ce.o.same C);have A:=ae (C.at ch.o trivial);have d:=ae (C.at a8.o trivial);clear C ce ch a8 Z;generalize N.alloc _=V at s A d⊢;generalize N.heap.size=bk
      iterate 1 (first|(apply aC;rfl;rfl;go_simp)|(apply aB;rfl;rfl;intro w' I;go_simp;exact rfl;go_simp))
      obtain⟨d0,d1,d2,d3,d4⟩:=xc5 d.o rfl rfl rfl rfl rfl;obtain⟨g0,g1,g2,g3,g4⟩:=xf5 d.o;refine aO rfl rfl fun K f=>?_;go_simp;refine f _ _ (aG ?_);clear f K d0 d1 d2 d3 d4 g0 g1 g2 g3 g4;have D:=ae (bT d.o (.string G9) (.string GA) IU (IP q.a) (.slice (IQ bk 0) 2 2));have E:=ae ((bq V z (.string G9) (.string GA) IU (IP q.a) (.slice (IQ bk 0) 2 2)).at A.o I1);have r:=ae (s.o.box5 H.o (show w.heap.size≤z by omega) (.string G9) (.string GA) IU (IP q.a) (.slice (IQ bk 0) 2 2));clear s A d;generalize((((V.setCell ⟨z,0,none⟩ (.string G9)).setCell ⟨z,1,none⟩ (.string GA)).setCell ⟨z,2,none⟩ IU).setCell ⟨z,3,none⟩ (IP q.a)).setCell ⟨z,4,none⟩ (.slice (IQ bk 0) 2 2)=I9 at D E r⊢;go_wp2_with fail;go_roundw
      case rel=>exact⟨i9,gI,_,_,_,_,_,_,_,r,E,D⟩
      case measure=>rw[I2,bm r.o];have :=HI.o;omega
     |false=>
      clear fw;have z0:=ai B.o 0;have z1:=ai B.o 1;have z2:=ai B.o 2;have z3:=ai B.o 3;have z4:=ai B.o 4;obtain⟨d0,d1,d2,d3,d4⟩:=xc5 j.o rfl rfl rfl rfl rfl;obtain⟨g0,g1,g2,g3,g4⟩:=xf5 j.o;simp only[List.getElem?_toArray,List.getElem?_cons_zero,List.getElem?_cons_succ]at z0 z1 z2 z3 z4;clear e0 e1 e2;go_wp2_with fail;refine bodyPost_ret (v:=(Hw o nm kk a ks m c)) (by simp[results,Tryz.results226,go_sem,d0,d1,d2,d3,d4]) rfl ?_;exact HR.o _ _ _ _ _ rfl ⟨_,_,_,_,_,_,_,rfl⟩ (L.o.box5 H.o (Nat.le_refl _) _ _ _ _ _)
  ·have Ji:(e1==0)=false:=by simp[Jb]
   obtain⟨z0,z1,z2,z3,z4⟩:=xc5 bL.o rfl rfl rfl rfl rfl;obtain⟨d0,d1,d2,d3,d4⟩:=xc5 F.o rfl rfl rfl rfl rfl;obtain⟨g0,g1,g2,g3,g4⟩:=xf5 F.o;go_wp2_with fail;refine bodyPost_ret (v:=(Hw o nm kk a ks m c)) (by simp[results,Tryz.results226,go_sem,d0,d1,d2,d3,d4]) rfl ?_;exact HR.o _ _ _ _ _ rfl ⟨_,_,_,_,_,_,_,rfl⟩ (If.o.box5 H.o (Nat.le_refl _) _ _ _ _ _)
end
end Go.Proofs.YtojegnbejmeehaaGreatDoor
