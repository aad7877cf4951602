/- Helpers of the proof of TopNames. -/
import Derived.Test.YtojegnbejmeehaaGreatDoorJBK
import Derived.Test.YtojegnbejmeehaaGreatDoorJBS
namespace Go.Proofs.YtojegnbejmeehaaGreatDoor
open Go.RowKit
set_option maxRecDepth 10000
set_option maxHeartbeats 16000000
set_option linter.all false
section
attribute [local irreducible] wpQuiet ax au aQ
variable {R:Ending→World→Prop} {w:World}
theorem vq (d:∀e a,e=.returned (IL w.heap.size)→MeterAt a w.heap.size 401 false→Same w a→R e a):Calls Tryz.prog 159 #[] w R:=by
 have h:=ae d;clear d;go_enter Tryz.func159,Tryz.ntmps159;go_wp2_with fail;refine lY 401 ?_;rintro e i rfl b c;have f:=ae b;have g:=ae c;clear b c;go_wp2_with fail;exact h.o _ _ rfl f.o g.o
def pR (t:Co) (n:Nat) (As:List Au) (A':Au):Prop:=
 ∀(w:World) (z:Nat) (v lv:Value) (ds:List Nat) (R:Ending→World→Prop),CoR w v t→w.ownsRow z 98 1 lv t.kids.length (ds.map BA)→ds.length=t.kids.length→(∀(j d:Nat) (A:Au),ds[j]?=some d→As[j]?=some A→DFAAt w z d A)→
  (∀e w' d,e=.returned (.tuple (Ia (IL d) 0))→DFAAt w' w.heap.size d A'→Same w w'→R e w')→
  Calls Tryz.prog 107 #[v,IP n,lv] w R
theorem oX {z k c:Nat} {s:Option Addr} {b:List Nat} (h:w.ownsRow z 98 1 (.slice s k c) k (b.map BA)) (l:0<k):∃g,s=some ⟨g,0,none⟩∧k≤c∧∀j d,b[j]?=some d→w.cell? ⟨g,j,none⟩=some (IL d):=by
 rcases h.2 with⟨_,h0⟩|⟨g,cap,i,a,_,_,e,_⟩
 ·omega
 ·simp at a;obtain⟨rfl,rfl⟩:=a;refine⟨g,rfl,e,fun j d f=>?_⟩;rw[show(⟨g,j,none⟩:Addr)=(⟨g,0,none⟩:Addr).add j by by_cases h0:j=0<;>simp[Addr.add,h0]];exact World.ownsRow.cells h (g:=g) rfl j _ (by rw[List.getElem?_map,f];rfl)
theorem EZ {k:Co} {n:Nat} {A:Au}:pR (.one GJ 0 k) n [A] (nv A):=by
 intro w z v D l R hv a i q p;have y:=ae p;clear p;obtain⟨ka,kc,rfl,h,o,_⟩:=hv.open;simp only[Co.op,Co.va,Co.vb,Co.vc,Co.vn,Co.kids,List.length_cons,List.length_nil,Nat.zero_add]at h a i⊢;obtain⟨f,rfl⟩:∃f,l=[f]:=by rcases l with _|⟨f,_|⟨F,l⟩⟩<;>simp at i;exact⟨f,rfl⟩
 obtain⟨s,c,rfl⟩:=av a;obtain⟨g,rfl,E,b⟩:=oX a (by omega);have r:=b 0 f rfl;have d:=sal w (Hu GJ 0 0 0 0 ka 1 kc);have t:=ai (ag w (Hu GJ 0 0 0 0 ka 1 kc)) 0;simp only[List.getElem?_toArray,List.getElem?_cons_zero]at t;have C:=ae ((q 0 f A rfl rfl).same d);have G:=d.cell r trivial;have j:=ae d;clear q a b r d hv;go_enter Tryz.func107,Tryz.ntmps107;go_wp2_with fail;refine Ev C.o ?_;rintro e u x rfl h2 m;have B:=ae (y.o _ u x rfl (h2.below j.o.size) (j.o.tr m));clear h2 m;go_wp2_with fail;exact B.o
theorem E1 {k l:Co} {n:Nat} {A B:Au} (O:A.T=B.T) (M:A.acc.length*B.acc.length≤400):pR (.two GD k l) n [A,B] (fS A B 8):=by
 intro w z v lv G R hv d u F U;have HR:=ae U;clear U;obtain⟨ka,kc,rfl,t,N,_⟩:=hv.open;simp only[Co.op,Co.va,Co.vb,Co.vc,Co.vn,Co.kids,List.length_cons,List.length_nil,Nat.zero_add,Nat.reduceAdd]at t d u⊢;obtain⟨q,p,rfl⟩:∃q p,G=[q,p]:=by rcases G with _|⟨q,_|⟨p,_|⟨d2,G⟩⟩⟩<;>simp at u;exact⟨q,p,rfl⟩
 obtain⟨s,c,rfl⟩:=av d;obtain⟨g,rfl,hc,a⟩:=oX d (by omega);have Y:=a 0 q rfl;have X:=a 1 p rfl;have f:=sal w (Hu GD 0 0 0 0 ka 2 kc);have I:=ai (ag w (Hu GD 0 0 0 0 ka 2 kc)) 0;simp only[List.getElem?_toArray,List.getElem?_cons_zero]at I;have y:=ae ((F 0 q A rfl rfl).same f);have x:=ae ((F 1 p B rfl rfl).same f);have H:=ae (And.intro (f.cell Y trivial) (f.cell X trivial));have o:=ae f;have HP:=ae M;have HT:=ae O;clear F d a Y X f hv M O;go_enter Tryz.func107,Tryz.ntmps107;go_wp2_with fail;generalize w.alloc _=j at y x H o I⊢;have r:Same j j.drew:=al (af (fun _=>True) j);refine az (.take 0 (.take 1 (.take 2 (.take 3 (.take 4 (.take 5 (.one 6 (.one 7 (.take 8 (.take 9 (.take 10 (.take 11 .done)))))))))))) (Same j) (by kernel_rfl) (by kernel_rfl) r ?_
 iterate 6 (first|(apply aF;rfl;rfl;go_simp)|(apply aD;rfl;rfl;intro Z E;have s0:=ak E H.o.1 trivial;have s1:=ak E H.o.2 trivial;go_simp;exact rfl;go_simp))
 refine aP (ay rfl rfl fun K i=>?_);go_simp;refine vq ?_;rintro e w2 rfl J D;refine i (Same j) _ _ (r.tr D) (fun _ h=>h) ?_;clear i K;refine aP (ay rfl rfl fun K i=>?_);go_simp;refine BF y.o x.o (r.tr D) HT.o 8 (by decide) J (r.size) (by omega) (by omega) ?_ ?_
 ·rintro e C d' rfl V L;have m:Same j C:=L.trans (af (fun _=>True) C) fun b hb _=>⟨hb,trivial⟩;refine i (Same j) _ _ m (fun _ h=>h) ?_;clear i K;have HF:=ae (HR.o _ C d' rfl (V.below o.o.size) (o.o.tr m));clear V L m J D r
  iterate 4 (first|(apply aF;rfl;rfl;go_simp)|(apply aD;rfl;rfl;intro Z E;go_simp;exact rfl;go_simp))
  refine aW ?_;go_wp2_with fail;exact HF.o
 ·intro hl
  exfalso
  have :=HP.o;omega
theorem FT {k:Co} {n:Nat} {A:Au} (I:A.T=(n:Int)+1) (X:n≤5) (hs:A.acc.length≤99) (H:(cA A n 400).2.length=(cA A n 400).1.length) (j:(cA A n 400).1.length≤400):pR (.one GB (n:Int) k) n [A] (eR A n 400):=by
 intro w z v lv B R hv a t M L;have HR:=ae L;clear L;obtain⟨ka,kc,rfl,r,G,_⟩:=hv.open;simp only[Co.op,Co.va,Co.vb,Co.vc,Co.vn,Co.kids,List.length_cons,List.length_nil,Nat.zero_add,Nat.reduceAdd]at r a t⊢;obtain⟨p,rfl⟩:∃p,B=[p]:=by rcases B with _|⟨p,_|⟨d1,B⟩⟩<;>simp at t;exact⟨p,rfl⟩
 obtain⟨s,c,rfl⟩:=av a;obtain⟨g,rfl,hc,d⟩:=oX a (by omega);have O:=d 0 p rfl;have i:=sal w (Hu GB n 0 0 0 ka 1 kc);have D:=ai (ag w (Hu GB n 0 0 0 ka 1 kc)) 0;simp only[List.getElem?_toArray,List.getElem?_cons_zero]at D;have u:=ae ((M 0 p A rfl rfl).same i);have U:=ae (i.cell O trivial);have o:=ae i;have C:=ae (And.intro hs (And.intro H j));have HT:=ae I;clear M a d O i hv hs H j I;go_enter Tryz.func107,Tryz.ntmps107;go_wp2_with fail;generalize w.alloc _=l at u U o D⊢;have q:Same l l.drew:=al (af (fun _=>True) l);refine az (.take 0 (.take 1 (.take 2 (.take 3 (.one 4 (.one 5 (.take 6 (.take 7 (.take 8 (.take 9 .done)))))))))) (Same l) (by kernel_rfl) (by kernel_rfl) q ?_
 iterate 4 (first|(apply aF;rfl;rfl;go_simp)|(apply aD;rfl;rfl;intro V J;have s0:=ak J U.o trivial;go_simp;exact rfl;go_simp))
 refine aP (ay rfl rfl fun K f=>?_);go_simp;refine vq ?_;rintro e w2 rfl E y;refine f (Same l) _ _ (q.tr y) (fun _ h=>h) ?_;clear f K;refine aP (ay rfl rfl fun K f=>?_);go_simp;refine tQ u.o (q.tr y) q.size HT.o X C.o.1 C.o.2.1 C.o.2.2 E ?_;rintro e x Z rfl N F;have m:Same l x:=F.trans (af (fun _=>True) x) fun b Y _=>⟨Y,trivial⟩;refine f (Same l) _ _ m (fun _ h=>h) ?_;clear f K;have HF:=ae (HR.o _ x Z rfl (N.below o.o.size) (o.o.tr m));clear N F m E y q
 iterate 4 (first|(apply aF;rfl;rfl;go_simp)|(apply aD;rfl;rfl;intro V J;go_simp;exact rfl;go_simp))
 refine aW ?_;go_wp2_with fail;exact HF.o
theorem Cc (o:AOp):(o.name.toList==[110,111,116])=false∧(o.name.toList==[97,110,100])=false:=by
 rw[ByteArray.toList_eq];cases o<;>exact⟨rfl,rfl⟩
theorem CH {o:AOp} {A B C N n:Nat} (U:N≤20) (T:n≤6) (k:aE o A B C N n 0):pR (.leaf o.name A B C N) n [] (ew o N A B C n|>dV):=by
 intro w z v lv ds R hv b u V L;have M:=ae L;clear L;obtain⟨ka,kc,rfl,t⟩:=hv;obtain⟨s,c,rfl⟩:=av b;simp only[Co.kids,List.length_nil]at b u⊢;have l:=sal w (Hu o.name A B C N ka 0 kc);have a:=ag w (Hu o.name A B C N ka 0 kc);obtain⟨I,H,G,F,E,D⟩:=xc6 a rfl rfl rfl rfl rfl rfl;have i:=ae l;have HF:=ae k;have f:∀j (x:Nat),bB o (n:Int) j (x:Int)→x≤6:=fun j x h=>by unfold bB at h;split at h<;>omega
 have d:A≤6∧B≤6∧C≤6:=⟨f 0 A k.2.2.2.2.1,f 1 B k.2.2.2.2.2.1,f 2 C k.2.2.2.2.2.2⟩;have r:o.name.size≤maxLen:=by cases o<;>decide
 have m:Hid (CoreIn (w.alloc (Hu o.name A B C N ka 0 kc)) 1 (Ib o.name A B C N ka 0 kc)):=ae
  ⟨o.name,A,B,C,N,ka,0,kc,rfl,⟨by constructor<;>omega,by constructor<;>omega,by constructor<;>omega,by constructor<;>omega,r,Nat.zero_le _,t⟩,.inl rfl⟩
 have g:=ae (fun(w:World) (R:Ending→World→Prop)=>xT (R:=R) (w:=w) (o:=o) (A:=A) (B:=B) (C:=C) (N:=N) (n:=n) (h:=1) (ka:=ka) (kc:=kc) U T d.1 d.2.1 d.2.2 k);have hx1:=nW o;obtain⟨q,p⟩:=Cc o;generalize dV (ew o N A B C n)=Z at M g⊢;generalize o.name=Y at i m g I H G F E D hx1 q p⊢;clear V b l a k;go_enter Tryz.func107,Tryz.ntmps107;go_wp2_with fail;refine g.o _ _ m.o ?_;rintro e O X rfl h2 J;have y:=ae (M.o _ O X rfl (h2.below i.o.size) (i.o.tr J));clear h2 J;go_wp2_with fail;exact y.o
theorem mj {t:Co} {n n':Nat} {ex:Bool} {cs:List Nat} {As:List Au} {A' Z:Au} (aH:cs.length=t.kids.length) (E:As.length=t.kids.length) (aL:t.kids.length≤2)
 (hK:∀i (h:i<t.kids.length),pU t.kids[i] n' (cs[i]'(by omega)) (As[i]'(by omega))) (hx:(t.op.toList==[101,120])=ex) (C:n'=if ex then n+1 else n) (hn:n≤6) (hJ:pR t n As A') (hZ:dV A'=Z):
 pU t n (cs.sum+Z.acc.length) Z:=by
 intro w v m left R hv Y gI D hR;have HR:=ae hR;have cE:=ae hK;have HJ:=ae hJ;have HX:=ae (And.intro hx C);clear hR hK hJ hx C;obtain⟨ka,kc,rfl,dE,F,_⟩:=hv.openG;have k:=sal w (Hu t.op t.va t.vb t.vc t.vn ka t.kids.length kc);have c:=ae k;have a:=ae (ag w (Hu t.op t.va t.vb t.vc t.vn ka t.kids.length kc));have l:=ae (hv.same k);have o:=ae (show MeterAt _ m left false from k.at Y trivial);have gH:m<w.heap.size:=am Y;unfold maxLen at F;clear hv Y k;generalize z:t.kids.length=J at c l a o⊢;have p:=ae z;have dZ:J≤2:=by omega
 clear z;generalize B:t.op=t0 at c l a o⊢;generalize X:t.va=t1 at c l a o⊢;generalize V:t.vb=t2 at c l a o⊢;generalize U:t.vc=t3 at c l a o⊢;generalize T:t.vn=t4 at c l a o⊢;have gJ:=ae B;clear B X V U T;obtain⟨y,x,u,s,r,q⟩:=xc6 a.o rfl rfl rfl rfl rfl rfl;go_enter Tryz.func64,Tryz.ntmps64;go_wp2_with fail;generalize w.alloc _=w1 at c l a o y x u s r q⊢;refine DF l.o o.o aH E aL cE.o HX.o.1 HX.o.2 hn (by omega) D ?_;rintro e w2 lv ds rfl f D2 m2 I;rw[p.o]at f;have g:=I.at a.o (show w.heap.size≠m by omega);have a8:=ae (l.o.kept I fun b hb=>hb);have bL:=ae f;have dp:=ae D2;have ch:=ae m2;have H:=ae (Keeps.same_tr c.o I);have fw:=c.o.size;clear y x u s r q;obtain⟨y,x,u,s,r,q⟩:=xc6 g rfl rfl rfl rfl rfl rfl;have G:ds.length=J:=by have :=f.1;rw[List.length_map,Nat.mul_one]at this;exact this
 have cH:=ae G;obtain⟨sl,cl,rfl⟩:=av f;clear f D2 m2 I g G;go_wp2_with fail;refine HJ.o _ w1.heap.size _ _ ds _ (em (fun _ _ _=>trivial) a8.o) (by rw[p.o];exact bL.o) (by rw[p.o];exact cH.o) (fun j d A hd hA=>?_) ?_
 ·have hj:j<t.kids.length:=by rw[←E];exact(List.getElem?_eq_some_iff.1 hA).1
  have :=dp.o j hj d hd;rw[List.getElem?_eq_getElem (by omega)]at hA;rw[Option.some.inj hA]at this;exact this
 rintro e w3 d3 rfl h3 O;have H3:=ae h3;have K3:=ae O;have fu:=H.o.size;have fd:=O.size;clear h3 O y x u s r q;go_wp2_with fail;refine Ce H3.o ?_;rintro e w4 d4 rfl h4 N;rw[hZ]at h4;have H4:=ae h4;have K4:=ae N;have ce:Hid (MeterAt w4 m (left -(cs.sum:Int)) false):=ae (N.at (K3.o.at ch.o trivial) trivial);clear h4 N;go_wp2_with fail;refine iq H4.o ?_;rintro e rfl;go_wp2_with fail;refine Bq (Z.acc.length:Int) ce.o (by have :=H4.o.ok.1.2.2.2.1;omega) (by omega) (by omega) ?_;rintro e w5 rfl L M;rw[show fg (left -(cs.sum:Int)) (Z.acc.length:Int) false=true by simp[fg];omega];rw[show cY (left -(cs.sum:Int)) (Z.acc.length:Int) false=left -((cs.sum+Z.acc.length:Nat):Int) by unfold cY;rw[if_neg (by simp),if_pos (by omega)];omega,show dy (left -(cs.sum:Int)) (Z.acc.length:Int) false=false by simp[dy];omega]at L;have HF:=ae (HR.o _ w5 d4 rfl ((H4.o.keep M fun b hb _=>by omega).below (by omega)) L ((((H.o.tr_same K3.o).tr_same K4.o)).tr M));clear L M;go_wp2_with fail;exact HF.o
theorem CoAu.six {t:Co} {n c:Nat} {A:Au} (h:CoAu t n c A):n≤6:=by
 induction h with
 |leaf o A B C N n Z hN hn hF h h2=>exact hn
 |not k n c A Z hk h ih=>exact ih
 |ex k n c A Z hn hT hk hs hc h ih=>omega
 |and k l n c d A B Z hk hl hT hp h ih1 ih2=>exact ih1
theorem vt {t:Co} {n c:Nat} {A:Au} (h:CoAu t n c A):pU t n c A:=by
 induction h with
 |leaf o A B C N n Z hN hn hF h h2=>
  have :=mj (t:=.leaf o.name A B C N) (n:=n) (n':=n) (ex:=false) (cs:=[]) (As:=[]) (A':=dV (ew o N A B C n)) (Z:=Z) rfl rfl (by simp[Co.kids]) (fun i h=>absurd h (Nat.not_lt_zero _)) (nW o) rfl hn (CH hN hn hF) (by rw[h];exact h2)
  simpa using this
 |not k n c A Z hk h ih=>
  have :=mj (t:=.one GJ 0 k) (n:=n) (n':=n) (ex:=false) (cs:=[c]) (As:=[A]) (A':=nv A) (Z:=Z) rfl rfl (by simp[Co.kids]) (fun i h=>by
   match i,h with
   |0,_=>exact ih) Dq rfl hk.six EZ h
  simpa using this
 |ex k n c A Z hn hT hk hs hc h ih=>
  have :=mj (t:=.one GB n k) (n:=n) (n':=n+1) (ex:=true) (cs:=[c]) (As:=[A]) (A':=eR A n 400) (Z:=Z) rfl rfl (by simp[Co.kids]) (fun i h=>by
   match i,h with
   |0,_=>exact ih) Fz rfl (by omega) (FT hT (by omega) hs hc.1 hc.2) h
  simpa using this
 |and k l n c d A B Z hk hl hT hp h ih1 ih2=>
  have :=mj (t:=.two GD k l) (n:=n) (n':=n) (ex:=false) (cs:=[c,d]) (As:=[A,B]) (A':=fS A B 8) (Z:=Z) rfl rfl (by simp[Co.kids]) (fun i h=>by
   match i,h with
   |0,_=>exact ih1
   |1,_=>exact ih2) Dr rfl hk.six (E1 hT hp) h
  simpa using this
theorem mn {t:Co} {n c m:Nat} {A:Au} {left:Int} {v:Value} (h:CoAu t n c A) (I:t.size≤2000) (hv:CoIn (·≠m) w v t) (J:MeterAt w m left false) (L:(c:Int)≤left) (o:left≤2000000000)
 (V:∀e C d,e=.returned (.tuple (Ia (IL d) 0))→DFAAt C w.heap.size d A→MeterAt C m (left -c) false→Keeps (·≠m) w C→R e C):
 Calls Tryz.prog 38 #[v,IP n,.pointer (IQ m 0)] w R:=by
 have HR:=ae V;have HC:=ae (vt h);have N:=ae h.ok;have h6:=h.six;clear V h;obtain⟨ka,kc,rfl,q,p,_⟩:=hv.openG;have g:=sal w (Hu t.op t.va t.vb t.vc t.vn ka t.kids.length kc);have f:=ae g;have a:=ae (ag w (Hu t.op t.va t.vb t.vc t.vn ka t.kids.length kc));have i:=ae (hv.same g);have j:=ae (show MeterAt _ m left false from g.at J trivial);have Z:m<w.heap.size:=am J;unfold maxLen at p;clear hv J g;generalize H:t.kids.length=tl at f i a j q⊢;clear H;generalize l:t.op=t0 at f i a j⊢;generalize G:t.va=t1 at f i a j⊢;generalize F:t.vb=t2 at f i a j⊢;generalize E:t.vc=t3 at f i a j⊢;generalize D:t.vn=t4 at f i a j⊢;have aH:=ae l;clear l G F E D;obtain⟨B,z,y,x,u,s⟩:=xc6 a.o rfl rfl rfl rfl rfl rfl;go_enter Tryz.func38,Tryz.ntmps38;go_wp2_with fail;refine Fk (em (fun _ _ _=>trivial) i.o) I h6 N.o ?_;rintro e w2 rfl k;have M:=ae (i.o.same k);have O:=ae (k.at j.o trivial);have r:=ae (f.o.tr k);have b:=k.at a.o trivial;clear B z y x u s;obtain⟨B,z,y,x,u,s⟩:=xc6 b rfl rfl rfl rfl rfl rfl;clear k b;go_wp2_with fail;refine HC.o _ _ _ _ _ M.o O.o L o ?_;rintro e Y d3 rfl X T U;have HF:=ae (HR.o _ Y d3 rfl (X.below r.o.size) T (Keeps.same_tr r.o U));clear X T U;go_wp2_with fail;exact HF.o
end
end Go.Proofs.YtojegnbejmeehaaGreatDoor
