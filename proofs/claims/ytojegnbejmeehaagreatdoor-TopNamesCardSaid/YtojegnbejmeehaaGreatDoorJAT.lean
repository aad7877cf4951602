/- Helpers of the proof of TopNames. -/
import Derived.Test.YtojegnbejmeehaaGreatDoorJAP
import Derived.Test.YtojegnbejmeehaaGreatDoorJAS
namespace Go.Proofs.YtojegnbejmeehaaGreatDoor
open Go.RowKit
set_option maxRecDepth 10000
set_option maxHeartbeats 16000000
set_option linter.all false
section
attribute [local irreducible] wpQuiet ax au aQ
variable {R:Ending→World→Prop} {w:World} {x n:Nat} {v:Value} {rs:List Nat}
theorem EX {r:Nat} (h:cd r=true):cls r=1:=by unfold cls;rw[if_pos h]
theorem Ej {r:Nat} (h1:cd r=false) (h2:cU r=false) (a:nC r=true):cls r=4:=by
 unfold cls;have hs:cT r=false:=by
  unfold nC at a;unfold cT;simp at a;simp only[Bool.or_eq_false_iff,beq_eq_false_iff_ne];omega
 rw[h1,h2,hs,a];rfl
theorem wK (l:List Nat) (a:Nat):(eM l a).tk=if dL wordsL (enc l)then .word (enc l)else .name (enc l):=by
 unfold eM Qk.tk
 cases dL wordsL (enc l)<;>simp
theorem Bl {c:Nat} {r l:List Nat} {g:Tk} (h:eC (c::r)=some (g,l)):
 (cd c=true∧(c::r.takeWhile more).length≤12∧(∀a,(eM (c::r.takeWhile more) a).tk=g)∧l=r.dropWhile more)∨
 (cd c=false∧cU c=true∧(∀d j,r=d::j→cU d=false)∧g=.num ((c:Int) -48)∧l=r)∨
 (cd c=false∧cU c=false∧nC c=true∧∃f,zA (c::r)=some f∧g=.word (enc f)∧l=(c::r).drop f.length):=by
 unfold eC at h;simp only at h
 split at h
 ·rename_i k
  split at h
  ·rename_i o
   simp only[Option.some.injEq,Prod.mk.injEq]at h;exact .inl ⟨k,o,fun a=>by rw[wK];exact h.1,h.2.symm⟩
  ·cases h
 ·rename_i k
  have b:cd c=false:=by simpa using k
  split at h
  ·rename_i i
   split at h
   ·simp only[Option.some.injEq,Prod.mk.injEq]at h;exact .inr (.inl ⟨b,i,(fun d j e=>by cases e),h.1.symm,h.2.symm⟩)
   ·rename_i d q
    split at h
    ·cases h
    ·rename_i m
     simp only[Option.some.injEq,Prod.mk.injEq]at h;refine .inr (.inl ⟨b,i,fun s j e=>?_,h.1.symm,h.2.symm⟩);rw[←(List.cons.inj e).1];simpa using m
  ·rename_i i
   split at h
   ·rename_i hs
    obtain⟨f,p,e⟩:=Option.map_eq_some_iff.1 h;simp only[Prod.mk.injEq]at e;exact .inr (.inr ⟨b,by simpa using i,hs,f,p,e.1.symm,e.2.symm⟩)
   ·cases h
theorem Ds (l:List Nat):(enc l).size≤2*l.length:=by
 rw[dJ]
 induction l with
 |nil=>simp[bA]
 |cons r l ih=>
  rw[dm,List.length_append,io,List.length_cons];have :=(nT r).2;omega
theorem Cv (h:LexAt w x v rs n) {c:Nat} {r l:List Nat} {tk:Tk} (Z:rs.drop n=c::r) (ht:eC (c::r)=some (tk,l))
 (hR:∀e w' (q:Qk) m,e=.returned (.tuple (Id q.val true))→q.tk=tk→(q.ok∧(q.k=1∨q.k=2∨q.k=3))→LexAt w' x v rs m→Keeps (·≠x) w w'→rs.drop m=l→n<m→R e w'):
 Calls Tryz.prog 75 #[.pointer (IQ x 0)] w R:=by
 have HR:=ae hR;clear hR;have H:=ae h;have cH:x<w.heap.size:=am h.blk;have hn:n<rs.length:=by
  rcases Nat.lt_or_ge n rs.length with h|h
  ·exact h
  ·rw[List.drop_eq_nil_of_le h]at Z;cases Z
 have a8:rs[n]=c:=by rw[List.drop_eq_getElem_cons hn]at Z;exact(List.cons.inj Z).1
 have aH:rs.drop (n+1)=r:=by rw[List.drop_eq_getElem_cons hn]at Z;exact(List.cons.inj Z).2
 have cE:=ae a8;have ch:=ae aH;have HD:=ae Z;have HT:=ae (Bl ht);have dE:pos rs n≤(enc rs).size:=oL rs n;have dp:=h.le;have k0:Same w (bJ w):=(af _ w).alloc _;have bL:(bJ w).heap[w.heap.size]?=_:=ag w _;have H0:=ae (h.same k0);have U:=ae k0;have V:=ae bL;unfold bJ at H0 U V;clear k0 bL h a8 aH Z ht;go_enter Tryz.func75,Tryz.ntmps75;go_wp2_with fail;generalize w.alloc _=w1 at U V H0⊢;refine jt H0.o hn ?_;rintro e w3 rfl k3;rw[cE.o];have G:=ae (H0.o.same k3);have I:=ae (U.o.tr k3);have J:=ae (k3.at V.o trivial);clear k3 H0 U V;rcases HT.o with⟨h1,h2,h3,E⟩|⟨h1,h2,h3,E,h5⟩|⟨h1,h2,h3,F,E,h5,h6⟩
 ·rw[EX h1];go_wp2_with fail;refine EW G.o HD.o h1 h2 ?_;rintro e X m rfl p L aL M;have C:Hid ((eM (c::r.takeWhile more) (pos rs n)).ok∧((eM (c::r.takeWhile more) (pos rs n)).k=1∨(eM (c::r.takeWhile more) (pos rs n)).k=2∨(eM (c::r.takeWhile more) (pos rs n)).k=3)):=ae (by
   have hs:=Ds (c::r.takeWhile more);refine⟨⟨?_,?_,?_,?_⟩,?_⟩
   ·unfold eM;simp only;split<;>(unfold aK;omega)
   ·show aK 0;unfold aK;omega
   ·show aK ((pos rs n:Nat):Int);unfold aK;omega
   ·show(enc (c::r.takeWhile more)).size≤maxLen;unfold maxLen;omega
   ·unfold eM;simp only;split<;>simp)
  have B:=ae (h3 (pos rs n));have T:=ae (aL.trans E.symm);have E:=p;clear h1 h2 h3 aL p;generalize eM (c::r.takeWhile more) (pos rs n)=q at C B⊢;obtain⟨o,i,g,f⟩:=q;simp only[Qk.val];have N:=ae E;have O:=ae ((I.o.bar x).tr L);have a:=L.at J.o (by omega);obtain⟨z,y,u,t⟩:=xc4 a rfl rfl rfl rfl;obtain⟨g0,g1,g2,g3⟩:=xf4 a;clear E L G I J;go_wp2_with fail;have Y:=(((((af (·≠w.heap.size) X).but 0 (IP o)).but 1 (.string i)).but 2 (IP g)).but 3 (IP f));have d:=ct a (IP o) (.string i) (IP g) (IP f);have A:=ae (N.o.kept Y (by omega) (fun b hb=>by have :=H.o.runes.lt b hb;omega));have D:=ae (O.o.box4 (Nat.le_refl _) (IP o) (.string i) (IP g) (IP f));clear Y z y u t g0 g1 g2 g3 a;generalize((((X.setCell ⟨w.heap.size,0,none⟩ (IP o)).setCell ⟨w.heap.size,1,none⟩ (.string i)).setCell ⟨w.heap.size,2,none⟩ (IP g)).setCell ⟨w.heap.size,3,none⟩ (IP f))=w9 at d A D⊢;obtain⟨z,y,u,t⟩:=xc4 d rfl rfl rfl rfl;refine bodyPost_ret (v:=.tuple (Id (Ig o i g f) true)) (by simp[results,Tryz.results75,go_sem,z,y,u,t]) rfl ?_;exact HR.o _ _ _ _ rfl B.o C.o A.o D.o T.o M
 ·rw[sE.2 h2];go_wp2_with fail;refine Ah G.o HD.o h2 h3 ?_;rintro e X rfl p L;have M:n<n+1:=Nat.lt_succ_self n;have C:Hid ((⟨2,GA,(c:Int) -48,(pos rs n:Nat)⟩:Qk).ok∧((⟨2,GA,(c:Int) -48,(pos rs n:Nat)⟩:Qk).k=1∨(⟨2,GA,(c:Int) -48,(pos rs n:Nat)⟩:Qk).k=2∨(⟨2,GA,(c:Int) -48,(pos rs n:Nat)⟩:Qk).k=3)):=ae (by
   have dZ:48≤c∧c≤57:=by
    unfold cU at h2;simp only[Bool.and_eq_true,decide_eq_true_eq]at h2;exact h2
   refine⟨⟨?_,?_,?_,?_⟩,.inr (.inl rfl)⟩
   ·show aK 2;unfold aK;omega
   ·show aK ((c:Int) -48);unfold aK;omega
   ·show aK ((pos rs n:Nat):Int);unfold aK;omega
   ·show(GA:ByteArray).size≤maxLen;unfold maxLen;decide)
  have B:Hid ((⟨2,GA,(c:Int) -48,(pos rs n:Nat)⟩:Qk).tk=tk):=ae (by rw[E];rfl);have T:Hid (rs.drop (n+1)=l):=ae (ch.o.trans h5.symm);have E:=p;clear h1 h2 h3 p h5;generalize(⟨2,GA,(c:Int) -48,(pos rs n:Nat)⟩:Qk)=q at C B⊢;obtain⟨o,i,g,f⟩:=q;simp only[Qk.val];generalize n+1=m at *;have N:=ae E;have O:=ae ((I.o.bar x).tr L);have a:=L.at J.o (by omega);obtain⟨z,y,u,t⟩:=xc4 a rfl rfl rfl rfl;obtain⟨g0,g1,g2,g3⟩:=xf4 a;clear E L G I J;go_wp2_with fail;have Y:=(((((af (·≠w.heap.size) X).but 0 (IP o)).but 1 (.string i)).but 2 (IP g)).but 3 (IP f));have d:=ct a (IP o) (.string i) (IP g) (IP f);have A:=ae (N.o.kept Y (by omega) (fun b hb=>by have :=H.o.runes.lt b hb;omega));have D:=ae (O.o.box4 (Nat.le_refl _) (IP o) (.string i) (IP g) (IP f));clear Y z y u t g0 g1 g2 g3 a;generalize((((X.setCell ⟨w.heap.size,0,none⟩ (IP o)).setCell ⟨w.heap.size,1,none⟩ (.string i)).setCell ⟨w.heap.size,2,none⟩ (IP g)).setCell ⟨w.heap.size,3,none⟩ (IP f))=w9 at d A D⊢;obtain⟨z,y,u,t⟩:=xc4 d rfl rfl rfl rfl;refine bodyPost_ret (v:=.tuple (Id (Ig o i g f) true)) (by simp[results,Tryz.results75,go_sem,z,y,u,t]) rfl ?_;exact HR.o _ _ _ _ rfl B.o C.o A.o D.o T.o M
 ·rw[Ej h1 h2 h3];go_wp2_with fail;refine EV G.o (by rw[HD.o];exact E) ?_;rintro e X rfl p L;have ce:(enc F).size=F.length∧F.length≤3∧0<F.length:=by
   obtain⟨j,hj,rfl,_⟩:=qJ E;exact⟨(lH _ (List.getElem_mem hj)).2.1,(lH _ (List.getElem_mem hj)).2.2,(by decide:∀s∈sgns,0<s.length) _ (List.getElem_mem hj)⟩
  have M:n<n+F.length:=by omega
  have C:Hid ((⟨3,enc F,0,(pos rs n:Nat)⟩:Qk).ok∧((⟨3,enc F,0,(pos rs n:Nat)⟩:Qk).k=1∨(⟨3,enc F,0,(pos rs n:Nat)⟩:Qk).k=2∨(⟨3,enc F,0,(pos rs n:Nat)⟩:Qk).k=3)):=ae (by
   refine⟨⟨?_,?_,?_,?_⟩,.inr (.inr rfl)⟩
   ·show aK 3;unfold aK;omega
   ·show aK 0;unfold aK;omega
   ·show aK ((pos rs n:Nat):Int);unfold aK;omega
   ·show(enc F).size≤maxLen;unfold maxLen;omega)
  have B:Hid ((⟨3,enc F,0,(pos rs n:Nat)⟩:Qk).tk=tk):=ae (by rw[h5];rfl);have T:Hid (rs.drop (n+F.length)=l):=ae (by rw[h6,←HD.o,List.drop_drop]);have E:=p;clear h1 h2 h3 p h5 h6 ce;generalize(⟨3,enc F,0,(pos rs n:Nat)⟩:Qk)=q at C B⊢;obtain⟨o,i,g,f⟩:=q;simp only[Qk.val];generalize n+F.length=m at *;have N:=ae E;have O:=ae ((I.o.bar x).tr L);have a:=L.at J.o (by omega);obtain⟨z,y,u,t⟩:=xc4 a rfl rfl rfl rfl;obtain⟨g0,g1,g2,g3⟩:=xf4 a;clear E L G I J;go_wp2_with fail;have Y:=(((((af (·≠w.heap.size) X).but 0 (IP o)).but 1 (.string i)).but 2 (IP g)).but 3 (IP f));have d:=ct a (IP o) (.string i) (IP g) (IP f);have A:=ae (N.o.kept Y (by omega) (fun b hb=>by have :=H.o.runes.lt b hb;omega));have D:=ae (O.o.box4 (Nat.le_refl _) (IP o) (.string i) (IP g) (IP f));clear Y z y u t g0 g1 g2 g3 a;generalize((((X.setCell ⟨w.heap.size,0,none⟩ (IP o)).setCell ⟨w.heap.size,1,none⟩ (.string i)).setCell ⟨w.heap.size,2,none⟩ (IP g)).setCell ⟨w.heap.size,3,none⟩ (IP f))=w9 at d A D⊢;obtain⟨z,y,u,t⟩:=xc4 d rfl rfl rfl rfl;refine bodyPost_ret (v:=.tuple (Id (Ig o i g f) true)) (by simp[results,Tryz.results75,go_sem,z,y,u,t]) rfl ?_;exact HR.o _ _ _ _ rfl B.o C.o A.o D.o T.o M
theorem tM:(Tryz.prog.info? 108).map (fun i=>(i.zero,i.size,i.bytes))=some (some (.agg #[.int .i32 0,IU]),2,16):=by kernel_rfl
theorem tC:(Tryz.prog.info? 61).map (fun i=>(i.zero,i.size,i.bytes))=some (some (.agg #[IU,GA,IU,IU]),4,40):=by kernel_rfl
theorem mF {e:TypeId} {k B n b:Nat} {v:Value} {c:List Value} (h:w.ownsRow B e k v n c) (a:live v=some b):B≤b:=by
 rcases h.2 with⟨rfl,_⟩|⟨g,cap,d,rfl,f,_⟩
 ·simp[live]at a
 ·cases n with
  |zero=>simp[live]at a<;>omega
  |succ n=>simp[live]at a;omega
theorem FU {r:Nat} (h:Gk r):r≠65533:=by unfold Gk at h;omega
theorem wc (s:ByteArray) (a:Int) {r:Nat} (h:Gk r) (c:∀e b,e=.returned (.bool false)→Same w b→R e b):
 Calls Tryz.prog 120 #[.string s,IP a,.int .i32 (r:Int)] w R:=by
 have f:=ae c;clear c;have d:((r:Int)==65533)=false:=by rw[beq_eq_false_iff_ne];have :=FU h;omega
 go_enter Tryz.func120,Tryz.ntmps120;go_wp2_with fail;exact f.o _ _ rfl (af _ _)
theorem pZ {k:Nat} (a:k<rs.length):(cZ rs)[k]?=some [.int .i32 (rs[k]:Int),.int .i64 (pos rs k:Int)]:=by simp[cZ,a]
theorem pY:∀c∈cZ rs,c.length=2:=by
 intro c a;obtain⟨k,_,rfl⟩:=List.mem_map.1 a;rfl
theorem zj (hg:∀r∈rs,Gk r) (hs:(enc rs).size≤2000)
 (hR:∀e L u,e=.returned (.tuple (Ia u (-1)))→StrAt 2 L u (cZ rs)→(∀b,live u=some b→w.heap.size≤b)→Same w L→R e L):
 Calls Tryz.prog 72 #[.string (enc rs)] w R:=by
 have HR:=ae hR;clear hR;have bL:=Nat.le_trans (dT rs) hs;have aL:=ae (ag w (.stringIter (enc rs) 0));have Z:=ae ((af (fun _=>True) w).iter (enc rs) 0);go_enter Tryz.func72,Tryz.ntmps72;go_wp2_with fail;have O:(w.iter (enc rs) 0).heap.size=w.heap.size+1:=by simp[World.iter]
 go_loopw [2] (fun q wr=>∃j:Nat,j≤rs.length∧Hid (wr.ownsRow (w.heap.size+1) 108 2 q j ((cZ rs).take j).flatten)∧Hid (wr.heap[w.heap.size]?=some (.stringIter (enc rs) (pos rs j)))∧Hid (Same w wr)) (fun _ wr=>(enc rs).size -wr.iterPos w.heap.size)
 case atStart=>exact⟨0,Nat.zero_le _,ae (by simpa using⟨by simp,.inl ⟨rfl,rfl⟩⟩),aL,Z⟩
 case round=>
  obtain⟨j,hj,o,G,HK⟩:=hrel;obtain⟨s0,c0,rfl⟩:=av o.o;have z:=iterPos_of G.o;by_cases f:j<rs.length
  ·have h:=fun M=>qT hg G.o f M;have A:=hg _ (List.getElem_mem f);have i:=pZ f;have T:pos rs j<pos rs (j+1):=BI (Nat.lt_succ_self _) f;have a8:pos rs (j+1)≤(enc rs).size:=oL rs _;have E:=ae (Go.Lib.iterAt_heap _ _ _ _ (pos rs (j+1)) G.o);have C:=ae (HK.o.iterAt (Nat.le_refl _) (enc rs) (pos rs (j+1)));have B:Hid ((wr.iterAt w.heap.size (enc rs) (pos rs (j+1))).ownsRow (w.heap.size+1) 108 2 (.slice s0 j c0) j ((cZ rs).take j).flatten):=ae (ar o.o (S:=fun b=>b≠w.heap.size) ⟨rfl,rfl,rfl,by rw[Go.Lib.iterAt_size];exact Nat.le_refl _,fun y hy U=>by rw[Go.Lib.iterAt_other _ _ _ _ _ U]⟩ (fun b J=>by have :=(ah o.o J).1;omega));generalize I:rs[j]=r at h A i;generalize pos rs j=N at h i z T;have a:(cZ rs).take (j+1)=(cZ rs).take j++[[.int .i32 (r:Int),.int .i64 (N:Int)]]:=by rw[List.take_add_one,i];rfl
   clear i I G HK o;go_wp2_with fail;refine wc (enc rs) N A ?_;rintro e w1 rfl H;have m:=ae (ar B.o H fun _ _=>trivial);have p:=ae (H.at E.o trivial);have D:=ae (C.o.tr H);have s:w.heap.size+1≤w1.heap.size:=am p.o;clear H B E C h O;obtain⟨g,cap,w4,I,c,l,X,V⟩:=cF (P:=Tryz.prog) (k:=2) (by decide) w1 78 78 108 Tryz.underlying78 tM rfl m.o s [.int .i32 (r:Int),.int .i64 (N:Int)] rfl (by simp[Value.oneCell']) (by omega) (by decide);rw[←a]at c;have Y:=ae c;have d:∀b,b<w.heap.size+1→(Value.slice s0 j c0).ownBlock≠some b:=fun b J e=>by
    have :=(ah m.o e).1;omega
   have F:=ae (l.at p.o (d _ (Nat.lt_succ_self _)));have aH:Hid (Same w w4):=ae (D.o.trans l fun y hy _=>⟨trivial,d y (by omega)⟩);have t:=iterPos_of F.o;clear c l X V d m p D a
   go_wp2_with (at_builtin;refine ap rfl _ _ _ rfl rfl rfl I ?_;clear I)
   go_roundw
   case rel=>exact⟨j+1,f,Y,F,aH⟩
   case measure=>rw[z,t];omega
  ·obtain rfl:j=rs.length:=by omega
   have h:=fun M=>qU G.o M;rw[List.take_of_length_le (by rw[ef];exact Nat.le_refl _)]at o;go_wp2_with fail;refine HR.o _ _ _ rfl (dg pY (by rw[ef];exact o.o)) (fun b J=>Nat.le_of_succ_le (mF o.o J)) HK.o
theorem Ag (f:Nat) (l:List Nat):bG (f+1) l=(match l.dropWhile cT with
 | []=>some [Tk.fin]
 |c::r=>if c=35 then none else
  match eC (c::r)with
  |none=>none
  |some p=>(bG f p.2).map (p.1::·)):=rfl
theorem uz {f:Nat} {l:List Nat} {b:List Tk} (h:bG f l=some b):
 (l.dropWhile cT=[]∧b=[.fin])∨∃o c r g i a,l.dropWhile cT=c::r∧c≠35∧eC (c::r)=some (g,i)∧bG o i=some a∧b=g::a:=by
 cases f with
 |zero=>cases h
 |succ f=>
  rw[Ag]at h
  split at h
  ·rename_i d
   exact .inl ⟨d,(Option.some.inj h).symm⟩
  ·rename_i c r d
   split at h
   ·cases h
   ·rename_i m
    split at h
    ·cases h
    ·rename_i p k
     obtain⟨a,j,e⟩:=Option.map_eq_some_iff.1 h;exact .inr ⟨f,c,r,p.1,p.2,a,d,m,k,j,e.symm⟩
theorem ux {f:Nat} {l:List Nat} {b:List Tk} (h:bG f l=some b):∀c r,l.dropWhile cT=c::r→c≠35:=by
 intro c r a;rcases uz h with⟨h1,_⟩|⟨_,e,d,_,_,_,h1,h2,_⟩
 ·rw[h1]at a;cases a
 ·rw[h1]at a;rw[←(List.cons.inj a).1];exact h2
def OwnToks (w:World) (B:Nat) (v:Value) (L:List Qk):Prop:=w.ownsRow B 61 4 v L.length (L.map Qk.cells).flatten∧∀q∈L,q.ok∧(q.k=1∨q.k=2∨q.k=3∨q.k=4)
theorem OwnToks.keep {B:Nat} {v:Value} {L:List Qk} {S:Nat→Prop} {a:World} (h:OwnToks w B v L) (k:Keeps S w a) (hs:∀b,v.ownBlock=some b→S b):OwnToks a B v L:=⟨ar h.1 k hs,h.2⟩
theorem OwnToks.but {B p:Nat} {v:Value} {L:List Qk} {a:World} (h:OwnToks w B v L) (k:Keeps (·≠p) w a) (d:p<B):OwnToks a B v L:=
 h.keep k fun b c e=>by
  have :=(ah h.1 c).1;omega
theorem OwnToks.toks {B:Nat} {v:Value} {L:List Qk} (h:OwnToks w B v L):ToksAt w v L:=
 ⟨dg (fun x hx=>by obtain⟨d,_,rfl⟩:=List.mem_map.1 hx;rfl) (by rw[List.length_map];exact h.1),fun q a=>(h.2 q a).1⟩
theorem OwnToks.push {B:Nat} {v:Value} {L:List Qk} (h:OwnToks w B v L) (m:B≤w.heap.size) (q:Qk) (j:q.ok∧(q.k=1∨q.k=2∨q.k=3∨q.k=4)) (p:L.length≤5000):
 ∃g cap c,(Builtin.append_ #[46,46] 46 #[v,.slice (IQ w.heap.size 0) 1 1]).run Tryz.prog (w.alloc (Hv q.k q.t q.n q.a))=.ok (.slice (IQ g 0) (L.length+1) cap) c∧
  OwnToks c B (.slice (IQ g 0) (L.length+1) cap) (L++[q])∧Keeps (·<B) w c:=by
 obtain⟨g,cap,c,i,d,l,_,_⟩:=cF (P:=Tryz.prog) (k:=4) (by decide) w 46 46 61 Tryz.underlying46 tC rfl h.1 m [.int .i64 q.k,.string q.t,.int .i64 q.n,.int .i64 q.a] rfl (by simp[Value.oneCell']) (by omega) (by decide);refine⟨g,cap,c,i,⟨by simpa [Qk.cells]using d,fun f b=>?_⟩,l.mono fun y _ o e=>?_⟩
 ·rcases List.mem_append.1 b with b|b
  ·exact h.2 f b
  ·simp at b;subst b;exact j
 ·have :=(ah h.1 e).1;omega
theorem q9 (hg:∀r∈rs,Gk r) (hs:(enc rs).size≤2000) {f:Nat} {o:List Tk} (ht:bG f rs=some o)
 (hR:∀e w' u L,e=.returned (.tuple (Il u ((enc rs).size) 0))→OwnToks w' w.heap.size u L→L.map Qk.tk=o→L.length≤2001→Same w w'→R e w'):
 Calls Tryz.prog 49 #[.string (enc rs)] w R:=by
 have HR:=ae hR;clear hR;have JA:=Nat.le_trans (dT rs) hs;have Ju:(enc rs).size≤maxLen:=by unfold maxLen;omega
 have gJ:=ag w (.cells #[.string (enc rs),IM,IU,IU] 145);have gH:=sal w (.cells #[.string (enc rs),IM,IU,IU] 145);have N:=ae gJ;have dp:=ae gH;clear gJ gH;go_enter Tryz.func49,Tryz.ntmps49;go_wp2_with fail;generalize w.alloc _=w1 at N dp⊢;refine zj hg hs ?_;rintro e w2 u rfl hu a8 k2;have hx1:w.heap.size<w1.heap.size:=am N.o;obtain⟨a,c,rfl,Jm,Jl,_⟩:=hu.open;rw[ef]at a8 Jm hu⊢;have HU:=ae hu;have I2:=ae a8;have l:=k2.at N.o trivial;have Jd:=ae (dp.o.tr k2);have d1:=xc1 l 1 rfl;have d2:=xc1 l 2 rfl;have g1:=ao l 1;have g2:=ao l 2;have Jh:=ae l;clear k2 l N dp a8 hu;go_wp2_with fail;have ky:=((af (·≠w.heap.size) w2).but 1 (.slice a rs.length c)).but 2 (IP (-1));have fd:LexAt ((w2.setCell ⟨w.heap.size,1,none⟩ (.slice a rs.length c)).setCell ⟨w.heap.size,2,none⟩ (IP (-1))) w.heap.size (.slice a rs.length c) rs 0:=by
  refine⟨?_,HU.o.keep ky fun b hb=>?_,fun e=>?_,hg,hs,Nat.zero_le _⟩
  ·rw[aj (aj Jh.o _ _)];simp
  ·have :=I2.o b hb;omega
  ·have :=I2.o _ e;omega
 have ch:=ae fd;have cH:=ae ((Jd.o.new (Nat.le_refl _) 1 (.slice a rs.length c)).new (Nat.le_refl _) 2 (IP (-1)));clear ky fd Jh Jd d1 d2 g1 g2;generalize(w2.setCell ⟨w.heap.size,1,none⟩ (.slice a rs.length c)).setCell ⟨w.heap.size,2,none⟩ (IP (-1))=w3 at ch cH⊢;have HT:=ae ht;refine uB ch.o (by rw[List.drop_zero];exact ux ht) ?_;rintro e w4 u4 m0 rfl h4 k4 Jy bL;rw[List.drop_zero]at bL;have J:=ae h4;have Jc:Hid (Same w w4):=ae (cH.o.trans k4 fun y hy _=>⟨trivial,by omega⟩);have Jq:=ae bL;clear h4 k4 bL ch cH ht;have z:w.heap.size<w4.heap.size:=am J.o.blk;have fw:∀b,live (Value.slice a rs.length c)=some b→b<w4.heap.size:=J.o.runes.lt;obtain⟨B,hB⟩:∃B,B=w4.heap.size:=⟨_,rfl⟩;rw[←hB]at z fw;go_wp2_with fail
 go_loopw [2] (fun q wr=>∃(m:Nat) (L:List Qk) (s:List Tk) (f':Nat) (l0:List Nat),Hid (OwnToks wr B q L)∧B≤wr.heap.size∧Hid (LexAt wr w.heap.size (.slice a rs.length c) rs m)∧Hid (Same w wr)∧Hid (bG f' l0=some s)∧Hid (rs.drop m=l0.dropWhile cT)∧Hid (L.map Qk.tk++s=o)∧L.length≤m) (fun _ wr=>re w.heap.size rs.length wr)
 case atStart=>exact⟨m0,[],o,f,rs,ae ⟨⟨by simp,.inl ⟨rfl,rfl⟩⟩,fun _ h=>by cases h⟩,Nat.le_of_eq hB,J,Jc,HT,Jq,ae rfl,Nat.zero_le _⟩
 case round=>
  obtain⟨m,L,s,f',l0,HO,IR,HX,HK,HL,HD,HM,JB⟩:=hrel;have Jk:=fK HX.o;obtain⟨s0,c0,rfl⟩:=av HO.o.1;clear J Jc;have c1:=xc1 HX.o.blk 1 rfl;have c3:=xc1 HX.o.blk 3 rfl;unfold maxLen at Jl;have Jv:=HX.o.at_;rcases uz HL.o with⟨Y,d⟩|⟨f2,cc,r,tk,l',p,j,Jp,V,Z,d⟩
  ·have hm:m=rs.length:=by
    have :rs.drop m=[]:=HD.o.trans Y
    rw[List.drop_eq_nil_iff]at this;omega
   go_wp2_with fail;refine aq (by kernel_rfl) (by kernel_rfl) ?_
   iterate 10 (apply wpQuiet_step;intro K I;(first|(apply aA;rfl;go_simp)|(apply aJ;rfl;intro w' A;obtain⟨U,T⟩:=xs2 A c1 c3;go_simp;exact rfl;go_simp));refine I _ ?_;clear I K)
   apply wpQuiet_nil;intro w5 t;have k:=ae (HX.o.same t);have If:=HO.o.keep t fun _ _=>trivial;have F:=ae (HK.o.tr t);have ce:=Nat.le_trans IR t.size;have d0:=xc1 k.o.blk 0 rfl;have d2:=xc1 k.o.blk 2 rfl;subst d;clear t HX HO HK c1 c3 HL HD Y;obtain⟨g,cap,w9,hr,D,i⟩:=If.push ce ⟨4,GA,0,((enc rs).size:Int)⟩ ⟨⟨by show aK 4;unfold aK;omega,by show aK 0;unfold aK;omega,by show aK ((enc rs).size:Int);unfold aK;omega,by show(GA:ByteArray).size≤maxLen;unfold maxLen;decide⟩,by simp⟩ (by omega);have E:=ae D;have M:Hid (Same w w9):=ae (F.o.trans i fun y hy _=>⟨trivial,by omega⟩);have cE:Hid ((L++[(⟨4,GA,0,((enc rs).size:Int)⟩:Qk)]).map Qk.tk=o):=ae (by rw[List.map_append,←HM.o];rfl);have fu:(L++[(⟨4,GA,0,((enc rs).size:Int)⟩:Qk)]).length≤2001:=by simp;omega
   clear D i If k F
   go_wp2_with (at_builtin;refine ap rfl _ _ _ rfl rfl rfl hr ?_;clear hr)
   exact HR.o _ _ _ (L++[(⟨4,GA,0,((enc rs).size:Int)⟩:Qk)]) rfl ⟨aN E.o.1 (Nat.le_of_lt z),E.o.2⟩ cE.o fu M.o
  ·have hm:m<rs.length:=by
    rcases Nat.lt_or_ge m rs.length with h|h
    ·exact h
    ·have e:=HD.o.trans j;rw[List.drop_eq_nil_of_le h]at e;cases e
   have Jr:=ae (HD.o.trans j);have I3:=ae V;have aL:=ae Z;subst d;clear j V Z Jp;go_wp2_with fail;refine aq (by kernel_rfl) (by kernel_rfl) ?_
   iterate 10 (apply wpQuiet_step;intro K I;(first|(apply aA;rfl;go_simp)|(apply aJ;rfl;intro w' A;obtain⟨U,T⟩:=xs2 A c1 c3;go_simp;exact rfl;go_simp));refine I _ ?_;clear I K)
   apply wpQuiet_nil;intro w5 t;have k:=ae (HX.o.same t);have I7:=ae (HO.o.keep t fun _ _=>trivial);have F:=ae (HK.o.tr t);have ce:=Nat.le_trans IR t.size;clear t HX HO HK c1 c3 HL HD;go_wp2_with fail;refine pw k.o ?_;rintro e w6 rfl k6;have I1:=ae (k.o.same k6);have I6:=ae (I7.o.keep k6 fun _ _=>trivial);have Jb:=ae (F.o.tr k6);have Jo:=Nat.le_trans ce k6.size;clear k6 k I7 F;go_wp2_with fail;refine Cv I1.o Jr.o I3.o ?_;rintro e O q m7 rfl dE dZ h7 k7 gI Jz;have I0:=ae h7;have I5:=ae (I6.o.but k7 z);have Ja:Hid (Same w O):=ae (Jb.o.trans k7 fun y hy _=>⟨trivial,by omega⟩);have JC:B≤O.heap.size:=Nat.le_trans Jo k7.size;have Jw:=h7.at_;have HQ:=ae dZ;have cE:=ae dE;have Jf:=ae gI;clear k7 h7 dZ dE gI I1 I6 Jb;obtain⟨U,T,q2,q3⟩:=q;simp only[Qk.val];have H:=sal O (Hv U T q2 q3);have X:(O.alloc (Hv U T q2 q3)).heap.size=O.heap.size+1:=by simp
   have IZ:=ae (I0.o.same H);have I4:=ae (I5.o.keep H fun _ _=>trivial);have I9:=ae (Ja.o.tr H);have hz:=ag O (Hv U T q2 q3);obtain⟨z0,z1,z2,z3⟩:=xc4 hz rfl rfl rfl rfl;clear H hz I0 I5 Ja;obtain⟨g,cap,w9,hr,D,i⟩:=I4.o.push (by omega) ⟨U,T,q2,q3⟩ (by obtain⟨h1,h2⟩:=HQ.o;exact⟨h1,by omega⟩) (by omega);rw[X]at hr;have E:=ae D;have IW:=ae (IZ.o.kept i z fw);have M:Hid (Same w w9):=ae (I9.o.trans i fun y hy _=>⟨trivial,by omega⟩);have Jn:B≤w9.heap.size:=Nat.le_trans (by omega) i.size;clear i D IZ I4 I9 X
   go_wp2_with (at_builtin;refine ap rfl _ _ _ rfl rfl rfl hr ?_;clear hr)
   clear z0 z1 z2 z3;refine uB IW.o (by rw[Jf.o];exact ux aL.o) ?_;rintro e Ji Jt Jj rfl IT G Js C;have aH:=ae IT;have I8:=ae (E.o.but G z);have Je:Hid (Same w Ji):=ae (M.o.trans G fun y hy _=>⟨trivial,by omega⟩);have IS:=Nat.le_trans Jn G.size;rw[Jf.o]at C;have Jg:=ae C;clear IT G C IW E M;go_wp2_with fail;go_roundw
   case rel=>exact⟨Jj,L++[⟨U,T,q2,q3⟩],p,f2,l',I8,IS,aH,Je,aL,Jg,ae (by rw[List.map_append,List.append_assoc];show _++([Qk.tk ⟨U,T,q2,q3⟩]++p)=_;rw[cE.o];exact HM.o),by simp;omega⟩
   case measure=>rw[Jk,fK aH.o];omega
end
end Go.Proofs.YtojegnbejmeehaaGreatDoor
