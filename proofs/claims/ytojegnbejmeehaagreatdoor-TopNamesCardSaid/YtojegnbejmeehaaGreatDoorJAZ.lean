/- Helpers of the proof of TopNames. -/
import Derived.Test.YtojegnbejmeehaaGreatDoorJAY
namespace Go.Proofs.YtojegnbejmeehaaGreatDoor
open Go.RowKit
set_option maxRecDepth 10000
set_option maxHeartbeats 16000000
set_option linter.all false
section
attribute [local irreducible] wpQuiet ax au aQ
variable {R:Ending→World→Prop} {w:World}
theorem zV:(Tryz.prog.info? 212).map (fun i=>(i.zero,i.size,i.bytes))=some (some (.agg #[IU,GA,IU,IU,IU,IU,IM]),7,80):=by kernel_rfl
def nxC (p:Int×Int):List Value:=[.int .i64 p.1,.string GH,.int .i64 p.1,.int .i64 0,.int .i64 0,.int .i64 p.2,.slice none 0 0]
structure NextsAt (B:Nat) (w:World) (L:Nat) (v:Value) (ps:List (Int×Int)):Prop where
 blk:w.heap[L]?=some (.cells #[v] 204)
 own:w.ownsRow B 212 7 v ps.length (ps.map nxC).flatten
def Dn (X:Nat) (u:Value) (L:Nat) (v:Value):Nat→Prop:=fun b=>Dx X u b∨b=L∨v.ownBlock=some b
theorem NextsAt.keep {B L:Nat} {v:Value} {c:List (Int×Int)} {S:Nat→Prop} {a:World} (h:NextsAt B w L v c) (k:Keeps S w a) (h1:S L) (hs:∀b,v.ownBlock=some b→S b):NextsAt B a L v c:=
 ⟨k.at h.blk h1,ar h.own k hs⟩
theorem jV {B X l L:Nat} {u v:Value} {N:List ByteArray} {k:List (Int×Int)} (h:LowAt B w X u N) (f:NextsAt l w L v k):∀b,(b=L∨v.ownBlock=some b)→¬Dx X u b:=by
 rintro b (rfl|i) (rfl|g)
 ·have e:=h.blk;rw[f.blk]at e;simp at e
 ·obtain⟨_,d,a⟩:=ah h.own g;rw[f.blk]at a;simp at a
 ·obtain⟨_,d,a⟩:=ah f.own i;rw[h.blk]at a;simp at a
 ·obtain⟨_,d,a⟩:=ah f.own i;obtain⟨_,j,c⟩:=ah h.own g;rw[a]at c;simp at c
theorem oR {f L:Nat} {v:Value} {c:List (Int×Int)} (a:NextsAt f w L v c):v.ownBlock≠some L:=fun d=>by
 obtain⟨_,e,b⟩:=ah a.own d;rw[a.blk]at b;simp at b
theorem NextsAt.to {B X e L:Nat} {u f v:Value} {N:List ByteArray} {d:List (Int×Int)} {c:World} (a:NextsAt e w L v d) (h:LowAt B w X u N) (k:To (Dx X u) (Dx X f) w c):NextsAt e c L v d:=
 a.keep k.keep (jV h a L (.inl rfl)) fun b g=>jV h a b (.inr g)
theorem To.wide {X L:Nat} {u c v:Value} {a:World} (k:To (Dx X u) (Dx X c) w a):To (Dn X u L v) (Dn X c L v) w a:=
 ⟨k.keep.mono fun b _ f e=>f (.inl e),fun b d=>d.elim (fun e=>(k.new b e).elim (fun h=>.inl (.inl h)) .inr) fun e=>.inl (.inr e)⟩
theorem ES {q:Nat} {v:Int} {k j i h g f:Value} (a:w.heap[q]?=some (.cells #[k,j,i,h,g,f] 70)) (b:∀e u,e=.returned u→R e (w.setCell ⟨q,1,none⟩ (IP v))):
 Calls Tryz.prog 196 (Ia (IL q) v) w R:=by
 have l:=ae b;clear b;have c:=xc1 a 1 rfl;have d:=ao a 1;go_enter Tryz.func196,Tryz.ntmps196;go_wp2_with fail;go_end0;exact l.o _ _ rfl
theorem EU {B X BL L:Nat} {u v:Value} {N:List ByteArray} {z:List (Int×Int)} {n:Int} (h:LowAt B w X u N) (hB:B≤w.heap.size) (hN:N.length<6) (hl:NextsAt BL w L v z) (gJ:BL≤w.heap.size) (fw:z.length≤10)
 (hR:∀e r u' v',e=.returned (IP (N.length:Int))→LowAt B r X u' (N++[⟨#[]⟩])→NextsAt BL r L v' (z++[((N.length:Int),n)])→To (Dn X u L v) (Dn X u' L v') w r→R e r):
 Calls Tryz.prog 194 #[.pointer (IQ X 0),.pointer (IQ L 0),Ib GH 0 0 0 n none 0 0,.func (.func 196) #[] #[]] w R:=by
 have HR:=ae hR;clear hR;have hk:=sal w (Hu GH 0 0 0 n none 0 0);have hd:=ag w (Hu GH 0 0 0 n none 0 0);have hH:=h.same hk;have hQ:∀b,w.heap.size≤b→¬Dx X u b:=fun b a=>(h.fresh (C:=0) (Nat.zero_le _) b a).2;have HH:=ae hH;have HD:=ae hd;have HK:=ae hk;have HQ:=ae hQ;have HL:=ae (hl.keep hk trivial fun _ _=>trivial);have If:=ae (jV h hl);have ch:=ae (am hl.blk);clear hk hd hH hQ h hl;have HW:Hid (w.heap.size<(w.alloc (Hu GH 0 0 0 n none 0 0)).heap.size):=ae (by simp);go_enter Tryz.func194,Tryz.ntmps194;go_wp2_with fail;generalize w.alloc _=w1 at HH HD HK HL HW⊢;have a8:=HW.o;refine qX HH.o (by omega) hN ?_;rintro e I u2 rfl h2 M;have x:=M.keep.at HD.o (HQ.o _ (Nat.le_refl _));have F:=ae (HL.o.to HH.o M);have cH:=ae (HK.o);have E:=ae (cN HK.o M);go_wp2_with fail;refine ES x ?_;rintro e uu rfl;have J:Keeps (·≠w.heap.size) I (I.setCell ⟨w.heap.size,1,none⟩ (IP (N.length:Int))):=(af _ I).but _ _;have o:(I.setCell ⟨w.heap.size,1,none⟩ (IP (N.length:Int))).heap[w.heap.size]?=(Iq GH N.length 0 0 n none 0 0):=by rw[aj x];simp
 generalize I.setCell ⟨w.heap.size,1,none⟩ (IP (N.length:Int))=j at J o⊢;have H:LowAt B j X u2 (N++[⟨#[]⟩]):=h2.keep J fun b a=>fun e=>by
  rcases M.new b a with hh|hh
  ·exact HQ.o b (by omega) hh
  ·omega
 have D:∀b,Dx X u2 b→b<j.heap.size:=fun b a=>H.lt a;have m:NextsAt BL j L v z:=F.o.keep J (by have :=ch.o;omega) fun b a e=>by
  obtain⟨_,bL,Z⟩:=ah F.o.own a;rw[e,x]at Z;simp at Z
 have f:To (Dx X u) (Dx X u2) w j:=⟨E.o.keep.trans J fun b a i=>⟨i,by omega⟩,E.o.new⟩;have fu:w.heap.size<j.heap.size:=am o;clear x h2 M J E F HH HD HK HL cH HW a8;have q:Same j j.drew:=al (af (fun _=>True) j);have l:=m.keep q trivial fun _ _=>trivial;obtain⟨g,cap,w5,hr,d,c,U,A⟩:=cF (P:=Tryz.prog) (k:=7) (by decide) j.drew 204 204 212 Tryz.underlying204 zV rfl l.own (by have :=q.size;omega) (nxC ((N.length:Int),n)) rfl (by simp[nxC,Value.oneCell']) (by omega) (by decide);have t:=q.at o trivial;have V:=aw t (.cells (nxC ((N.length:Int),n)).toArray 212);have T:=aw l.blk (.cells (nxC ((N.length:Int),n)).toArray 212);have O:v.ownBlock≠some w.heap.size:=fun e=>by
  obtain⟨_,bL,Z⟩:=ah m.own e;rw[o]at Z;simp at Z
 have Y:=c.at t O;have s:=c.at l.blk (oR m);have y5:=xc1 s 0 rfl;have f5:=ao s 0;have HF:=ae (And.intro d (And.intro c (And.intro U A)));have H3:=ae (And.intro H (And.intro f (And.intro D q)));have y:=ae m;have dE:=ae t;have cE:=ae l.blk;have dp:=ae V;have ce:=ae T;have dZ:=ae Y;have aL:=ae s;clear d c U A H f D q l t V T Y s m o O;obtain⟨sv,cv,rfl⟩:=av y.o.own;go_wp2_with fail;refine zq0 10 (.take 0 (.take 1 (.take 2 (.take 3 (.take 4 (.take 5 (.take 6 (.one 7 (.one 8 (.take 9 .last)))))))))) (fun r=>r.heap[L]?=some (.cells #[.slice sv z.length cv] 204)∧r.heap[w.heap.size]?=(Iq GH N.length 0 0 n none 0 0)) (by kernel_rfl) (by kernel_rfl) ⟨cE.o,dE.o⟩ ?_
 iterate 7 (first|(apply aC;rfl;rfl;go_simp)|(apply aB;rfl;rfl;intro r i;obtain⟨s0,G⟩:=i;have y0:=ai s0 0;have q0:=ai G 0;have q1:=ai G 1;have q2:=ai G 2;have q3:=ai G 3;have q4:=ai G 4;have q5:=ai G 5;simp only[List.getElem?_toArray,List.getElem?_cons_zero,List.getElem?_cons_succ]at y0 q0 q1 q2 q3 q4 q5;go_simp;exact rfl;go_simp))
 refine aI (ay rfl rfl fun K p=>?_);go_simp;refine p _ _ _ ⟨ce.o,dp.o⟩ (fun _ h=>h) ?_;clear p K;refine aI (bZ _ _ _ rfl rfl rfl ?hs ?hx hr _ ⟨aL.o,dZ.o⟩ (fun _ h=>h) ?_)
 case hs=>rfl
 case hx=>rfl
 clear hr;go_simp
 iterate 1 (first|(apply aC;rfl;rfl;go_simp)|(apply aB;rfl;rfl;intro r i;go_simp;exact rfl;go_simp))
 refine aO rfl rfl fun K p=>?_;go_simp;refine p _ _ (aG ?_);clear p K;go_wp2_with fail;obtain⟨d,c,U,A⟩:=HF.o;obtain⟨H,f,D,q⟩:=H3.o;have aH:=jV H y.o;have gI:L<j.heap.size:=am y.o.blk;have kL:Keeps (·≠L) w5 (w5.setCell ⟨L,0,none⟩ (.slice (IQ g 0) (z.length+1) cap)):=(af _ w5).but _ _;have gH:g≠L:=by
  rcases U with e|e
  ·exact fun e2=>oR y.o (e2▸e)
  ·have :=q.size;omega
 have fd:w.heap.size≤j.heap.size:=f.keep.size;refine HR.o _ _ u2 (.slice (IQ g 0) (z.length+1) cap) rfl ?_ ⟨?_,?_⟩ ⟨?_,?_⟩
 ·exact((H.same q).keep c fun b a e=>aH b (.inr e) a).keep kL fun b a e=>aH b (.inl e) a
 ·rw[aj aL.o];simp
 ·have :=ar d kL (fun b a=>by simp[Value.ownBlock]at a;omega)
  simpa using this
 ·exact((f.keep.trans q fun b a (i:¬Dx X u b)=>⟨i,trivial⟩).trans c fun b a (i:¬Dx X u b∧(Value.slice sv z.length cv).ownBlock≠some b)=>i).trans kL fun b a i=>⟨⟨fun e=>i (.inl e),fun e=>i (.inr (.inr e))⟩,fun e=>i (.inr (.inl e))⟩
 ·rintro b (a|rfl|a)
  ·exact(f.new b a).elim (fun e=>.inl (.inl e)) .inr
  ·exact .inl (.inr (.inl rfl))
  ·simp[Value.ownBlock]at a;subst a;rcases U with e|e
   ·exact .inl (.inr (.inr e))
   ·exact .inr (by have :=q.size;omega)
def je (N:List ByteArray) (t:Fm):Int:=if t.op=GG then du N t.name else(N.length:Int)
def cO (N:List ByteArray) (t:Fm):List ByteArray:=if t.op=GG then N else N++[⟨#[]⟩]
def cX (N:List ByteArray) (t:Fm) (ps:List (Int×Int)):List (Int×Int):=if t.op=GG then ps else ps++[((N.length:Int),t.num)]
theorem nw {B n c:Nat} {s:Option Addr} {N:List ByteArray} (h:w.ownsRow B 9 1 (.slice s n c) n (N.map Value.string)) (f:n=N.length) (h0:N≠[]):∃g,s=some ⟨g,0,none⟩∧N.length≤c∧g<w.heap.size∧∀j (d:j<N.length),w.cell? ⟨g,0+j,none⟩=some (.string N[j]):=by
 subst f;rcases h.2 with⟨e,a⟩|⟨g,cap,b,e,h1,h2,k,m,l,i⟩
 ·exact absurd (List.length_eq_zero_iff.1 a) h0
 ·simp at e;obtain⟨rfl,rfl⟩:=e;refine⟨g,rfl,k,am h2,fun j d=>?_⟩;rw[ai h2,Nat.zero_add];have :(b.toList.take (N.length*1))[j]?=(N.map Value.string)[j]?:=by rw[i]
  rw[List.getElem?_take_of_lt (by omega),List.getElem?_map,List.getElem?_eq_getElem d]at this
  simpa using this
theorem yB {B X C L:Nat} {u v F:Value} {N:List ByteArray} {o:List (Int×Int)} {t:Fm} {G:Nat→Prop} (h:LowAt B w X u N) (hB:B≤w.heap.size) (hN:N.length<6) (m:NextsAt C w L v o) (aH:C≤w.heap.size) (p:o.length≤10)
 (Y:GoodT t) (hv:FmIn G w F t) (h0:t.op=GG→N≠[])
 (H:∀e k E D,e=.returned (IP (je N t))→LowAt B k X E (cO N t)→NextsAt C k L D (cX N t o)→To (Dn X u L v) (Dn X E L D) w k→R e k):
 Calls Tryz.prog 151 #[.pointer (IQ X 0),.pointer (IQ L 0),F] w R:=by
 have I:=ae H;clear H
 cases Y with
 |vr l hn=>
  obtain⟨a,ka,kc,rfl,Z,q⟩:=hv;have b:=sal w (Ht GG (enc l) 0 a ka 0 kc);have d:=ae (h.same b);have i:=ae b;have j:=ae (m.keep b trivial fun _ _=>trivial);have z:=h0 rfl;clear h m b;go_enter Tryz.func151,Tryz.ntmps151;go_wp2_with fail;generalize w.alloc _=M at d i j⊢;obtain⟨s,c,rfl⟩:=av d.o.own;obtain⟨g,rfl,y,r,x⟩:=nw d.o.own rfl z;refine qY (by omega) y d.o.blk r x ?_;rintro e J rfl f;go_wp2_with fail;refine I.o _ _ _ _ rfl (d.o.same f) (j.o.keep f trivial fun _ _=>trivial) (To.of_same (i.o.tr f))
 |nm n hn0 hn=>
  obtain⟨a,ka,kc,rfl,Z,q⟩:=hv;have b:=sal w (Ht GH GA n a ka 0 kc);have d:=ae (h.same b);have i:=ae b;have j:=ae (m.keep b trivial fun _ _=>trivial);clear h m b;go_enter Tryz.func151,Tryz.ntmps151;go_wp2_with fail;generalize w.alloc _=M at d i j⊢;refine ut d.o hn ?_;rintro e J rfl h2 f;have A:=ae (j.o.to d.o f);have V:=i.o.size;have U:=f.keep.size;go_wp2_with fail;refine EU (n:=n) h2 (by omega) hN A.o (by omega) p ?_;rintro e w3 u3 v3 rfl h3 O T;go_wp2_with fail;refine I.o _ _ _ _ rfl h3 O ((cN i.o f.wide).trans T)
end
section
open Go.RowKit Go.Shelf
attribute [local go_sem] Oper.semAt_some
variable {R:Ending→World→Prop} {w:World}
def nx0:Int×Int:=(0,0)
def E9 (x:Nat×(Int×Int)):Array Value:=#[IP x.1,.agg (nxC x.2).toArray]
theorem Gq (n:Nat) (hn:1≤n) (l s b off cap:Nat) (I:Option Addr) (D:List (Int×Int)) (A:D≠[]→I=some ⟨b,off,none⟩) (hD:D.length≤100000) (G:D.length≤cap) (J L:List (Nat×(Int×Int))→World→Prop)
 (O:∀a x W,J a W→a.length<D.length→YieldAt Fence.wide (n -1) Tryz.prog l (E9 x) W fun e p=>
  (e=.returned (.bool true)∧J (a++[x]) p∧Two s b W p)∨(e=.returned (.bool false)∧L (a++[x]) p))
 (W:World) (B:W.cell? ⟨s,0,none⟩=some (.slice I D.length cap))
 (N:∀j (hj:j<D.length),∀i y,(nxC D[j])[i]?=some y→W.cell? ⟨b,off+j*7+i,none⟩=some y) (h0:J [] W):
 CallsIn Fence.wide n Tryz.prog 201 #[.func (.yield l) #[] #[],.pointer (IQ s 0)] W fun e p=>(∃v,e=.returned v)∧
  ((∃C,C=bwL nx0 D D.length∧J C p)∨(∃a,(∃k,k≤D.length∧a=bwL nx0 D k)∧L a p)):=by
 refine callsIn_of_wp Tryz.func201 rfl trivial ?_ rfl;simp only[Tryz.ntmps201,List.size_toArray,List.length_cons,List.length_nil,Nat.reduceAdd,Nat.reduceSub,Array.replicate_succ,Array.replicate_zero,List.push_toArray,List.append_toArray,List.nil_append,List.cons_append]
 gi_wp2
 gi_loopw [3] (fun i wr=>Two s b W wr∧((∃m:Nat,m<D.length∧i=.int .i64 (m:Int)∧J (bwL nx0 D (D.length -1 -m)) wr)∨(i=.int .i64 (-1)∧J (bwL nx0 D D.length) wr)))
  (fun i _=>(intOf i+1).toNat)
 case atStart=>
  refine⟨Two.refl _ _ _,?_⟩;by_cases F:D.length=0
  ·exact .inr ⟨by rw[F];rfl,by rw[F];exact h0⟩
  ·exact .inl ⟨D.length -1,by omega,by congr 1;omega,by rw[Nat.sub_self];exact h0⟩
 case round=>
  obtain⟨g,⟨m,r,rfl,h⟩|⟨rfl,h⟩⟩:=hrel
  ·obtain rfl:=A (fun e=>by rw[e]at r;exact absurd r (Nat.not_lt_zero _));have f:=N m r;replace f:∀i y,(nxC D[m])[i]?=some y→wr.cell? ⟨b,off+m*7+i,none⟩=some y:=fun i y t=>(g.c2 _).trans (f i y t);have H:=(g.c1 _).trans B;have c:=pO nx0 D r;generalize D[m]=d at f c;have M:=f 0 _ rfl;have z1:=f 1 _ rfl;have Z:=f 2 _ rfl;have Y:=f 3 _ rfl;have X:=f 4 _ rfl;have V:=f 5 _ rfl;have U:=f 6 _ rfl;simp only[Nat.add_zero]at M;clear f;obtain⟨fn,E,assign,body,t,T⟩:=O _ (m,d) wr h (by rw[lp];omega);simp only[E9,nxC]at t
   gi_wp2
   refine T.mono ?_;rintro e W3 (⟨rfl,o,z⟩|⟨rfl,q⟩)
   ·rw[←c]at o
    gi_wp2
    go_roundw
    case rel=>
     refine⟨g.trans z,?_⟩;by_cases u:m=0
     ·subst u;exact .inr ⟨rfl,by rwa [Nat.sub_zero]at o⟩
     ·refine .inl ⟨m -1,by omega,by congr 1;omega,?_⟩;have :D.length -1 -(m -1)=D.length -m:=by omega
      rw[this];exact o
    case measure=>simp[intOf]
   ·gi_wp2
    refine bodyPost_ret (results_none rfl _ _ _) rfl ?_;exact⟨⟨_,rfl⟩,.inr ⟨_,⟨D.length -m,by omega,c.symm⟩,q⟩⟩
  ·gi_wp2
   go_end0;exact⟨⟨_,rfl⟩,.inl ⟨_,rfl,h⟩⟩
theorem xK (n:Nat) (q:1≤n) (a b off cap:Nat) (g:Option Addr) (D:List (Int×Int)) (e:D≠[]→g=some ⟨b,off,none⟩) (v:D.length≤100000) (c:D.length≤cap) (w:World) (f:a<w.heap.size) (s:b<w.heap.size)
 (x:w.cell? ⟨a,0,none⟩=some (.slice g D.length cap))
 (r:∀j (h:j<D.length),∀i y,(nxC D[j])[i]?=some y→w.cell? ⟨b,off+j*7+i,none⟩=some y):
 SeqStopsK Fence.wide n Tryz.prog 201 #[.pointer (IQ a 0)] E9 (Two a b) (fun o=>o=bwL nx0 D D.length) (fun d=>∃k,k≤D.length∧d=bwL nx0 D k) D.length w:=fun l J z W u _ _ t h0=>by
 have m:Two a b w W:=Two.of (dq u) f s trivial trivial;exact Gq n q l a b off cap g D e v c J z t W ((m.c1 _).trans x) (fun j h=>by
  exact fun i y p=>(m.c2 _).trans (r j h i y p)) h0
theorem Gy {a:Option Addr} {b cap:Nat} {w:World}:Calls Tryz.prog 153 #[.slice a b cap] w fun e c=>e=.returned (.func (.func 201) #[] #[.pointer (IQ w.heap.size 0)])∧c=w.alloc (Iv a b cap):=by
 go_enter Tryz.func153,Tryz.ntmps153;go_wp2_with fail
 go_ret
 exact⟨rfl,rfl⟩
def lq (c:Co) (l:List (Nat×(Int×Int))):Co:=l.foldl (fun c p=>.bound p.2.1 (.leaf GH p.2.1 0 0 p.2.2) c) c
def g9 (N:List ByteArray) (op:ByteArray) (a b:Fm):Co:=
 lq (.pair op (je N a) (je (cO N a) b)) (bwL nx0 (cX (cO N a) b (cX N a [])) (cX (cO N a) b (cX N a [])).length)
theorem qB (N:List ByteArray) (t:Fm):(cO N t).length≤N.length+1∧N.length≤(cO N t).length:=by unfold cO;split<;>simp
theorem ou (N:List ByteArray) (t:Fm):(cO N t).take N.length=N:=by unfold cO;split<;>simp
theorem Bm {N:List ByteArray} (t:Fm) (h:N≠[]):cO N t≠[]:=by unfold cO;split<;>simp[h]
theorem qA (N:List ByteArray) (t:Fm) (a:List (Int×Int)):(cX N t a).length≤a.length+1:=by unfold cX;split<;>simp
theorem bN {Y:World} {row:Option Nat} {p:Addr} {x:Value} (h:w.cell? p=some x) (c:w.grownBy Y row) (b:∀r,row=some r→∃o:Obj,w.heap[r]?=some o∧o.isCells=false):Y.cell? p=some x:=by
 have a:p.block<w.heap.size:=World.block_lt_of_cell? w p h;have d:Y.heap[p.block]?=w.heap[p.block]?:=c.block _ a (fun e=>by
  obtain⟨o,ho,f⟩:=b _ e.symm;unfold World.cell? at h;rw[ho]at h
  cases o<;>simp_all [Obj.isCells])
 unfold World.cell? at h⊢;rw[d];exact h
theorem CoIn.grown {G:Nat→Prop} {Y:World} {row:Option Nat} (b:w.grownBy Y row) (a:∀r,row=some r→∃o:Obj,w.heap[r]?=some o∧o.isCells=false):∀{t:Co} {v:Value},CoIn G w v t→CoIn G Y v t
 | .leaf _ _ _ _ _,_,h=>h
 | .one _ _ _,_,⟨bl,off,kc,e,q,hb,x0,x1,x2,x3,x4,x5,c0,c1,c2,c3,c4,c5,hk⟩=>⟨bl,off,kc,e,q,hb,x0,x1,x2,x3,x4,x5,bN c0 b a,bN c1 b a,bN c2 b a,bN c3 b a,bN c4 b a,bN c5 b a,CoIn.grown b a hk⟩
 | .two _ _ _,_,⟨bl,off,kc,e,q,hb,⟨x0,x1,x2,x3,x4,x5,c0,c1,c2,c3,c4,c5,hk⟩,⟨y0,y1,y2,y3,y4,y5,d0,d1,d2,d3,d4,d5,hl⟩⟩=>⟨bl,off,kc,e,q,hb,⟨x0,x1,x2,x3,x4,x5,bN c0 b a,bN c1 b a,bN c2 b a,bN c3 b a,bN c4 b a,bN c5 b a,CoIn.grown b a hk⟩,⟨y0,y1,y2,y3,y4,y5,bN d0 b a,bN d1 b a,bN d2 b a,bN d3 b a,bN d4 b a,bN d5 b a,CoIn.grown b a hl⟩⟩
theorem uf {B n c:Nat} {s:Option Addr} {a:List (Int×Int)} (h:w.ownsRow B 212 7 (.slice s n c) n (a.map nxC).flatten) (u:n=a.length) {d:Nat} (r:d<w.heap.size):∃g,(a≠[]→s=some ⟨g,0,none⟩)∧a.length≤c∧g<w.heap.size∧(s=some ⟨g,0,none⟩∨g=d)∧∀j (b:j<a.length),∀i y,(nxC a[j])[i]?=some y→w.cell? ⟨g,0+j*7+i,none⟩=some y:=by
 subst u;rcases h.2 with⟨e,f⟩|⟨g,cap,z,e,h1,h2,v,G,F,E⟩
 ·have :=List.length_eq_zero_iff.1 f;subst this;exact⟨d,fun h=>absurd rfl h,Nat.zero_le _,r,.inr rfl,fun j b=>absurd b (Nat.not_lt_zero _)⟩
 ·simp at e;obtain⟨rfl,rfl⟩:=e;refine⟨g,fun _=>rfl,v,am h2,.inl rfl,fun j b i y o=>?_⟩;have hs:StrAt 7 w (.slice (IQ g 0) a.length c) (a.map nxC):=dg (fun x hx=>by obtain⟨q,_,rfl⟩:=List.mem_map.1 hx;rfl) (by rw[List.length_map];exact h);obtain⟨A,H,l,D,C,m⟩:=hs.open;simp at l;obtain⟨rfl,_,rfl⟩:=l;obtain⟨I,off,k,p,t⟩:=m j (by simpa using b);simp at k;obtain⟨rfl,rfl⟩:=k;exact t j (nxC a[j]) (by rw[List.getElem?_map,List.getElem?_eq_getElem b];rfl) i y o
theorem l6 {B X:Nat} {u nd:Value} {N:List ByteArray} {x:ByteArray} {a b:Fm} (h:LowAt B w X u N) (hB:B≤w.heap.size) (hN:N.length+2≤6) (h0:N≠[])
 (ho:x=GN∨x=GK∨x=GE∨x=GQ∨x=GR) (ha:GoodT a) (hb:GoodT b) (hv:FmIn (fun b=>¬Dx X u b) w nd (.two x GA 0 a b))
 (hR:∀e w' u' v,e=.returned v→LowAt B w' X u' N→To (Dx X u) (Dx X u') w w'→CoIn (fun b=>w.heap.size≤b∧¬Dx X u' b) w' v (g9 N x a b)→R e w'):
 Calls Tryz.prog 103 #[.pointer (IQ X 0),nd] w R:=by
 refine(callsIn_wide (n:=4)).1 ?_;have HR:=ae hR;clear hR;obtain⟨t,Z,off,kc,rfl,⟨_,Kq,Ka⟩,JR,J9,J8⟩:=hv;obtain⟨a0,a1,a2,a3,a4,I2,Jb,Ja,I9,I8,JN⟩:=J9;obtain⟨b0,b1,b2,b3,b4,gI,gH,fw,fu,fd,JM⟩:=J8;unfold maxLen at Ka;have JU:=I2;have hs1:(w.alloc (Ht x GA 0 t (IQ Z off) 2 kc)).heap.size=w.heap.size+1:=by simp
 have JC:((w.alloc (Ht x GA 0 t (IQ Z off) 2 kc)).alloc Hl).heap.size=w.heap.size+1+1:=by simp
 have JB:(((w.alloc (Ht x GA 0 t (IQ Z off) 2 kc)).alloc Hl).alloc (Iv none 0 0)).heap.size=w.heap.size+1+1+1:=by simp
 have k2:Same w ((w.alloc (Ht x GA 0 t (IQ Z off) 2 kc)).alloc Hl):=((af (fun _=>True) w).alloc (Ht x GA 0 t (IQ Z off) 2 kc)).alloc Hl;have k3:Same w (((w.alloc (Ht x GA 0 t (IQ Z off) 2 kc)).alloc Hl).alloc (Iv none 0 0)):=k2.alloc (Iv none 0 0);have Jn:=aw (aw (ag w (Ht x GA 0 t (IQ Z off) 2 kc)) Hl) (Iv none 0 0);have Jl:=aw (ag (w.alloc (Ht x GA 0 t (IQ Z off) 2 kc)) Hl) (Iv none 0 0);have Jo:=ag ((w.alloc (Ht x GA 0 t (IQ Z off) 2 kc)).alloc Hl) (Iv none 0 0);rw[hs1]at Jl;rw[JC]at Jo;have x0:=xc1 h.blk 0 rfl;replace x0:=k2.cell x0 trivial;have z4:=xc1 Jn 4 rfl;replace I2:=k3.cell I2 trivial;replace Jb:=k3.cell Jb trivial;replace Ja:=k3.cell Ja trivial;replace I9:=k3.cell I9 trivial;replace I8:=k3.cell I8 trivial;replace gI:=k3.cell gI trivial;replace gH:=k3.cell gH trivial;replace fw:=k3.cell fw trivial;replace fu:=k3.cell fu trivial;replace fd:=k3.cell fd trivial;have HH:=ae (h.same k3);have Jy:=ae (JN.same k3);have Jw:Hid (FmIn (fun b=>¬Dn X u (w.heap.size+1+1) IM b) _ _ _):=ae (iC (bH (fun b Kr hG=>by
  rintro(e|e|e)
  ·exact hG e
  ·omega
  ·cases e) JM) k3)
 have Ki:Z<w.heap.size:=World.block_lt_of_cell? w _ JU;have Ju:=ae Jn;have Js:=ae Jl;have Jv:=ae Jo;have JX:=ae k3;have JV:=ae JB;have HQ:Hid (∀b,w.heap.size≤b→¬Dx X u b):=ae (fun b hb=>(h.fresh (C:=0) (Nat.zero_le _) b hb).2);have Kh:=ae JR;obtain⟨su,cu,rfl⟩:=av h.own;clear h JN JM Jn Jl Jo k2 k3 hs1 JC JB JR;refine callsIn_of_wp_marks Tryz.func103 rfl trivial ?_ rfl;simp only[Tryz.ntmps103,List.size_toArray,List.length_cons,List.length_nil,Nat.reduceAdd,Nat.reduceSub,Array.replicate_succ,Array.replicate_zero,List.push_toArray,List.append_toArray,List.nil_append,List.cons_append]
 gi_wp2
 generalize((w.alloc (Ht x GA 0 t (IQ Z off) 2 kc)).alloc Hl).alloc (Iv none 0 0)=w3 at HH Jy Jw Ju Js Jv JX JV I2 Jb Ja I9 I8 gI gH fw fu fd⊢;have J1:=JV.o;have JH:NextsAt w.heap.size w3 (w.heap.size+1+1) IM []:=⟨Jv.o,rfl,.inl ⟨rfl,rfl⟩⟩;refine⟨trivial,callsIn_wide.2 (yB HH.o (by omega) (by omega) JH (by omega) (by simp) ha Jy.o (fun _=>h0) ?_)⟩;rintro e w4 u4 v4 rfl h4 l4 k4;have J5:=qB N a;have JD:=qA N a [];have I7:∀b,w.heap.size≤b→b≠w.heap.size+1+1→¬Dn X (.slice su N.length cu) (w.heap.size+1+1) IM b:=by
  rintro b hb J4 (e|e|e)
  ·exact HQ.o b hb e
  ·exact J4 e
  ·cases e
 have dZ:¬Dn X (.slice su N.length cu) (w.heap.size+1+1) IM Z:=by
  rintro(e|e|e)
  ·exact Kh.o e
  ·omega
  ·cases e
 have IT:=k4.keep.at Ju.o (I7 _ (Nat.le_refl _) (by omega));have Jd:=k4.keep.at Js.o (I7 _ (by omega) (by omega));replace gI:=k4.keep.cell gI dZ;replace gH:=k4.keep.cell gH dZ;replace fw:=k4.keep.cell fw dZ;replace fu:=k4.keep.cell fu dZ;replace fd:=k4.keep.cell fd dZ;have z4:=xc1 IT 4 rfl;have Jh:=ae (Jw.o.to k4);have H4:=ae h4;have L4:=ae l4;have K4:=ae (cN JX.o k4);have I5:=ae IT;have I4:=ae Jd;have J0:=Nat.le_trans (Nat.le_of_eq J1.symm) k4.keep.size;clear h4 l4 IT Jd I2 Jb Ja I9 I8 Jy Jw HH Ju Js Jv JH
 gi_wp2
 refine⟨trivial,callsIn_wide.2 (yB H4.o (by omega) (by omega) L4.o (by omega) (by simp at JD;omega) hb Jh.o (fun _=>Bm a h0) ?_)⟩;rintro e w5 u5 v5 rfl h5 l5 k5;have Ko:=qB (cO N a) b;have Km:=qA (cO N a) b (cX N a []);have JT:=K4.o.trans k5;have Kl:=Nat.le_trans J0 k5.keep.size;have J6:=l5.blk;have IS:w5.heap[w.heap.size]?=_:=k5.keep.at I5.o (fun e=>by
  rcases e with e|e|e
  ·rcases k4.new _ (.inl e)with e|e
   ·exact I7 _ (Nat.le_refl _) (by omega) e
   ·omega
  ·omega
  ·obtain⟨_,I1,hc⟩:=ah L4.o.own e;rw[I5.o]at hc;simp at hc)
 have Jc:w5.heap[w.heap.size+1]?=_:=k5.keep.at I4.o (fun e=>by
  rcases e with e|e|e
  ·rcases k4.new _ (.inl e)with e|e
   ·exact I7 _ (by omega) (by omega) e
   ·omega
  ·omega
  ·obtain⟨_,I1,hc⟩:=ah L4.o.own e;rw[I4.o]at hc;simp at hc)
 have z0:=xc1 IS 0 rfl;have JL:∀b,w5.heap.size≤b→w5.heap.size≤b∧¬Dn X u5 (w.heap.size+1+1) v5 b:=fun b hb=>⟨hb,fun e=>by
  rcases e with e|e|e
  ·have :=h5.lt e;omega
  ·omega
  ·obtain⟨_,I1,hc⟩:=ah l5.own e;have :=am hc;omega⟩
 have H5:=ae h5;have L5:=ae l5;have K5:=ae JT;have Kj:=ae IS;have I3:=ae Jc;have JY:=ae JL;clear h5 l5 JT IS Jc JL J6 gI gH fw fu fd Jh H4 L4 K4 I5 I4 z4 k4 k5 dZ
 gi_wp2
 refine⟨trivial,callsIn_wide.2 (ET (G:=fun b=>w5.heap.size≤b∧¬Dn X u5 (w.heap.size+1+1) v5 b) ho JY.o ?_)⟩;rintro e i v6 rfl JQ k6;have I6:CoIn (fun b=>(w5.heap.size≤b∧¬Dn X u5 (w.heap.size+1+1) v5 b)∧b<i.heap.size) i v6 _:=JQ.mono fun b hb hG=>⟨hG,hb⟩;generalize hT:Co.pair x (je N a) (je (cO N a) b)=T at I6;have HT:=ae hT;clear hT JQ;obtain⟨E,D,rfl,_,_⟩:=I6.shape;have dp:=ae I6;clear I6;generalize T.op=M at dp⊢;generalize T.va=L at dp⊢;generalize T.vb=J at dp⊢;generalize T.vc=I at dp⊢;generalize T.vn=H at dp⊢;generalize T.kids.length=F at dp⊢;have k7:=sal i (Hu M L J I H E F D);have IW:=(k6.tr k7).at L5.o.blk trivial;have y0:=xc1 IW 0 rfl;obtain⟨ad,cap,rfl⟩:=av L5.o.own;have Jg:=ag i (Hu M L J I H E F D);have Jj:=ae Jg;have HY:=ae IW;have JW:=ae (k6.tr k7);have Kk:=k6.size;have Jm:(i.alloc (Hu M L J I H E F D)).heap.size=i.heap.size+1:=by simp
 have Ji:=ae (dp.o.same k7);clear Jg IW k7
 gi_wp2_with (refine⟨trivial,?_⟩;gi_at_call 153;refine(callsIn_wide.2 Gy).mono ?_;rintro e w' ⟨rfl,rfl⟩)
 have IZ:=aw Jj.o (Iv ad (cX (cO N a) b (cX N a [])).length cap);have IR:=ag (i.alloc (Hu M L J I H E F D)) (Iv ad (cX (cO N a) b (cX N a [])).length cap);rw[Jm]at IR;have Jk:Same (i.alloc (Hu M L J I H E F D)) ((i.alloc (Hu M L J I H E F D)).alloc (Iv ad (cX (cO N a) b (cX N a [])).length cap)):=(af _ _).alloc _;have k8:=JW.o.tr Jk;have J3:((i.alloc (Hu M L J I H E F D)).alloc (Iv ad (cX (cO N a) b (cX N a [])).length cap)).heap.size=i.heap.size+2:=by simp
 have Jf:=Ji.o.same Jk;rw[Jm]at *;obtain⟨W8,JS⟩:∃W8,(i.alloc (Hu M L J I H E F D)).alloc (Iv ad (cX (cO N a) b (cX N a [])).length cap)=W8:=⟨_,rfl⟩;rw[JS]at IZ IR k8 J3 Jf⊢;clear JS Jk JW Ji Jj HY y0 Jm;have JG:=(L5.o.keep k8 trivial fun _ _=>trivial);obtain⟨g8,Kf,JP,Kc,Kb,Ke⟩:=uf JG.own rfl (d:=i.heap.size+1) (by omega);have JJ:g8≠i.heap.size:=by
  rcases Kb with e|e
  ·intro e2;obtain⟨_,I1,hc⟩:=ah JG.own (g:=g8) (by rw[e];rfl);rw[e2,IZ]at hc;simp at hc
  ·omega
 refine wpIn_rangeFunc_ownH rfl (by omega) (gf:=201) (lb:=#[.pointer (some ⟨i.heap.size+1,0,none⟩)]) rfl trivial (enters_of Tryz.func201 (by kernel_rfl) rfl)
  (xK 3 (by omega) (i.heap.size+1) g8 0 cap ad (cX (cO N a) b (cX N a [])) Kf (by simp at JD;omega) JP W8 (by omega) Kc (by rw[ai IR];rfl) Ke)
  Two.trans (fun W l o o' hl _ _ _=>⟨by rw[World.putObj_heap_other (by omega)],by rw[World.putObj_heap_other (by omega)]⟩) (Below.refl _ _) (fun _=>rfl)
  (fun z W=>(∃x0 x1 x2 x3 x4 x5,W.heap[i.heap.size]?=some (.cells #[x0,x1,x2,x3,x4,x5] 70)∧CoIn (fun y=>(w5.heap.size≤y∧¬Dn X u5 (w.heap.size+1+1) (.slice ad (cX (cO N a) b (cX N a [])).length cap) y)∧y≠i.heap.size) W (.agg #[x0,x1,x2,x3,x4,x5]) (lq T z))∧Keeps (·≠i.heap.size) W8 W)
  (fun c z W=>False)
  (fun z X' Y row hs hg hr=>by
   obtain⟨⟨x0,x1,x2,x3,x4,x5,h1,h2⟩,h3⟩:=hs;exact⟨⟨x0,x1,x2,x3,x4,x5,eX h1 hg hr,h2.grown hg fun r e=>(hr r e).2⟩,h3.grown hg fun k e hh=>by have :=(hr k e).1;omega⟩)
  (fun c s A B row hs hg hr=>hs)
  ⟨⟨_,_,_,_,_,_,IZ,Jf.mono fun b _ hG=>⟨hG.1,by omega⟩⟩,af _ _⟩
  (fun p a' W=>∃Bx,Bx≠i.heap.size∧W.heap[Bx]?=some (.cells #[p.2.1,GH,p.2.1,IU,IU,p.2.2,IM] 212)∧a'={tmps:=#[.pointer (IQ X 0),Hw x GA 0 t (IQ Z off) 2 kc,undef,.pointer (IQ w.heap.size 0),.pointer (some ⟨w.heap.size+1,0,none⟩),IP N.length,.pointer (some ⟨w.heap.size+1+1,0,none⟩),IP (je N a),IP (je (cO N a) b),.pointer (IQ i.heap.size 0),undef,.pointer (IQ Bx 0),.pointer (IQ X 0),.pointer (IQ X 0),.pointer (IQ X 0),.slice su N.length cu,IP N.length,.pointer (IQ X 0),.pointer (IQ w.heap.size 4),.slice (IQ Z off) 2 kc,.pointer (IQ Z off),.agg #[a0,a1,a2,a3,a4],IP (je N a),.pointer (IQ X 0),.pointer (IQ w.heap.size 4),.slice (IQ Z off) 2 kc,.pointer (some ⟨Z,off+5,none⟩),.agg #[b0,b1,b2,b3,b4],IP (je (cO N a) b),.pointer (IQ w.heap.size 0),.string x,IP (je N a),IP (je (cO N a) b),Ib M L J I H E F D,.slice ad (cX (cO N a) b (cX N a [])).length cap,.func (.func 201) #[] #[.pointer (some ⟨i.heap.size+1,0,none⟩)],IP p.1,.agg #[p.2.1,GH,p.2.1,IU,IU,p.2.2,IM],undef,undef,undef,undef,undef,undef,undef,undef,undef,undef],defers:=[]})
  (fun p a' _ X' Y row hs hg hr=>by obtain⟨Bx,h1,h2,h3⟩:=hs;exact⟨Bx,h1,eX h2 hg hr,h3⟩)
  ?assign ?body ?done ?stop
 case assign=>
  rintro l z ⟨m,n1,n2⟩ W K ⟨⟨x0,x1,x2,x3,x4,x5,h1,h2⟩,h3⟩ hK;have JA:=h3.size;simp only[E9,nxC]
  gi_wp2
  have ka:=sal W (.cells #[n1,GH,n1,IU,IU,n2,IM] 212);exact hK _ _ ((KeepsOthers.alloc _ _).from _) (Two.of ka (by omega) (by omega) trivial trivial) ⟨⟨x0,x1,x2,x3,x4,x5,aw h1 _,h2.same ka⟩,h3.alloc _⟩ ⟨W.heap.size,by omega,ag W _,rfl⟩
 case body=>
  rintro l z ⟨m,n1,n2⟩ a' W hl ⟨r,hr⟩ ⟨⟨x0,x1,x2,x3,x4,x5,h1,h2⟩,h3⟩ ⟨Bx,Ks,V,rfl⟩ Kp;dsimp only at V⊢;obtain⟨y0,y1,y2,y3,y4,y5,y6⟩:=xc7 V rfl rfl rfl rfl rfl rfl rfl;obtain⟨d0,d1,d2,d3,d4,d5⟩:=xc6 h1 rfl rfl rfl rfl rfl rfl;have JA:=h3.size
  gi_wp2
  refine⟨trivial,CallsIn.inRound l (callsIn_wide.2 (ph (k:=.leaf GH n1 0 0 n2) (G:=fun y=>(w5.heap.size≤y∧¬Dn X u5 (w.heap.size+1+1) (.slice ad (cX (cO N a) b (cX N a [])).length cap) y)∧y≠i.heap.size) ⟨none,0,rfl,Nat.zero_le _⟩ h2 (fun y hy=>⟨JY.o y (by omega),by omega⟩) ?_))⟩;rintro e w9 v9 rfl If k9;have I0:lq T (z++[(m,n1,n2)])=.bound n1 (.leaf GH n1 0 0 n2) (lq T z):=by simp[lq]
  rw[←I0]at If;generalize JK:lq T (z++[(m,n1,n2)])=T9 at If;have Jt:=ae JK;clear I0 JK;obtain⟨U,O,rfl,_,_⟩:=If.shape;have cH:=ae If;clear If;generalize T9.op=ch at cH⊢;generalize T9.va=ce at cH⊢;generalize T9.vb=bL at cH⊢;generalize T9.vc=a8 at cH⊢;generalize T9.vn=aL at cH⊢;generalize T9.kids.length=aH at cH⊢;have f:=k9.at h1 trivial;obtain⟨q0,q1,q2,q3,q4,q5⟩:=xc6 f rfl rfl rfl rfl rfl rfl;obtain⟨g0,g1,g2,g3,g4,g5⟩:=xf6 f;clear d0 d1 d2 d3 d4 d5 y0 y1 y2 y3 y4 y5 y6
  gi_wp2
  have gJ:=aU w9 i.heap.size (.string ch) (IP ce) (IP bL) (IP a8) (IP aL) (.slice U aH O);have J7:KeepsOthers W w9:=⟨k9.size,fun k o hk _=>k9.at hk trivial⟩;have Jz:Keeps (·≠i.heap.size) W _:=(k9.mono (S':=fun y=>y≠i.heap.size) fun _ _ _=>trivial).tr gJ;exact⟨((((((J7.trans (KeepsOthers.setCell _ _ _)).trans (KeepsOthers.setCell _ _ _)).trans (KeepsOthers.setCell _ _ _)).trans (KeepsOthers.setCell _ _ _)).trans (KeepsOthers.setCell _ _ _)).trans (KeepsOthers.setCell _ _ _)).from _,Two.of Jz (by omega) (by omega) (by omega) JJ,⟨_,_,_,_,_,_,bE f (.string ch) (IP ce) (IP bL) (IP a8) (IP aL) (.slice U aH O),by rw[Jt.o];exact cH.o.kept gJ fun y hy=>hy.2⟩,h3.tr Jz⟩
 case done=>
  rintro D' ys W Kg rfl ⟨⟨x0,x1,x2,x3,x4,x5,h1,h2⟩,h3⟩ hK;have JA:=h3.size;have h8:LowAt B W X u5 (cO (cO N a) b):=(H5.o.same k8).keep h3 fun y hy=>by have :=H5.o.lt hy;omega
  have JZ:=h3.at (k8.at I3.o trivial) (by omega)
  gi_wp2
  refine⟨trivial,callsIn_wide.2 (yC (n:=N.length) h8 (by omega) ?_)⟩;rintro e w9 u9 v9 rfl h9 k9;have JF:∀y,w5.heap.size≤y→¬Dx X u5 y:=fun y hy e=>by have :=H5.o.lt e;omega
  have JE:¬Dx X u5 (w.heap.size+1):=fun e=>by
   rcases e with e|e
   ·have e2:=I3.o;rw[e,H5.o.blk]at e2;simp at e2
   ·obtain⟨_,I1,hc⟩:=ah H5.o.own e;rw[I3.o]at hc;simp at hc
  have f:=k9.keep.at h1 (JF _ (by omega));have j:=k9.keep.at JZ JE;have Jp:=(h2.mono (G':=fun y=>((w5.heap.size≤y∧¬Dn X u5 (w.heap.size+1+1) (.slice ad (cX (cO N a) b (cX N a [])).length cap) y)∧y≠i.heap.size)∧y<W.heap.size) fun y hy hG=>⟨hG,hy⟩).kept k9.keep fun y hy e=>hy.1.1.2 (.inl e);obtain⟨U,O,e9,_,_⟩:=Jp.shape;simp only[Value.agg.injEq,Array.mk.injEq,List.cons.injEq,and_true]at e9;obtain⟨rfl,rfl,rfl,rfl,rfl,rfl⟩:=e9;have cE:=ae Jp;have H9:=ae h9;have K9:=ae k9;clear Jp h9 h2 k9;generalize I0:lq T (bwL nx0 (cX (cO N a) b (cX N a [])) (cX (cO N a) b (cX N a [])).length)=T9 at cE f⊢;have Jt:=ae I0;clear I0;generalize T9.op=ch at cE f⊢;generalize T9.va=ce at cE f⊢;generalize T9.vb=bL at cE f⊢;generalize T9.vc=a8 at cE f⊢;generalize T9.vn=aL at cE f⊢;generalize T9.kids.length=aH at cE f⊢;obtain⟨q0,q1,q2,q3,q4,q5⟩:=xc6 f rfl rfl rfl rfl rfl rfl;obtain⟨d0,d1,d2,d3,d4,d5⟩:=xc6 j rfl rfl rfl rfl rfl rfl;obtain⟨g0,g1,g2,g3,g4,g5⟩:=xf6 j
  gi_wp2
  have Jq:=K9.o.keep.at hK (JF _ (by omega));have Jr:=(((((((KeepsOthers.setCell w9 ⟨w.heap.size+1,0,none⟩ (.string ch)).trans (KeepsOthers.setCell _ ⟨w.heap.size+1,1,none⟩ (IP ce))).trans (KeepsOthers.setCell _ ⟨w.heap.size+1,2,none⟩ (IP bL))).trans (KeepsOthers.setCell _ ⟨w.heap.size+1,3,none⟩ (IP a8))).trans (KeepsOthers.setCell _ ⟨w.heap.size+1,4,none⟩ (IP aL))).trans (KeepsOthers.setCell _ ⟨w.heap.size+1,5,none⟩ (.slice U aH O)))).same D' _ Jq rfl;refine⟨by simp,.inl ⟨_,_,rfl,run_takeDeferred Jr,?_⟩⟩;have dE:=eX (bE j (.string ch) (IP ce) (IP bL) (IP a8) (IP aL) (.slice U aH O)) (grownBy_putObj' _ D' (.deferred none)) (N:=0) (fun r e=>by cases e;exact⟨Nat.zero_le _,_,Jr,rfl⟩);obtain⟨c0,c1,c2,c3,c4,c5⟩:=xc6 dE rfl rfl rfl rfl rfl rfl;refine⟨(Ib ch ce bL a8 aL U aH O),?_,?_⟩
  ·simp[results,Tryz.f103,go_sem,c0,c1,c2,c3,c4,c5]
  ·have gJ:=aU w9 (w.heap.size+1) (.string ch) (IP ce) (IP bL) (IP a8) (IP aL) (.slice U aH O);have JI:=grownBy_putObj' ((((((w9.setCell ⟨w.heap.size+1,0,none⟩ (.string ch)).setCell ⟨w.heap.size+1,1,none⟩ (IP ce)).setCell ⟨w.heap.size+1,2,none⟩ (IP bL)).setCell ⟨w.heap.size+1,3,none⟩ (IP a8)).setCell ⟨w.heap.size+1,4,none⟩ (IP aL)).setCell ⟨w.heap.size+1,5,none⟩ (.slice U aH O)) D' (.deferred none);have kp:=(gJ.mono (S':=fun y=>y≠w.heap.size+1∧y≠D') fun _ _ h=>h.1).grown JI (fun k e hh=>by cases e;exact hh.2.2 rfl);have JO:∀y,Dx X u5 y→Dx X (.slice su N.length cu) y∨w.heap.size≤y:=fun y e=>by
    rcases K5.o.new y (.inl e)with(e|e|e)|e
    ·exact .inl e
    ·exact .inr (by omega)
    ·cases e
    ·exact .inr e
   have Kd:∀y,Dx X u9 y→y≠w.heap.size+1∧y≠D':=fun y e=>⟨fun e2=>by
    rcases K9.o.new y e with e3|e3
    ·exact JE (e2▸e3)
    ·omega,fun e2=>by
    rcases e with e|e
    ·have q:=Jq;rw[←e2,e,H9.o.blk]at q;simp at q
    ·obtain⟨_,I1,hc⟩:=ah H9.o.own e;rw[e2,Jq]at hc;simp at hc⟩
   have J2:(cO (cO N a) b).take N.length=N:=by
    have e1:=ou (cO N a) b;have e2:=ou N a;rw[←e1,List.take_take,Nat.min_eq_left J5.2]at e2;exact e2
   have Je:=H9.o.keep kp Kd;rw[J2]at Je;refine HR.o _ _ u9 _ rfl Je ⟨?_,?_⟩ ?_
   ·refine(((K5.o.keep.trans k8 (S'':=fun y=>¬Dx X (.slice su N.length cu) y) fun y hy hS=>⟨fun e=>?_,trivial⟩).trans h3 (S'':=fun y=>¬Dx X (.slice su N.length cu) y) fun y hy hS=>⟨hS,by omega⟩).trans K9.o.keep (S'':=fun y=>¬Dx X (.slice su N.length cu) y) fun y hy hS=>⟨hS,fun e=>(JO y e).elim hS fun e=>by omega⟩).trans kp fun y hy hS=>⟨hS,by omega,by omega⟩;rcases e with e|e|e
    ·exact hS e
    ·omega
    ·cases e
   ·exact fun y e=>(K9.o.new y e).elim (JO y) fun e=>.inr (by have :=K5.o.keep.size;omega)
   ·have :=((cE.o.mono (G':=fun y=>(w5.heap.size≤y∧w.heap.size≤y∧¬Dx X u9 y)) fun y hy hG=>⟨hG.1.1.1,by have :=hG.1.1.1;omega,fun e=>(K9.o.new y e).elim (fun e=>hG.1.1.2 (.inl e)) fun e=>by have :=hG.2;omega⟩).kept gJ fun y hy=>by omega).grown JI fun r e=>by cases e;exact⟨_,Jr,rfl⟩
    rw[show g9 N x a b=T9 from by unfold g9;rw[HT.o];exact Jt.o];exact this.mono fun y _ h=>h.2
 case stop=>rintro D' c z W Kg hS hI;exact hI.elim
end
end Go.Proofs.YtojegnbejmeehaaGreatDoor
