/- Helpers of the proof of TopNames. -/
import Derived.Lib.SlicesS
import Derived.Test.YtojegnbejmeehaaGreatDoorJAB
import Derived.Test.YtojegnbejmeehaaGreatDoorJAI
import Derived.Test.YtojegnbejmeehaaGreatDoorJAL
namespace Go.Proofs.YtojegnbejmeehaaGreatDoor
open Go.RowKit
set_option maxRecDepth 10000
set_option maxHeartbeats 16000000
set_option linter.all false
section
attribute [local irreducible] wpQuiet ax au aQ
variable {R:Ending→World→Prop} {w:World}
theorem eP (a b:ByteArray):(a.toList==b.toList)=decide (a=b):=by
 rw[ByteArray.toList_eq,ByteArray.toList_eq,Bool.eq_iff_iff,beq_iff_eq,decide_eq_true_iff];exact⟨fun h=>ByteArray.ext (Array.toList_inj.1 h),fun h=>by rw[h]⟩
structure Qk where
 k:Int
 t:ByteArray
 n:Int
 a:Int
def Qk.cells (q:Qk):List Value:=[.int .i64 q.k,.string q.t,.int .i64 q.n,.int .i64 q.a]
def Qk.val (q:Qk):Value:=(Ig q.k q.t q.n q.a)
def Qk.tk (q:Qk):Tk:=if q.k=3 then .word q.t else if q.k=1 then .name q.t else if q.k=2 then .num q.n else .fin
def Qk.ok (q:Qk):Prop:=aK q.k∧aK q.n∧aK q.a∧q.t.size≤maxLen
theorem Qk.word {q:Qk} {x:ByteArray} (h:q.tk=.word x):q.k=3∧q.t=x:=by
 unfold Qk.tk at h
 split at h
 ·rename_i h1;exact⟨h1,by cases h;rfl⟩
 split at h
 ·cases h
 split at h<;>cases h
def f9:=@Qk.word
theorem Qk.name {q:Qk} {x:ByteArray} (h:q.tk=.name x):q.k=1∧q.t=x:=by
 unfold Qk.tk at h
 split at h
 ·cases h
 split at h
 ·rename_i h1;exact⟨h1,by cases h;rfl⟩
 split at h<;>cases h
def fv:=@Qk.name
theorem Qk.number {q:Qk} {x:Int} (h:q.tk=.num x):q.k=2∧q.n=x:=by
 unfold Qk.tk at h
 split at h
 ·cases h
 split at h
 ·cases h
 split at h
 ·rename_i h1;exact⟨h1,by cases h;rfl⟩
 ·cases h
def ToksAt (w:World) (v:Value) (L:List Qk):Prop:=StrAt 4 w v (L.map Qk.cells)∧∀q∈L,q.ok
theorem ToksAt.keep {S:Nat→Prop} {a:World} {v:Value} {L:List Qk} (h:ToksAt w v L) (c:Keeps S w a) (hs:∀b,live v=some b→S b):ToksAt a v L:=⟨h.1.keep c hs,h.2⟩
theorem ToksAt.open {v:Value} {L:List Qk} (h:ToksAt w v L):∃a c,v=.slice a L.length c∧L.length≤c∧c≤maxLen∧
 (∀i (e:i<L.length),∃b off,a=some ⟨b,off,none⟩∧w.cell? ⟨b,off+i*4,none⟩=some (.int .i64 L[i].k)∧w.cell? ⟨b,off+i*4+1,none⟩=some (.string L[i].t)∧w.cell? ⟨b,off+i*4+2,none⟩=some (.int .i64 L[i].n)∧w.cell? ⟨b,off+i*4+3,none⟩=some (.int .i64 L[i].a)):=by
 obtain⟨a,c,rfl,h1,h2,f⟩:=h.1.open;simp only[List.length_map]at *;refine⟨a,c,rfl,h1,h2,fun i e=>?_⟩;obtain⟨b,off,rfl,_,d⟩:=f i e;have hx:(L.map Qk.cells)[i]?=some L[i].cells:=by simp[e]
 exact⟨b,off,rfl,d i _ hx 0 _ rfl,d i _ hx 1 _ rfl,d i _ hx 2 _ rfl,d i _ hx 3 _ rfl⟩
structure PAt (w:World) (p:Nat) (v:Value) (L:List Qk) (n:Nat):Prop where
 blk:w.heap[p]?=some (.cells #[v,n,false,IU,IU] 114)
 toks:ToksAt w v L
 ne:live v≠some p
 le:L.length≤3000
 at_:n≤L.length
theorem PAt.same {a:World} {p:Nat} {v:Value} {L:List Qk} {n:Nat} (h:PAt w p v L n) (k:Same w a):PAt a p v L n:=
 ⟨k.at h.blk trivial,h.toks.keep k fun _ _=>trivial,h.ne,h.le,h.at_⟩
theorem PAt.step {a:World} {p:Nat} {v:Value} {L:List Qk} {n m:Nat} (h:PAt w p v L n) (k:Keeps (·≠p) w a) (b:a.heap[p]?=some (.cells #[v,m,false,IU,IU] 114)) (c:m≤L.length):PAt a p v L m:=
 ⟨b,h.toks.keep k fun _ b e=>h.ne (e▸b),h.ne,h.le,c⟩
theorem Keeps.new {w a:World} {S:Nat→Prop} (k:Keeps S w a) {b:Nat} (c:w.heap.size≤b) (i:Nat) (x:Value):Keeps S w (a.setCell ⟨b,i,none⟩ x):=
 k.setCell (fun h=>absurd h.1 (Nat.not_lt.2 c)) x
theorem Keeps.but {w a:World} {p:Nat} (k:Keeps (·≠p) w a) (i:Nat) (x:Value):Keeps (·≠p) w (a.setCell ⟨p,i,none⟩ x):=
 k.setCell (fun h=>h.2 rfl) x
theorem Keeps.box4 {w e:World} {S:Nat→Prop} (k:Keeps S w e) {x:Nat} (hx:w.heap.size≤x) (a b c d:Value):Keeps S w ((((e.setCell ⟨x,0,none⟩ a).setCell ⟨x,1,none⟩ b).setCell ⟨x,2,none⟩ c).setCell ⟨x,3,none⟩ d):=
 (((k.new hx _ _).new hx _ _).new hx _ _).new hx _ _
theorem yM {f:World} {x p:Nat} (e:p≠x) (a b c d:Value):((((f.setCell ⟨x,0,none⟩ a).setCell ⟨x,1,none⟩ b).setCell ⟨x,2,none⟩ c).setCell ⟨x,3,none⟩ d).heap[p]?=f.heap[p]?:=by
 rw[aS e,aS e,aS e,aS e]
theorem Keeps.bar {w a:World} (k:Same w a) (p:Nat):Keeps (·≠p) w a:=k.mono fun _ _ _=>trivial
abbrev bJ (w:World):World:=w.alloc Hr
theorem jk {p:Nat} {v:Value} {L:List Qk} {n:Nat} (h:PAt w p v L n) (O:n<L.length) (D:∀e B,e=.returned (Ig L[n].k L[n].t L[n].n L[n].a)→Same w B→R e B):
 Calls Tryz.prog 130 #[.pointer (IQ p 0)] w R:=by
 have M:=ae D;clear D;obtain⟨a,c,rfl,U,C,f⟩:=h.toks.open;obtain⟨b,off,rfl,r,o,m,l⟩:=f n O;have A:=h.blk;have T:=h.le;unfold maxLen at C;generalize L[n]=q at M r o m l;clear h f;have g:Same w (bJ w):=(af _ w).alloc _;have s:(bJ w).heap[w.heap.size]?=_:=ag w _;have z:=ae g;have J:=ak g (ai A 0) trivial;have I:=ak g (ai A 1) trivial;have c2:=ak g (ai A 2) trivial;obtain⟨r,o,m,l⟩:=xs4 g r o m l;have i:=ae s;unfold bJ at *;clear A g s;go_enter Tryz.func130,Tryz.ntmps130;go_wp2_with fail;generalize w.alloc _=N at z i J I c2 r o m l⊢;have y:=ae (Nat.le_refl w.heap.size);generalize hx:w.heap.size=x at i⊢;have y:=ae (Nat.le_of_eq hx);refine zq0 10 (.take 0 (.take 1 (.take 2 (.take 3 (.take 4 (.take 5 (.take 6 (.take 7 (.take 8 (.take 9 .last)))))))))) (Same N) (by kernel_rfl) (by kernel_rfl) ?hS0 ?_
 case hS0=>exact al (af _ _)
 iterate 10 (first|(apply aC;rfl;rfl;go_simp)|(apply aB;rfl;rfl;intro B j;obtain⟨q0,q1,y0,y1,y2,y3⟩:=xs6 j J I r o m l;go_simp;exact rfl;go_simp))
 have d:=i.o;obtain⟨H,G,F,E⟩:=xc4 d rfl rfl rfl rfl;obtain⟨Z,Y,X,V⟩:=xf4 d;refine aO rfl rfl fun K u=>?_;go_simp;refine u _ _ (aG ?_);clear u K d Z Y X V;go_wp2_with fail;exact bodyPost_ret (v:=(Ig q.k q.t q.n q.a)) (by simp[results,Tryz.results130,go_sem,H,G,F,E]) rfl (M.o _ _ rfl (((((z.o.new y.o _ _).new y.o _ _).new y.o _ _).new y.o _ _).drew))
theorem lO {p:Nat} {v:Value} {L:List Qk} {n:Nat} (h:PAt w p v L n) (g:n<L.length) (x:ByteArray) (j:∀e c,e=.returned (.bool (decide (L[n].k=3∧L[n].t=x)))→Same w c→R e c):
 Calls Tryz.prog 127 #[.pointer (IQ p 0),.string x] w R:=by
 have l:=ae j;clear j;have H:=ae h;clear h;go_enter Tryz.func127,Tryz.ntmps127;go_wp2_with fail;refine jk H.o g ?_;rintro e o rfl f;have a:=ae f;clear f;by_cases i:L[n].k=3
 ·go_wp2_with fail;refine jk (H.o.same a.o) g ?_;rintro e m rfl d;have b:=ae (a.o.tr d);clear d;go_wp2_with fail;exact l.o _ _ (by simp[i,eP]) b.o
 ·go_wp2_with fail;exact l.o _ _ (by simp[i]) a.o
theorem cI {p:Nat} {v:Value} {L:List Qk} {n:Nat} (h:PAt w p v L n) (f:n<L.length) (x:ByteArray) (hx:¬(L[n].k=3∧L[n].t=x)) (d:∀e b,e=.returned (.bool false)→Same w b→R e b):
 Calls Tryz.prog 78 #[.pointer (IQ p 0),.string x] w R:=by
 have i:=ae d;clear d;have H:=ae h;clear h;have g:decide (L[n].k=3∧L[n].t=x)=false:=decide_eq_false hx;go_enter Tryz.func78,Tryz.ntmps78;go_wp2_with fail;refine lO H.o f x ?_;rintro e j rfl c;rw[g];have a:=ae c;clear c;go_wp2_with fail;exact i.o _ _ rfl a.o
theorem oN {p:Nat} {v:Value} {L:List Qk} {n:Nat} (h:PAt w p v L n) (g:n<L.length) (x:ByteArray) (hx:L[n].k=3∧L[n].t=x) (j:∀e b,e=.returned (.bool true)→PAt b p v L (n+1)→Keeps (·≠p) w b→R e b):
 Calls Tryz.prog 78 #[.pointer (IQ p 0),.string x] w R:=by
 have r:=ae j;clear j;have H:=ae h;have m:=h.le;clear h;have o:decide (L[n].k=3∧L[n].t=x)=true:=decide_eq_true hx;go_enter Tryz.func78,Tryz.ntmps78;go_wp2_with fail;refine lO H.o g x ?_;rintro e f rfl a;rw[o];have d:=ae a;have l:=ae (H.o.same a);have c:=(H.o.same a).blk;have q:=xc1 c 1 rfl;have s:=ao c 1;clear a c;go_wp2_with fail;have i:Keeps (·≠p) f (f.setCell ⟨p,1,none⟩ (IP ((n:Int)+1))):=(af _ _).but _ _;refine r.o _ _ rfl (l.o.step i ?_ g) (d.o.same_tr i);rw[aj l.o.blk];simp
theorem jR {p:Nat} {v:Value} {L:List Qk} {n:Nat} (h:PAt w p v L n) (f:n<L.length) (x:ByteArray) (hx:L[n].k=3∧L[n].t=x) (c:∀e a u,e=.returned u→PAt a p v L (n+1)→Keeps (·≠p) w a→R e a):
 Calls Tryz.prog 81 #[.pointer (IQ p 0),.string x] w R:=by
 have g:=ae c;clear c;have H:=ae h;clear h;go_enter Tryz.func81,Tryz.ntmps81;go_wp2_with fail;refine oN H.o f x hx ?_;rintro e i rfl h1 b;have d:=ae (And.intro h1 b);clear h1 b;go_wp2_with fail;go_end0;exact g.o _ _ _ rfl d.o.1 d.o.2
theorem gl {p:Nat} {v:Value} {L:List Qk} {n:Nat} (h:PAt w p v L n) (C:n<L.length) (k:Int) (hx:L[n].k=k) (D:∀e o,e=.returned (Ig L[n].k L[n].t L[n].n L[n].a)→PAt o p v L (n+1)→Keeps (·≠p) w o→R e o):
 Calls Tryz.prog 82 (Ia (IL p) k) w R:=by
 have M:=ae D;clear D;have H:=ae h;have U:=h.le;subst hx;have r:Same w (bJ w):=(af _ w).alloc _;have b:(bJ w).heap[w.heap.size]?=_:=ag w _;have m:=ae (h.same r);have c:=ae r;have d:=ae b;unfold bJ at m c d;clear r b h;go_enter Tryz.func82,Tryz.ntmps82;go_wp2_with fail;generalize w.alloc _=w1 at c d m⊢;refine jk m.o C ?_;rintro e j rfl l;generalize L[n]=q at M⊢;have A:=ae (m.o.same l);have s:=aw A.o.blk (Hv q.k q.t q.n q.a);have b:=aw (l.at d.o trivial) (Hv q.k q.t q.n q.a);have f:=ag j (Hv q.k q.t q.n q.a);have i:=ae ((c.o.tr l).alloc (Hv q.k q.t q.n q.a));have N:=ae (A.o.same ((af _ j).alloc (Hv q.k q.t q.n q.a)));have J:=xc1 s 1 rfl;obtain⟨I,G,F,E⟩:=xc4 f rfl rfl rfl rfl;obtain⟨z,y,x,u⟩:=xc4 b rfl rfl rfl rfl;have f1:=ao s 1;obtain⟨g0,Z,Y,X⟩:=xf4 b;have T:p≠j.heap.size:=Nat.ne_of_lt (am A.o.blk);have B:p≠w.heap.size:=Nat.ne_of_lt (am H.o.blk);have n3:=T.symm;have n4:=B.symm;clear l s b f;go_wp2_with fail;generalize j.alloc _=O at i N J f1 I G F E z y x u g0 Z Y X⊢;refine bodyPost_ret (v:=(Ig q.k q.t q.n q.a)) (by simp[results,Tryz.results82,go_sem,z,y,x,u]) rfl ?_;have V:Keeps (·≠p) w (O.setCell ⟨p,1,none⟩ (IP ((n:Int)+1))):=(i.o.bar p).but _ _;have g:=V.box4 (Nat.le_refl _) (IP q.k) (.string q.t) (IP q.n) (IP q.a);refine M.o _ _ rfl (H.o.step g ?_ C) g;rw[yM B,aj N.o.blk];simp
def StrsAt (w:World) (v:Value) (xs:List ByteArray):Prop:=SliceAt w v (xs.map Value.string)
def kh (xs:List ByteArray) (t:ByteArray):Int:=if dL xs t then((xs.findIdx fun u=>decide (u=t):Nat):Int)else -1
theorem iJ {v:Value} {d:List ByteArray} (hv:StrsAt w v d) (t:ByteArray) (A:∀e y,e=.returned (IP (kh d t))→Same w y→R e y):
 Calls Tryz.prog 179 #[v,.string t] w R:=by
 have B:=ae A;clear A;obtain⟨a,c,rfl,E,x,f⟩:=hv;simp only[List.length_map]at *;have J:Hid (∀k (_:k<d.length),∃b off,a=some ⟨b,off,none⟩∧w.cell? ⟨b,off+k,none⟩=some (.string d[k])):=ae (by
  intro k p;rcases f with h|⟨b,off,H,e,L,rfl,G,F⟩
  ·have :d=[]:=by simpa using h
   rw[this]at p;simp at p
  ·exact⟨b,off,rfl,by rw[ai G];exact F k _ (by simp[p])⟩)
 clear f;unfold maxLen at x;go_enter Tryz.func179,Tryz.ntmps179;go_wp2_with fail
 go_loopw [8] (fun i wr=>∃k:Nat,i=.int .i64 k∧k≤d.length∧Hid (∀i (_:i<k),d[i]?≠some t)∧Same w wr) (fun i _=>d.length -(intOf i).toNat)
 case atStart=>exact⟨0,rfl,Nat.zero_le _,ae (fun i m=>absurd m (Nat.not_lt_zero _)),af _ _⟩
 case round=>
  obtain⟨k,rfl,p,l,q⟩:=hrel;by_cases g:k<d.length
  ·obtain⟨b,off,rfl,n⟩:=J.o k g;have u:=ak q n trivial;clear n;have r:=ae (List.getElem?_eq_getElem g);generalize d[k]=z at u r;by_cases o:t=z
   ·subst o;go_wp2_with fail;refine B.o _ _ (cQ ?_) q;have s:dL d t=true:=fP.2 (List.mem_of_getElem? r.o);unfold kh;rw[if_pos s]
    congr 1
    symm
    rw[List.findIdx_eq (by simpa using g)];have :=r.o;rw[List.getElem?_eq_getElem g]at this;refine⟨by simpa using this,fun j D=>?_⟩;have h2:=l.o j D;rw[List.getElem?_eq_getElem (by omega)]at h2
    simpa using h2
   ·have C:(t.toList==z.toList)=false:=by rw[eP];exact decide_eq_false o
    have I:=ae o;clear o;go_wp2_with fail;go_roundw
    case rel=>
     refine⟨k+1,by go_num,by omega,ae (fun i m=>?_),q⟩;by_cases e:i=k
     ·subst e;rw[r.o];exact fun h=>I.o (Option.some.inj h).symm
     ·exact l.o i (by omega)
    case measure=>simp[intOf];omega
  ·obtain rfl:k=d.length:=by omega
   go_wp2_with fail;refine B.o _ _ (cQ ?_) q;unfold kh;rw[if_neg];intro s;obtain⟨i,m,e⟩:=List.getElem_of_mem (fP.1 s);exact l.o i m (by rw[List.getElem?_eq_getElem m,e])
theorem StrsAt.same {b:World} {v:Value} {a:List ByteArray} (h:StrsAt w v a) (k:Same w b):StrsAt b v a:=SliceAt.same h k
theorem fh {p:Nat} {v l:Value} {L:List Qk} {n:Nat} {s:List ByteArray} (h:PAt w p v L n) (J:n<L.length) (B:StrsAt w l s) (hx:L[n].k=3→dL s L[n].t=false) (E:∀e r a,e=.returned (.tuple (It (-1) a))→Same w r→R e r):
 Calls Tryz.prog 126 #[.pointer (IQ p 0),l] w R:=by
 have F:=ae E;clear E;have H:=ae h;have O:=ae B;clear h B;go_enter Tryz.func126,Tryz.ntmps126;go_wp2_with fail;refine jk H.o J ?_;rintro e o rfl A;generalize L[n]=q at hx⊢;have g:=ag o (Hv q.k q.t q.n q.a);have j:Same w (o.alloc (Hv q.k q.t q.n q.a)):=A.alloc _;have z:=ae g;have f:=ae j;clear A g j;go_wp2_with fail;generalize o.alloc _=U at z f⊢;generalize o.heap.size=x at z⊢;refine iJ (O.o.same f.o) q.t ?_;rintro e T rfl u;have g:=u.at z.o trivial;have m:=ae (f.o.tr u);have N:=xc1 g 0 rfl;have y:=xc1 g 3 rfl;clear u g;by_cases C:q.k=3
 ·have D:kh s q.t=-1:=by unfold kh;rw[hx C];rfl
  rw[D];clear D;go_wp2_with fail;refine aq (by kernel_rfl) (by kernel_rfl) ?_
  iterate 4 (apply wpQuiet_step;intro K b;(first|(apply aA;rfl;go_simp)|(apply aJ;rfl;intro r c;have G:=ak c y trivial;go_simp;exact rfl;go_simp));refine b _ ?_;clear b K)
  apply wpQuiet_nil;intro I i;have d:=ae (m.o.tr i);clear i;go_wp2_with fail;exact F.o _ _ _ rfl d.o
 ·have M:(q.k !=3)=true:=by rw[bne_iff_ne];exact C
  go_wp2_with fail;refine aq (by kernel_rfl) (by kernel_rfl) ?_
  iterate 4 (apply wpQuiet_step;intro K b;(first|(apply aA;rfl;go_simp)|(apply aJ;rfl;intro r c;have G:=ak c y trivial;go_simp;exact rfl;go_simp));refine b _ ?_;clear b K)
  apply wpQuiet_nil;intro I i;have d:=ae (m.o.tr i);clear i;go_wp2_with fail;exact F.o _ _ _ rfl d.o
theorem gM {p:Nat} {v l:Value} {L:List Qk} {n:Nat} {f:List ByteArray} (h:PAt w p v L n) (E:n<L.length) (U:StrsAt w l f) (V:L[n].k=3) (hx:dL f L[n].t=true) (X:∀e s a,e=.returned (.tuple (It (kh f L[n].t) a))→aK a→PAt s p v L (n+1)→Keeps (·≠p) w s→R e s):
 Calls Tryz.prog 126 #[.pointer (IQ p 0),l] w R:=by
 have I:=ae X;clear X;have H:=ae h;have HL:=ae U;have aH:=h.le;have m:0≤kh f L[n].t:=by unfold kh;rw[if_pos hx];omega
 have HA:=ae (h.toks.2 _ (List.getElem_mem E)).2.2.1;clear h U hx;go_enter Tryz.func126,Tryz.ntmps126;go_wp2_with fail;refine jk H.o E ?_;rintro e g rfl C;generalize L[n]=q at I V m HA⊢;obtain⟨qk,i,A,u⟩:=q;dsimp only at *;subst V;have d:=ag g (Hv 3 i A u);have j:Same w (g.alloc (Hv 3 i A u)):=C.alloc _;have T:p≠g.heap.size:=Nat.ne_of_lt (am (H.o.same C).blk);have J:=ae d;have b:=ae j;clear C d j;go_wp2_with fail;generalize g.alloc _=w3 at J b⊢;generalize g.heap.size=x at J T⊢;refine iJ (HL.o.same b.o) i ?_;rintro e r rfl y;have d:=y.at J.o trivial;have N:=ae (b.o.tr y);have H4:=ae (H.o.same (b.o.tr y));have Z:=ai d 0;have G:=ai d 3;have F:=H4.o.blk;have c1:=ai F 1;have f1:=ao F 1;simp only[List.getElem?_toArray,List.getElem?_cons_zero,List.getElem?_cons_succ]at Z G c1;have n2:=T.symm;generalize kh f i=ix at I m⊢;clear y d F;go_wp2_with fail;have o:(r.setCell ⟨p,1,none⟩ (IP ((n:Int)+1))).cell? ⟨x,3,none⟩=some (.int .i64 u):=by
  rw[World.cell?_of_block (w:=r)]
  ·exact G
  ·exact aS n2 _ _
 have c:Keeps (·≠p) w (r.setCell ⟨p,1,none⟩ (IP ((n:Int)+1))):=(N.o.bar p).but _ _;have Y:=H.o.step c (by rw[aj H4.o.blk];simp) E;have O:=ae (And.intro Y c);clear c Y G c1 f1 Z;generalize r.setCell ⟨p,1,none⟩ (IP ((n:Int)+1))=w5 at O o⊢;refine aq (by kernel_rfl) (by kernel_rfl) ?_
 iterate 5 (apply wpQuiet_step;intro K z;(first|(apply aA;rfl;go_simp)|(apply aJ;rfl;intro s D;have z3:=ak D o trivial;go_simp;exact rfl;go_simp));refine z _ ?_;clear z K)
 apply wpQuiet_nil;intro w6 B;have M:=ae (O.o.2.tr_same B);have H6:=ae (O.o.1.same B);clear B;go_wp2_with fail;exact I.o _ _ _ rfl HA.o H6.o M.o
def KidAt (w:World) (bl off:Nat) (P:Value→Prop):Prop:=
 ∃x0 x1 x2 x3 x4,w.cell? ⟨bl,off,none⟩=some x0∧w.cell? ⟨bl,off+1,none⟩=some x1∧w.cell? ⟨bl,off+2,none⟩=some x2∧w.cell? ⟨bl,off+3,none⟩=some x3∧w.cell? ⟨bl,off+4,none⟩=some x4∧P (.agg #[x0,x1,x2,x3,x4])
def FmIn (G:Nat→Prop) (w:World):Value→Fm→Prop
 |v,.leaf op nm n=>∃(a:Int) (ka:Option Addr) (kc:Nat),v=(Hw op nm n a ka 0 kc)∧aK a∧kc≤maxLen
 |v,.one op nm n k=>∃(a:Int) (bl off:Nat) (kc:Nat),v=(Hw op nm n a (IQ bl off) 1 kc)∧(aK a∧1≤kc∧kc≤maxLen)∧G bl∧KidAt w bl off (fun x=>FmIn G w x k)
 |v,.two op nm n k l=>∃(a:Int) (bl off:Nat) (kc:Nat),v=(Hw op nm n a (IQ bl off) 2 kc)∧(aK a∧2≤kc∧kc≤maxLen)∧G bl∧KidAt w bl off (fun x=>FmIn G w x k)∧KidAt w bl (off+5) (fun x=>FmIn G w x l)
theorem FmIn.shape {G:Nat→Prop} {v:Value} {t:Fm} (h:FmIn G w v t):∃(a:Int) (ka:Option Addr) (kc:Nat),v=(Hw t.op t.name t.num a ka t.kids.length kc)∧aK a∧t.kids.length≤kc∧kc≤maxLen:=by
 cases t with
 |leaf op nm n=>obtain⟨a,ka,kc,rfl,h1,h2⟩:=h;exact⟨a,ka,kc,rfl,h1,Nat.zero_le _,h2⟩
 |one op nm n k=>obtain⟨a,c,off,kc,rfl,⟨h1,h2,b⟩,_⟩:=h;exact⟨a,_,kc,rfl,h1,h2,b⟩
 |two op nm n k l=>obtain⟨a,c,off,kc,rfl,⟨h1,h2,b⟩,_⟩:=h;exact⟨a,_,kc,rfl,h1,h2,b⟩
theorem KidAt.kept {b:World} {S:Nat→Prop} {a off:Nat} {P Q:Value→Prop} (h:KidAt w a off P) (k:Keeps S w b) (hs:S a) (j:∀x,P x→Q x):KidAt b a off Q:=by
 obtain⟨g,f,e,d,c,p,o,n,m,l,i⟩:=h;exact⟨g,f,e,d,c,k.cell p hs,k.cell o hs,k.cell n hs,k.cell m hs,k.cell l hs,j _ i⟩
theorem KidAt.lt {a off:Nat} {P:Value→Prop} (h:KidAt w a off P):a<w.heap.size:=by
 obtain⟨g,f,e,d,c,b,_⟩:=h;exact World.block_lt_of_cell? w ⟨a,off,none⟩ b
theorem FmIn.kept {G:Nat→Prop} {d:World} {S:Nat→Prop} (k:Keeps S w d) (c:∀b,G b→S b):∀{t:Fm} {v:Value},FmIn G w v t→FmIn G d v t
 | .leaf _ _ _,_,h=>h
 | .one _ _ _ _,_,⟨a,bl,off,kc,e,q,hb,h1⟩=>⟨a,bl,off,kc,e,q,hb,h1.kept k (c _ hb) fun _ hx=>FmIn.kept k c hx⟩
 | .two _ _ _ _ _,_,⟨a,bl,off,kc,e,q,hb,h1,h2⟩=>⟨a,bl,off,kc,e,q,hb,h1.kept k (c _ hb) fun _ hx=>FmIn.kept k c hx,h2.kept k (c _ hb) fun _ hx=>FmIn.kept k c hx⟩
theorem FmIn.same {G:Nat→Prop} {a:World} {t:Fm} {v:Value} (h:FmIn G w v t) (k:Same w a):FmIn G a v t:=h.kept k fun _ _=>trivial
def iC:=@FmIn.same
theorem KidAt.imp {a off:Nat} {P Q:Value→Prop} (h:KidAt w a off P) (b:∀x,P x→Q x):KidAt w a off Q:=h.kept (af (fun _=>True) w) trivial b
theorem FmIn.mono {G G':Nat→Prop} (c:∀b,b<w.heap.size→G b→G' b):∀{t:Fm} {v:Value},FmIn G w v t→FmIn G' w v t
 | .leaf _ _ _,_,h=>h
 | .one _ _ _ _,_,⟨a,bl,off,kc,e,q,hb,h1⟩=>⟨a,bl,off,kc,e,q,c _ h1.lt hb,h1.imp fun _ hx=>FmIn.mono c hx⟩
 | .two _ _ _ _ _,_,⟨a,bl,off,kc,e,q,hb,h1,h2⟩=>⟨a,bl,off,kc,e,q,c _ h1.lt hb,h1.imp fun _ hx=>FmIn.mono c hx,h2.imp fun _ hx=>FmIn.mono c hx⟩
def bH:=@FmIn.mono
theorem FmIn.beside {G:Nat→Prop} {a:World} {p:Nat} {v:Value} {t:Fm} (h:FmIn G w v t) (k:Keeps (·≠p) w a) (c:¬G p):FmIn G a v t:=
 h.kept k fun b d e=>c (e▸d)
theorem FmIn.box5 {G:Nat→Prop} {v:Value} {t:Fm} (h:FmIn G w v t) {x:Nat} (hx:¬G x) (a b c d e:Value):FmIn G (((((w.setCell ⟨x,0,none⟩ a).setCell ⟨x,1,none⟩ b).setCell ⟨x,2,none⟩ c).setCell ⟨x,3,none⟩ d).setCell ⟨x,4,none⟩ e) v t:=
 h.beside (p:=x) ((((((af (·≠x) w).but _ _).but _ _).but _ _).but _ _).but _ _) hx
abbrev FmAt (B:Nat) (w:World) (v:Value) (t:Fm):Prop:=FmIn (fun b=>B≤b) w v t
theorem FmAt.mono {B C:Nat} {t:Fm} {v:Value} (h:FmAt B w v t) (a:C≤B):FmAt C w v t:=bH (fun _ _ b=>Nat.le_trans a b) h
def cR:=@FmAt.mono
theorem FmAt.beside {B:Nat} {a:World} {p:Nat} {v:Value} {t:Fm} (h:FmAt B w v t) (k:Keeps (·≠p) w a) (b:p<B):FmAt B a v t:=FmIn.beside h k (Nat.not_le.2 b)
def eE:=@FmAt.beside
theorem FmAt.box5 {B:Nat} {v:Value} {t:Fm} (h:FmAt B w v t) {x:Nat} (hx:x<B) (a b c d e:Value):FmAt B (((((w.setCell ⟨x,0,none⟩ a).setCell ⟨x,1,none⟩ b).setCell ⟨x,2,none⟩ c).setCell ⟨x,3,none⟩ d).setCell ⟨x,4,none⟩ e) v t:=FmIn.box5 h (Nat.not_le.2 hx) _ _ _ _ _
def iD:=@FmAt.box5
theorem FmAt.same {B:Nat} {a:World} {t:Fm} {v:Value} (h:FmAt B w v t) (k:Same w a):FmAt B a v t:=iC h k
theorem gi {i off:Nat} {a:Array Value} {e:TypeId} {m:Nat×Nat} {P:Value→Prop} (h:w.heap[i]?=some (.cells a e m)) {g f d c b:Value} (h0:a[off]?=some g) (h1:a[off+1]?=some f) (h2:a[off+2]?=some d) (l:a[off+3]?=some c) (k:a[off+4]?=some b) (j:P (.agg #[g,f,d,c,b])):KidAt w i off P:=
 ⟨g,f,d,c,b,by rw[ai h];exact h0,by rw[ai h];exact h1,by rw[ai h];exact h2,by rw[ai h];exact l,by rw[ai h];exact k,j⟩
abbrev bj (w:World):World:=w.alloc Ho
theorem Keeps.box5 {w f:World} {S:Nat→Prop} (k:Keeps S w f) {x:Nat} (hx:w.heap.size≤x) (a b c d e:Value):Keeps S w (((((f.setCell ⟨x,0,none⟩ a).setCell ⟨x,1,none⟩ b).setCell ⟨x,2,none⟩ c).setCell ⟨x,3,none⟩ d).setCell ⟨x,4,none⟩ e):=
 ((((k.new hx _ _).new hx _ _).new hx _ _).new hx _ _).new hx _ _
theorem dn {g:World} {x p:Nat} (f:p≠x) (a b c d e:Value):(((((g.setCell ⟨x,0,none⟩ a).setCell ⟨x,1,none⟩ b).setCell ⟨x,2,none⟩ c).setCell ⟨x,3,none⟩ d).setCell ⟨x,4,none⟩ e).heap[p]?=g.heap[p]?:=by
 rw[aS f,aS f,aS f,aS f,aS f]
theorem bT {f:World} {x:Nat} {l k j i g:Value} {t:TypeId} (h:f.heap[x]?=some (.cells #[l,k,j,i,g] t (0,0))) (a b c d e:Value):(((((f.setCell ⟨x,0,none⟩ a).setCell ⟨x,1,none⟩ b).setCell ⟨x,2,none⟩ c).setCell ⟨x,3,none⟩ d).setCell ⟨x,4,none⟩ e).heap[x]?=some (.cells #[a,b,c,d,e] t (0,0)):=by
 rw[aj (aj (aj (aj (aj h _ _) _ _) _ _) _ _)];simp
theorem lN {h:ByteArray} {c:Int} {a b:Value} {g f:Fm} {G:Nat→Prop} (B:FmIn G w a g) (d:FmIn G w b f) (F:∀b,w.heap.size≤b→G b) (k:aK c) (D:∀e z v,e=.returned v→FmIn G z v (.two h GA 0 g f)→Same w z→R e z):
 Calls Tryz.prog 132 #[.string h,IP c,a,b] w R:=by
 have H:=ae D;clear D;have y:=ae B;have x:=ae d;have C:=ae k;obtain⟨r,ka,kc,rfl,_,_,_⟩:=B.shape;obtain⟨m,j,i,rfl,_,_,_⟩:=d.shape;clear B d k;generalize g.op=u at y⊢;generalize g.name=t at y⊢;generalize g.num=s at y⊢;generalize g.kids.length=q at y⊢;generalize f.op=p at x⊢;generalize f.name=o at x⊢;generalize f.num=n at x⊢;generalize f.kids.length=l at x⊢;go_enter Tryz.func132,Tryz.ntmps132;go_wp2_with fail;refine bodyPost_ret (v:=(Hw h GA 0 c (some ⟨w.heap.size+1+1+1,0,none⟩) 2 2)) (by simp[results,Tryz.results132,go_sem]) rfl ?_;have A:Same w _:=((((af (fun _=>True) w).alloc (Ht u t s r ka q kc)).alloc (Ht p o n m j l i)).alloc (Ht h GA 0 c (some ⟨w.heap.size+1+1+1,0,none⟩) 2 2)).alloc (Iw u t s r ka q kc p o n m j l i);have d:=ag (((w.alloc (Ht u t s r ka q kc)).alloc (Ht p o n m j l i)).alloc (Ht h GA 0 c (some ⟨w.heap.size+1+1+1,0,none⟩) 2 2)) (Iw u t s r ka q kc p o n m j l i);have E:(((w.alloc (Ht u t s r ka q kc)).alloc (Ht p o n m j l i)).alloc (Ht h GA 0 c (some ⟨w.heap.size+1+1+1,0,none⟩) 2 2)).heap.size=w.heap.size+1+1+1:=by simp
 rw[E]at d;refine H.o _ _ _ rfl ⟨c,w.heap.size+1+1+1,0,2,rfl,⟨C.o,Nat.le_refl _,by unfold maxLen;omega⟩,F _ (by omega),gi d rfl rfl rfl rfl rfl (y.o.same A),gi d rfl rfl rfl rfl rfl (x.o.same A)⟩ A
theorem bV {L:List Qk} {n:Nat} {t:Tk} {r:List Tk} (h:(L.drop n).map Qk.tk=t::r):∃q,L[n]?=some q∧q.tk=t∧(L.drop (n+1)).map Qk.tk=r:=by
 rcases Nat.lt_or_ge n L.length with a|a
 ·rw[List.drop_eq_getElem_cons a,List.map_cons,List.cons.injEq]at h;exact⟨L[n],List.getElem?_eq_getElem a,h.1,h.2⟩
 ·rw[List.drop_eq_nil_of_le a]at h;cases h
theorem zB {L:List Qk} {n:Nat} {t:Fm} {r:List Tk} (h:tY ((L.drop n).map Qk.tk)=some (t,r)):∃q a,L[n]?=some q∧L[n+1]?=some a∧(L.drop (n+1)).map Qk.tk=r∧
 ((q.k=2∧t=.leaf GH GA q.n)∨(q.k=1∧¬(a.k=3∧a.t=⟨#[43]⟩)∧t=.leaf GG q.t 0)):=by
 unfold tY at h
 split at h
 ·rename_i x y j c
  obtain⟨q,h1,h2,b⟩:=bV c;obtain⟨a,d,_,_⟩:=bV b;simp only[Option.some.injEq,Prod.mk.injEq]at h;obtain⟨rfl,rfl⟩:=h;exact⟨q,a,h1,d,b,.inl ⟨(Qk.number h2).1,by rw[(Qk.number h2).2]⟩⟩
 ·rename_i x y j c
  obtain⟨q,h1,h2,b⟩:=bV c;obtain⟨a,d,i,_⟩:=bV b
  split at h
  ·cases h
  ·rename_i f
   simp only[Option.some.injEq,Prod.mk.injEq]at h;obtain⟨rfl,rfl⟩:=h;refine⟨q,a,h1,d,b,.inr ⟨(fv h2).1,fun g=>f ?_,by rw[(fv h2).2]⟩⟩;rw[←(f9 i).2];exact g.2
 ·rename_i x y j e c
  obtain⟨q,h1,h2,b⟩:=bV c;obtain⟨a,d,i,_⟩:=bV b;simp only[Option.some.injEq,Prod.mk.injEq]at h;obtain⟨rfl,rfl⟩:=h;refine⟨q,a,h1,d,b,.inr ⟨(fv h2).1,fun g=>?_,by rw[(fv h2).2]⟩⟩;have :a.tk=.word a.t:=by unfold Qk.tk;rw[if_pos g.1]
  exact e _ (by rw[←i];exact this)
 ·cases h
theorem zD {p:Nat} {v:Value} {L:List Qk} {n:Nat} {t:Fm} {r:List Tk} (h:PAt w p v L n) (hp:tY ((L.drop n).map Qk.tk)=some (t,r)) (hR:∀e T u,e=.returned u→FmAt w.heap.size T u t→PAt T p v L (n+1)→Keeps (·≠p) w T→n+1<L.length→(L.drop (n+1)).map Qk.tk=r→R e T):
 Calls Tryz.prog 287 #[.pointer (IQ p 0)] w R:=by
 have HR:=ae hR;clear hR;have H:=ae h;obtain⟨q,q2,hq,dp,U,G⟩:=zB hp;have X:=ae (h.toks.2 _ (List.mem_of_getElem? hq));obtain⟨hn,rfl⟩:=List.getElem?_eq_some_iff.1 hq;obtain⟨i,rfl⟩:=List.getElem?_eq_some_iff.1 dp;have k0:Same w (bj w):=(af _ w).alloc _;have ce:(bj w).heap[w.heap.size]?=_:=ag w _;have H0:=ae (h.same k0);have aH:=ae k0;have M:=ae ce;unfold bj at H0 aH M;clear k0 ce h;go_enter Tryz.func287,Tryz.ntmps287;go_wp2_with fail;generalize w.alloc _=w1 at aH M H0⊢;refine jk H0.o hn ?_;rintro e w2 rfl k2;have H2:=ae (H0.o.same k2);have HQ:=ae (ag w2 (Hv L[n].k L[n].t L[n].n L[n].a));have cE:=ae ((aH.o.tr k2).alloc (Hv L[n].k L[n].t L[n].n L[n].a));have H3:=ae (H2.o.same ((af _ w2).alloc (Hv L[n].k L[n].t L[n].n L[n].a)));have O:=ae (aw (k2.at M.o trivial) (Hv L[n].k L[n].t L[n].n L[n].a));have n1:p≠w2.heap.size:=Nat.ne_of_lt (am H2.o.blk);have n2:p≠w.heap.size:=Nat.ne_of_lt (am H.o.blk);have n5:w.heap.size≠w2.heap.size:=Nat.ne_of_lt (Nat.lt_of_lt_of_le (am M.o) k2.size);clear k2 H2;go_wp2_with fail;generalize w2.alloc _=w3 at HQ cE H3 O⊢;generalize w2.heap.size=y at HQ n1 n5⊢;have HX:=ae (Nat.le_refl w.heap.size);have bL:L[n].k≠3:=by
  rcases G with h|h
  ·rw[h.1];decide
  ·rw[h.1];decide
 refine cI H3.o hn _ (fun hh=>bL hh.1) ?_;rintro e j rfl k4;have V:=ae (k4.at HQ.o trivial);have c:=ae (k4.at O.o trivial);have J:=ae (cE.o.tr k4);have H4:=ae (H3.o.same k4);clear k4;have hb:=H4.o.blk;have dZ:=H4.o.le;have c1:=xc1 hb 1 rfl;have e0:=xc1 V.o 0 rfl;have e2:=xc1 V.o 2 rfl;have e3:=xc1 V.o 3 rfl;obtain⟨D,C,B,A,x⟩:=xc5 c.o rfl rfl rfl rfl rfl;have f1:=ao hb 1;obtain⟨g0,g1,g2,g3,g4⟩:=xf5 c.o;have n3:=n1.symm;have n4:=n2.symm;have n6:=n5.symm;clear hb bL;rcases G with⟨h1,rfl⟩|⟨h1,h2,rfl⟩
 ·rw[h1]at e0;go_wp2_with fail;refine bodyPost_ret (v:=(Hw GH GA L[n].n L[n].a none 0 0)) (by simp[results,Tryz.results287,go_sem,D,C,B,A,x]) rfl ?_;have a8:=((J.o.bar p).but 1 (IP ((n:Int)+1))).box5 HX.o (.string GH) (.string GA) (IP L[n].n) (IP L[n].a) IM;refine HR.o _ _ _ rfl ⟨L[n].a,none,0,rfl,X.o.2.2.1,Nat.zero_le _⟩ (H.o.step a8 ?_ (Nat.le_of_lt i)) a8 i U;rw[dn n2,aj H4.o.blk];simp
 ·rw[h1]at e0;go_wp2_with fail;have N:Keeps (·≠p) j j.drew:=al (af _ _);clear c1 f1 e0 e2;refine zq0 7 (.take 0 (.take 3 (.take 4 (.two 1 6 (.take 2 (.take 5 (.one 6 .last))) (.one 1 (.take 2 (.take 5 .last))))))) (Keeps (·≠p) j) (by kernel_rfl) (by kernel_rfl) N ?_
  iterate 3 (first|(apply aC;rfl;rfl;go_simp)|(apply aB;rfl;rfl;intro T hS;have z3:=ak hS e3 n3;go_simp;exact rfl;go_simp))
  refine kP ?_ ?_
  ·refine ay rfl rfl fun K d=>?_;go_simp;refine gl (H4.o.same (al (af _ _))) hn 1 h1 ?_;rintro e w5 rfl h5 I;refine d (Keeps (·≠p) j) _ _ (N.tr I) (fun _ h=>h) ?_;clear d K;have H5:=ae h5;have Z:=ae ((J.o.bar p).tr (N.tr I));have ch:=ae (N.tr I);clear h5 I
   iterate 2 (first|(apply aC;rfl;rfl;go_simp)|(apply aB;rfl;rfl;intro T hS;go_simp;exact rfl;go_simp))
   refine aI (ay rfl rfl fun K d=>?_);go_simp;refine d (Keeps (·≠p) j) _ _ (ch.o.alloc _) (fun _ h=>h) ?_;clear d K;refine aO rfl rfl fun K d=>?_;go_simp;refine d _ _ (aG ?_);clear d K;go_wp2_with fail;have o:=ae (Z.o.alloc (Ht GG L[n].t 0 L[n].a none 0 0));have s:=ae (aw H5.o.blk (Ht GG L[n].t 0 L[n].a none 0 0));have m:=ae (ag w5 (Ht GG L[n].t 0 L[n].a none 0 0));have l:=ae (aw (ch.o.at c.o n4) (Ht GG L[n].t 0 L[n].a none 0 0));generalize w5.alloc _=w6 at o s m l⊢;generalize w5.heap.size=z at m⊢;have H6:=ae (H.o.step o.o s.o (Nat.le_of_lt i));refine cI H6.o i _ h2 ?_;rintro e w7 rfl E;have f:=E.at m.o trivial;have b:=E.at l.o trivial;have aL:=ae (E.at s.o trivial);have Y:=ae (o.o.tr_same E);obtain⟨z0,z1,z2,z3,z4⟩:=xc5 f rfl rfl rfl rfl rfl;obtain⟨D,C,B,A,x⟩:=xc5 b rfl rfl rfl rfl rfl;obtain⟨g0,g1,g2,g3,g4⟩:=xf5 b;clear E f b;go_wp2_with fail;refine bodyPost_ret (v:=(Hw GG L[n].t 0 L[n].a none 0 0)) (by simp[results,Tryz.results287,go_sem,D,C,B,A,x]) rfl ?_;have F:=Y.o.box5 HX.o (.string GG) (.string L[n].t) IU (IP L[n].a) IM;refine HR.o _ _ _ rfl ⟨L[n].a,none,0,rfl,X.o.2.2.1,Nat.zero_le _⟩ (H.o.step F ?_ (Nat.le_of_lt i)) F i U;rw[dn n2];exact aL.o
  ·refine ay rfl rfl fun K d=>?_;go_simp;refine d (Keeps (·≠p) j) _ _ (N.alloc _) (fun _ h=>h) ?_;clear d K;refine aI (ay rfl rfl fun K d=>?_);go_simp;refine gl ((H4.o.same (al (af _ _))).same ((af _ _).alloc _)) hn 1 h1 ?_;rintro e w5 rfl h5 I;refine d (Keeps (·≠p) j) _ _ ((N.alloc _).tr I) (fun _ h=>h) ?_;clear d K;have H5:=ae h5;have n7:p≠j.heap.size:=Nat.ne_of_lt (am H4.o.blk);have n8:w.heap.size≠j.heap.size:=Nat.ne_of_lt (am c.o);have n9:w.heap.size≤j.heap.size:=J.o.size;have g:w5.heap[j.heap.size]?=(Ih GA GA 0 0 none 0 0):=I.at (ag j.drew _) n7.symm;have Z:=ae ((J.o.bar p).tr ((N.alloc _).tr I));have cH:=ae (((N.alloc _).tr I).at c.o n4);clear h5 I
   iterate 2 (first|(apply aC;rfl;rfl;go_simp)|(apply aB;rfl;rfl;intro T hS;go_simp;exact rfl;go_simp))
   clear D C B A x g0 g1 g2 g3 g4;obtain⟨D,C,B,A,x⟩:=xc5 g rfl rfl rfl rfl rfl;obtain⟨g0,g1,g2,g3,g4⟩:=xf5 g;have dE:=ae g;clear g;refine aO rfl rfl fun K d=>?_;go_simp;refine d _ _ (aG ?_);clear d K D C B A x g0 g1 g2 g3 g4;go_wp2_with fail;have o:=ae (Z.o.box5 n9 (.string GG) (.string L[n].t) IU (IP L[n].a) IM);have s:=ae ((dn n7 (.string GG) (.string L[n].t) IU (IP L[n].a) IM).trans H5.o.blk);have m:=ae (bT dE.o (.string GG) (.string L[n].t) IU (IP L[n].a) IM);have l:=ae ((dn n8 (.string GG) (.string L[n].t) IU (IP L[n].a) IM).trans cH.o);generalize((((w5.setCell ⟨j.heap.size,0,none⟩ (.string GG)).setCell ⟨j.heap.size,1,none⟩ (.string L[n].t)).setCell ⟨j.heap.size,2,none⟩ IU).setCell ⟨j.heap.size,3,none⟩ (IP L[n].a)).setCell ⟨j.heap.size,4,none⟩ IM=w6 at o s m l⊢;generalize j.heap.size=z at m⊢;have H6:=ae (H.o.step o.o s.o (Nat.le_of_lt i));refine cI H6.o i _ h2 ?_;rintro e w7 rfl E;have f:=E.at m.o trivial;have b:=E.at l.o trivial;have aL:=ae (E.at s.o trivial);have Y:=ae (o.o.tr_same E);obtain⟨z0,z1,z2,z3,z4⟩:=xc5 f rfl rfl rfl rfl rfl;obtain⟨D,C,B,A,x⟩:=xc5 b rfl rfl rfl rfl rfl;obtain⟨g0,g1,g2,g3,g4⟩:=xf5 b;clear E f b;go_wp2_with fail;refine bodyPost_ret (v:=(Hw GG L[n].t 0 L[n].a none 0 0)) (by simp[results,Tryz.results287,go_sem,D,C,B,A,x]) rfl ?_;have F:=Y.o.box5 HX.o (.string GG) (.string L[n].t) IU (IP L[n].a) IM;refine HR.o _ _ _ rfl ⟨L[n].a,none,0,rfl,X.o.2.2.1,Nat.zero_le _⟩ (H.o.step F ?_ (Nat.le_of_lt i)) F i U;rw[dn n2];exact aL.o
end
end Go.Proofs.YtojegnbejmeehaaGreatDoor
