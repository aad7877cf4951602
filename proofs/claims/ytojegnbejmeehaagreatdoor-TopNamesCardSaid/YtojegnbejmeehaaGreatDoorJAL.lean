/- Helpers of the proof of TopNames. -/
import Derived.Handy
import Derived.Test.YtojegnbejmeehaaGreatDoorJAK
namespace Go.Proofs.YtojegnbejmeehaaGreatDoor
open Go.RowKit
set_option maxRecDepth 10000
set_option maxHeartbeats 16000000
set_option linter.all false
section
variable {R:Ending→World→Prop} {w:World} {A:Au}
end
section
variable {R:Ending→World→Prop} {w:World}
end
section
attribute [local irreducible] wpQuiet
variable {R:Ending→World→Prop} {w:World} {T:Nat} {L:List Nd}
end
section
attribute [local irreducible] wpQuiet ax au aQ
variable {R:Ending→World→Prop} {w:World} {T:Nat} {L:List Nd}
theorem zn {next:List (List Int)} {a:List Int} (d:RootsOk T L a next) (g:∀l∈next,l.length=2^T) {i:Nat} {r:Int} {l:List Int} (f:a[i]?=some r) (b:next[i]?=some l):zo T L r=l:=by
 obtain⟨p,rfl,h,c⟩:=d.2 i r l f b;have e:=g l (List.mem_of_getElem? b);unfold zo;rw[if_pos ⟨by omega,by omega⟩,Int.toNat_natCast];refine Em (by simp[e]) fun x hx=>?_;simp only[List.length_map,List.length_range]at hx;rw[←c x hx];simp[List.getD,hx]
end
section
attribute [local irreducible] wpQuiet ax au aQ
variable {R:Ending→World→Prop} {w:World} {A:Au} {B d:Nat}
theorem OwnMat.keepT {S:Nat→Prop} {m:World} {v:Value} {c:List (List Int)} (h:OwnMat w B v c) (k:Keeps S w m) (hs:∀b a e,w.heap[b]?=some (.cells a e (0,0))→(e=41∨e=3)→B≤b→S b):OwnMat m B v c:=by
 obtain⟨vs,h1,h2,p⟩:=h;refine⟨vs,ar h1 k fun b g=>?_,h2,fun i u l n o=>(p i u l n o).keep k fun b g=>?_⟩
 ·obtain⟨j,a,f⟩:=ah h1 g;exact hs b a _ f (.inl rfl) j
 ·obtain⟨j,a,f⟩:=ah (p i u l n o) g;exact hs b a _ f (.inr rfl) j
def OwnAuto (w:World) (B:Nat) (v:Value) (A:Au):Prop:=∃va vn,v=.agg #[A.T,va,vn]∧OwnBools w B va A.acc∧OwnMat w B vn A.next
theorem AuOk.bounds (h:AuOk A):aK A.T∧∀l∈A.next,∀x∈l,aK x:=
 ⟨by have :=h.1;unfold aK;omega,fun l a=>(h.2 l a).bounds h.1.2.2.2.1⟩
structure ToIn (w:World) (B x:Nat) (T:Int) (u vn:Value) (acc:List Bool) (rows:List (List Int)):Prop where
 blk:w.heap[x]?=some (.cells #[T,u,vn] 166)
 low:B≤x
 acc:OwnBools w B u acc
 mat:OwnMat w B vn rows
variable {x:Nat} {T:Int} {u vn:Value} {acc:List Bool} {rows:List (List Int)}
theorem ToIn.same {a:World} (h:ToIn w B x T u vn acc rows) (k:Same w a):ToIn a B x T u vn acc rows:=
 ⟨k.at h.blk trivial,h.low,ar h.acc k fun _ _=>trivial,h.mat.same k⟩
theorem ToIn.step {f:World} {c:Value} {a:List (List Int)} (h:ToIn w B x T u vn acc rows) (k:Keeps (fun b=>vn.ownBlock≠some b) w f) (q:OwnMat f B c a):ToIn (f.setCell ⟨x,2,none⟩ c) B x T u c acc a:=by
 have hx:vn.ownBlock≠some x:=fun e=>by
  obtain⟨vs,h1,_⟩:=h.mat;obtain⟨_,m,g⟩:=ah h1 e;rw[h.blk]at g;simp at g
 have i:=k.at h.blk hx;have n:Keeps (·≠x) f (f.setCell ⟨x,2,none⟩ c):=(af (·≠x) f).setCell (fun r=>r.2 rfl) _;have o:OwnBools f B u acc:=ar h.acc k fun b i e=>by
  obtain⟨vs,h1,_⟩:=h.mat;obtain⟨_,t,s⟩:=ah h1 e;obtain⟨_,v,p⟩:=ah h.acc i;rw[s]at p;simp at p
 refine⟨by rw[aj i];simp,h.low,ar o n fun b l=>?_,q.keepT n fun b m e g j _=>?_⟩
 ·rintro rfl;obtain⟨_,t,h1⟩:=ah o l;rw[i]at h1;simp at h1
 ·rintro rfl;rw[i]at g;simp only[Option.some.injEq,Obj.cells.injEq]at g;obtain⟨_,rfl,_⟩:=g;rcases j with j|j<;>exact absurd j (by decide)
theorem rO {T:Nat} {L:List Nd} {a:List Int} {next:List (List Int)} (b:RootsOk T L a next) (f:L.length≤1000000):∀x∈a,aK x:=fun x hx=>by
 obtain⟨i,e⟩:=List.getElem?_of_mem hx;have c:=(List.getElem?_eq_some_iff.1 e).1;rw[b.1]at c;obtain⟨k,rfl,g,_⟩:=b.2 i x _ e (List.getElem?_eq_getElem c);unfold aK;omega
theorem Gg {x:Nat} {a b c t0 i g:Value} {f:TypeId} (h:w.heap[x]?=some (.cells #[t0,i,g] f (0,0))):
 (((w.setCell ⟨x,0,none⟩ a).setCell ⟨x,1,none⟩ b).setCell ⟨x,2,none⟩ c).heap[x]?=some (.cells #[a,b,c] f (0,0))∧Keeps (·≠x) w (((w.setCell ⟨x,0,none⟩ a).setCell ⟨x,1,none⟩ b).setCell ⟨x,2,none⟩ c):=by
 refine⟨?_,(((af (·≠x) w).setCell (fun e=>e.2 rfl) _).setCell (fun e=>e.2 rfl) _).setCell (fun e=>e.2 rfl) _⟩;rw[aj (aj (aj h 0 a) 1 b) 2 c];rfl
theorem ToIn.store {t0 i g:Value} (h:w.heap[x]?=some (.cells #[t0,i,g] 166)) (hx:B≤x) (e:OwnBools w B u acc):
 ToIn (((w.setCell ⟨x,0,none⟩ (IP T)).setCell ⟨x,1,none⟩ u).setCell ⟨x,2,none⟩ IM) B x T u IM acc []:=by
 obtain⟨h1,h2⟩:=Gg (a:=.int .i64 T) (b:=u) (c:=.slice none 0 0) h;refine⟨h1,hx,ar e h2 fun b j=>?_,OwnMat.nil _ _⟩;rintro rfl;obtain⟨_,k,f⟩:=ah e j;rw[h]at f;simp at f
theorem mh (h:DFAAt w B d A) (hR:∀e G v,e=.returned v→OwnAuto G w.heap.size v A→Same w G→R e G):
 Calls Tryz.prog 112 #[.pointer (IQ d 0)] w R:=by
 have HR:=ae hR;clear hR;have Y:=h.ok;have H:=ae h;have Jc:=ae Y;obtain⟨Jk,Jj,s,L,q,E,I8,aL⟩:=h.st;obtain⟨aa,ac,rfl⟩:=av E.acc;obtain⟨ra,rc,rfl⟩:=av E.roots;obtain⟨d0,d1,d2⟩:=xc3 E.blk rfl rfl rfl;have gJ:=ae E.acc.bools;have Je:=ae E
 have Jl:=ae aL;obtain⟨_,_,I0,Jh,I5,U⟩:=(E.roots.ints (rO aL (by have :=Y.1.2.2.2.1;omega))).open;simp only[Value.slice.injEq]at I0;obtain⟨rfl,_,rfl⟩:=I0;unfold maxLen at I5;have Jb:=ae U;have I1:=ae (fun(i:Nat) (r:Int) (l:List Int)=>zn (i:=i) (r:=r) (l:=l) aL (fun l hl=>(Y.2 l hl).1));have I3:Hid (A.next.length=q.length):=ae aL.1.symm;clear U;have O:=ae (And.intro Y.1.2.2.1 Y.1.2.2.2.1);have fw:=sal w (Ij 0 none 0 0 none 0 0);have t:=ag w (Ij 0 none 0 0 none 0 0);have D0:=ae d0;have D1:=ae d1;have D2:=ae d2;clear h Y E I8 aL d0 d1 d2;go_enter Tryz.func112,Tryz.ntmps112;go_wp2_with fail;generalize w.alloc _=j at fw t⊢;have p:=ae fw;have Jf:=ae t;obtain⟨W0,IT⟩:∃W0,W0=j.heap.size:=⟨_,rfl⟩;have N:=ae IT;clear fw t IT;refine zq0 9 (.take 0 (.take 2 (.take 3 (.take 4 (.take 5 (.two 1 8 (.two 6 8 (.take 7 (.one 8 .last)) (.one 6 (.take 7 .last))) (.one 1 (.one 6 (.take 7 .last))))))))) (Same j) (by kernel_rfl) (by kernel_rfl) (al (af (fun _=>True) j)) ?_
 iterate 5 (first|(apply aC;rfl;rfl;go_simp)|(apply aB;rfl;rfl;intro G hS;have q0:=ak (p.o.tr hS) D0.o trivial;go_simp;exact rfl;go_simp))
 rename_i K0 Ji
 have I:∀(x:Nat) (C:Option Addr) (z:Nat) (wx:World),ToIn wx W0 x A.T (.slice C A.acc.length z) IM A.acc []→Same j wx→
  K0 {tmps:=#[.pointer (IQ d 0),undef,.pointer (IQ w.heap.size 0),.pointer (IQ x 0),undef,undef,.pointer (IQ d 0),.bool false,undef,.pointer (IQ d 0),.int .i64 A.T,
   .pointer (IQ d 0),.pointer (IQ d 0),.pointer (IQ d 0),.slice aa A.acc.length ac,.slice C A.acc.length z,.agg #[A.T,.slice C A.acc.length z,IM],
   undef,undef,undef,undef,undef,undef,undef,undef,undef,undef,undef,undef,undef,undef,undef,undef,undef,undef,undef,undef,undef,undef],defers:=[]} wx:=by
  intro x C z wx o J;have e1:=ak (p.o.tr J) D1.o trivial;have Ja:=ae o;have Jd:=ae J;clear o J;go_wp2_with fail
  go_loopw [22] (fun i wr=>∃(k:Nat) (vn:Value),i=.int .i64 k∧k≤q.length∧Hid (ToIn wr W0 x A.T (.slice C A.acc.length z) vn A.acc (A.next.take k))∧Same j wr) (fun i _=>q.length -(intOf i).toNat)
  case atStart=>exact⟨0,_,rfl,Nat.zero_le _,ae (by simpa using Ja.o),Jd.o⟩
  case round=>
   clear e1;obtain⟨k,vn,rfl,hk,o,M⟩:=hrel;by_cases bL:k<q.length
   ·obtain⟨rb,Jg,rfl,_,dE⟩:=Jb.o k bL;have p1:=ak (p.o.tr M) (dE k bL) trivial;have IR:k<A.next.length:=by rw[I3.o];exact bL
    have gI:=ae (I1.o k _ _ (List.getElem?_eq_getElem bL) (List.getElem?_eq_getElem IR));have gH:=ae (List.take_succ_eq_append_getElem IR);have I2:Hid ((A.next.take k).length+1≤1000000):=ae (by have :=O.o.2;have :=Jc.o.1.2.2.2.2;simp;omega);generalize q[k]=r1 at p1 gI;generalize A.next[k]=row at gI gH
    generalize A.next.take k=aH at o gH I2
    obtain⟨ma,mc,rfl⟩:=o.mat.shape;have d2:=ak (p.o.tr M) D2.o trivial;have fu:=ae o;have cH:=ae M;clear dE o M;go_wp2_with fail;refine zq0 11 (.take 0 (.take 1 (.take 2 (.take 3 (.take 4 (.take 5 (.take 6 (.one 7 (.one 8 (.one 9 (.take 10 .last))))))))))) (fun G=>G.heap[x]?=(IC A.T C A.acc.length z ma aH.length mc)∧G.cell? ⟨d,2,none⟩=some (IL s)) (by kernel_rfl) (by kernel_rfl) ⟨fu.o.blk,d2⟩ ?_
    iterate 7 (first|(apply aC;rfl;rfl;go_simp)|(apply aB;rfl;rfl;intro G hS;have q2:=ai hS.1 2;have q3:=hS.2;simp only[List.getElem?_toArray,List.getElem?_cons_zero,List.getElem?_cons_succ]at q2;go_simp;exact rfl;go_simp))
    have X:Same wr wr.drew:=al (af (fun _=>True) wr);have IZ:W0≤wr.heap.size:=by rw[N.o];exact cH.o.size
    refine aI (ay rfl rfl fun K f=>?_);go_simp;refine Bo (Je.o.store.same ((p.o.tr cH.o).tr X)) r1 ?_;rintro e w3 u3 rfl o3 k3;rw[gI.o]at o3;obtain⟨sa,sc,rfl⟩:=o3.shape;have kk:=X.tr k3;have n:=fu.o.same kk;have d3:=ak kk d2 trivial;refine f _ _ _ ⟨n.blk,d3⟩ (fun _ h=>h) ?_;clear f K;refine aI (ay rfl rfl fun K f=>?_);go_simp;refine f _ _ _ ⟨aw n.blk _,dt d3 _⟩ (fun _ h=>h) ?_;clear f K;obtain⟨g,cap,w5,hr,a8,ce,dZ,_,_⟩:=n.mat.push (Nat.le_trans IZ kk.size) (aN o3 (Nat.le_trans IZ X.size)) I2.o;have If:(Value.slice ma aH.length mc).ownBlock≠some x:=fun e=>by
     obtain⟨vs,h1,_⟩:=n.mat;obtain⟨_,I9,hc⟩:=ah h1 e;rw[n.blk]at hc;simp at hc
    have ch:=ce.at n.blk If;have d5:w5.cell? ⟨d,2,none⟩=some (IL s):=ak (((p.o.tr cH.o).tr kk).trans dZ (S'':=fun _=>True) fun y hy _=>⟨trivial,by rw[N.o];exact Nat.lt_of_lt_of_le hy p.o.size⟩) D2.o trivial;refine aI (bZ _ _ _ rfl rfl rfl ?hs ?hx hr _ ⟨ch,d5⟩ (fun _ h=>h) ?_)
    case hs=>rfl
    case hx=>rfl
    clear hr;go_simp
    iterate 1 (first|(apply aC;rfl;rfl;go_simp)|(apply aB;rfl;rfl;intro G hS;go_simp;exact rfl;go_simp))
    have z1:=xc1 ch 2 rfl;have z2:=ao ch 2;have dp:=n.step ce a8;have IW:Same j (w5.setCell ⟨x,2,none⟩ (.slice (IQ g 0) (aH.length+1) cap)):=by
     refine((cH.o.tr kk).trans ce fun y hy _=>⟨trivial,fun e=>?_⟩).setCell (fun F=>?_) _
     ·obtain⟨vs,h1,_⟩:=n.mat;have :=(ah h1 e).1;rw[N.o]at this;omega
     ·have h1:=n.low;have h2:x<j.heap.size:=F.1;rw[N.o]at h1;omega
    have HF:=ae (And.intro dp IW);clear dp IW n d3 kk X o3 k3 a8 ce dZ If d5 d2;refine aO rfl rfl fun K M=>?_;go_simp;refine M _ _ (aG ?_);clear M K z1 z2 ch;go_wp2_with fail;go_roundw
    case rel=>exact⟨k+1,_,by go_num,by omega,ae (by rw[gH.o];exact HF.o.1),HF.o.2⟩
    case measure=>simp[intOf];omega
   ·obtain rfl:k=q.length:=by omega
    have D:=o.o;rw[List.take_of_length_le (by rw[I3.o];exact Nat.le_refl _)]at D;obtain⟨ma,mc,rfl⟩:=D.mat.shape;have x0:=ai D.blk 0;have x1:=ai D.blk 1;have x2:=ai D.blk 2;have t:=M.at Jf.o trivial;have r0:=ai t 0;have r1:=ai t 1;have r2:=ai t 2;simp only[List.getElem?_toArray,List.getElem?_cons_zero,List.getElem?_cons_succ]at x0 x1 x2 r0 r1 r2;have f0:=ao t 0;have f1:=ao t 1;have f2:=ao t 2;clear o;go_wp2_with fail;have h3:=Gg (a:=.int .i64 A.T) (b:=.slice C A.acc.length z) (c:=.slice ma A.next.length mc) t;have I7:=ar D.acc h3.2 fun b hb=>by
     rintro rfl;obtain⟨_,c1,h4⟩:=ah D.acc hb;rw[t]at h4;simp at h4
    have I6:=D.mat.keepT h3.2 fun b I9 e hc he _=>by
     rintro rfl;rw[t]at hc;simp only[Option.some.injEq,Obj.cells.injEq]at hc;obtain⟨_,rfl,_⟩:=hc;rcases he with he|he<;>exact absurd he (by decide)
    have IS:Same w (((wr.setCell ⟨w.heap.size,0,none⟩ (IP A.T)).setCell ⟨w.heap.size,1,none⟩ (.slice C A.acc.length z)).setCell ⟨w.heap.size,2,none⟩ (.slice ma A.next.length mc)):=
     (((p.o.tr M).setCell (fun F=>Nat.lt_irrefl _ F.1) _).setCell (fun F=>Nat.lt_irrefl _ F.1) _).setCell (fun F=>Nat.lt_irrefl _ F.1) _
    have fd:OwnAuto (((wr.setCell ⟨w.heap.size,0,none⟩ (IP A.T)).setCell ⟨w.heap.size,1,none⟩ (.slice C A.acc.length z)).setCell ⟨w.heap.size,2,none⟩ (.slice ma A.next.length mc)) w.heap.size (.agg #[A.T,.slice C A.acc.length z,.slice ma A.next.length mc]) A:=
     ⟨_,_,rfl,aN I7 (by rw[N.o];exact p.o.size),I6.below (by rw[N.o];exact p.o.size)⟩
    have cE:=h3.1;generalize((wr.setCell ⟨w.heap.size,0,none⟩ (IP A.T)).setCell ⟨w.heap.size,1,none⟩ (.slice C A.acc.length z)).setCell ⟨w.heap.size,2,none⟩ (.slice ma A.next.length mc)=wf at cE IS fd⊢;obtain⟨y0,y1,y2⟩:=xc3 cE rfl rfl rfl;refine bodyPost_ret (v:=.agg #[A.T,.slice C A.acc.length z,.slice ma A.next.length mc]) (by simp[results,Tryz.results112,go_sem,y0,y1,y2]) rfl ?_;exact HR.o _ _ _ rfl fd IS
 have I:=ae I;have X:Same j j.drew:=al (af (fun _=>True) j);have HD:=ae (H.o.same (p.o.tr X));have I4:=ae (gJ.o.same (p.o.tr X));have Z:W0≤j.heap.size:=by rw[N.o];exact Nat.le_refl _
 refine kP ?_ ?_
 ·refine ay rfl rfl fun K f=>?_;go_simp;refine dB HD.o ?_;rintro e rfl;refine f (Same j) _ _ X (fun _ h=>h) ?_;clear f K;refine kP ?_ ?_
  ·refine ay rfl rfl fun K f=>?_;go_simp;refine iU I4.o O.o.1 (by have :=O.o.2;omega) ?_;rintro e w2 u2 rfl o2 k2;obtain⟨C,z,rfl⟩:=av o2;refine f (Same j) _ _ (X.tr k2) (fun _ h=>h) ?_;clear f K
   iterate 1 (first|(apply aC;rfl;rfl;go_simp)|(apply aB;rfl;rfl;intro G hS;go_simp;exact rfl;go_simp))
   refine aI (ay rfl rfl fun K f=>?_);go_simp;refine f (Same j) _ _ ((X.tr k2).alloc _) (fun _ h=>h) ?_;clear f K;refine aO rfl rfl fun K M=>?_;go_simp;have o:ToIn (w2.alloc (Ij A.T C A.acc.length z none 0 0)) W0 w2.heap.size A.T (.slice C A.acc.length z) IM A.acc []:=
    ⟨ag _ _,Nat.le_trans Z k2.size,aN (ar o2 ((af (fun _=>True) w2).alloc _) fun _ _=>trivial) Z,OwnMat.nil _ _⟩
   exact M _ _ (aG (I.o _ C z _ o ((X.tr k2).alloc _)))
  ·refine ay rfl rfl fun K f=>?_;go_simp;have hx:(j.drew.alloc (Ij 0 none 0 0 none 0 0)).heap[j.heap.size]?=(IC 0 none 0 0 none 0 0):=ag j.drew _;have V:=X.alloc (Ij 0 none 0 0 none 0 0);refine f (fun G=>Same j G∧G.heap[j.heap.size]?=(IC 0 none 0 0 none 0 0)) _ _ ⟨V,hx⟩ (fun _ h=>h.1) ?_;clear f K;refine aI (ay rfl rfl fun K f=>?_);go_simp;refine iU (gJ.o.same (p.o.tr V)) O.o.1 (by have :=O.o.2;omega) ?_;rintro e w2 u2 rfl o2 k2;obtain⟨C,z,rfl⟩:=av o2;have m:=k2.at hx trivial;refine f _ _ _ ⟨V.tr k2,m⟩ (fun _ h=>h) ?_;clear f K
   iterate 1 (first|(apply aC;rfl;rfl;go_simp)|(apply aB;rfl;rfl;intro G hS;go_simp;exact rfl;go_simp))
   obtain⟨z0,z1,z2⟩:=xc3 m rfl rfl rfl;have f0:=ao m 0;have f1:=ao m 1;have f2:=ao m 2;refine aO rfl rfl fun K M=>?_;go_simp;have o:ToIn (((w2.setCell ⟨j.heap.size,0,none⟩ (IP A.T)).setCell ⟨j.heap.size,1,none⟩ (.slice C A.acc.length z)).setCell ⟨j.heap.size,2,none⟩ IM) W0 j.heap.size A.T (.slice C A.acc.length z) IM A.acc []:=
    ToIn.store m Z (aN o2 (Nat.le_trans Z V.size))
   have J:Same j (((w2.setCell ⟨j.heap.size,0,none⟩ (IP A.T)).setCell ⟨j.heap.size,1,none⟩ (.slice C A.acc.length z)).setCell ⟨j.heap.size,2,none⟩ IM):=
    (((V.tr k2).setCell (fun F=>Nat.lt_irrefl _ F.1) _).setCell (fun F=>Nat.lt_irrefl _ F.1) _).setCell (fun F=>Nat.lt_irrefl _ F.1) _
   exact M _ _ (aG (I.o _ C z _ o J))
 ·refine ay rfl rfl fun K f=>?_;go_simp;have hx:(j.drew.alloc (Ij 0 none 0 0 none 0 0)).heap[j.heap.size]?=(IC 0 none 0 0 none 0 0):=ag j.drew _;have V:=X.alloc (Ij 0 none 0 0 none 0 0);refine f (fun G=>Same j G∧G.heap[j.heap.size]?=(IC 0 none 0 0 none 0 0)) _ _ ⟨V,hx⟩ (fun _ h=>h.1) ?_;clear f K;refine aI (ay rfl rfl fun K f=>?_);go_simp;refine dB (H.o.same (p.o.tr V)) ?_;rintro e rfl;refine f _ _ _ ⟨V,hx⟩ (fun _ h=>h) ?_;clear f K;refine aI (ay rfl rfl fun K f=>?_);go_simp;refine iU (gJ.o.same (p.o.tr V)) O.o.1 (by have :=O.o.2;omega) ?_;rintro e w2 u2 rfl o2 k2;obtain⟨C,z,rfl⟩:=av o2;have m:=k2.at hx trivial;refine f _ _ _ ⟨V.tr k2,m⟩ (fun _ h=>h) ?_;clear f K
  iterate 1 (first|(apply aC;rfl;rfl;go_simp)|(apply aB;rfl;rfl;intro G hS;go_simp;exact rfl;go_simp))
  obtain⟨z0,z1,z2⟩:=xc3 m rfl rfl rfl;have f0:=ao m 0;have f1:=ao m 1;have f2:=ao m 2;refine aO rfl rfl fun K M=>?_;go_simp;have o:ToIn (((w2.setCell ⟨j.heap.size,0,none⟩ (IP A.T)).setCell ⟨j.heap.size,1,none⟩ (.slice C A.acc.length z)).setCell ⟨j.heap.size,2,none⟩ IM) W0 j.heap.size A.T (.slice C A.acc.length z) IM A.acc []:=
   ToIn.store m Z (aN o2 (Nat.le_trans Z V.size))
  have J:Same j (((w2.setCell ⟨j.heap.size,0,none⟩ (IP A.T)).setCell ⟨j.heap.size,1,none⟩ (.slice C A.acc.length z)).setCell ⟨j.heap.size,2,none⟩ IM):=
   (((V.tr k2).setCell (fun F=>Nat.lt_irrefl _ F.1) _).setCell (fun F=>Nat.lt_irrefl _ F.1) _).setCell (fun F=>Nat.lt_irrefl _ F.1) _
  exact M _ _ (aG (I.o _ C z _ o J))
end
section
attribute [local irreducible] wpQuiet ax au aQ
variable {R:Ending→World→Prop} {w:World} {A:Au} {B d x:Nat} {T:Int} {u vn:Value} {acc:List Bool} {rows:List (List Int)}
def RowIn (w:World) (b:Nat) (l:List Int):Prop:=w.heap[b]?=some (.cells (l.map (Value.int .i64)).toArray 3 (0,0))
theorem RowIn.set {b:Nat} {l:List Int} (h:RowIn w b l) (k:Nat) (y:Int):RowIn (w.setCell ⟨b,k,none⟩ (IP y)) b (l.set k y):=by
 unfold RowIn at *;rw[aj h];simp[List.map_set]
theorem zZ {n:Nat}:madeCells (Value.cells IU) (n*1)=((List.replicate n (0:Int)).map (Value.int .i64)).toArray:=by
 apply Array.ext
 ·simp[size_madeCells]
 ·intro i h1 h2;simp[madeCells,Value.cells,Nat.mod_one]
theorem RowIn.own {b:Nat} {l:List Int} (h:RowIn w b l) (e:B≤b) {n:Nat} (a:n=l.length) (c:n≤maxLen):OwnInts w B (.slice (IQ b 0) n n) l:=by
 subst a;refine⟨by simp,.inr ⟨b,l.length,_,rfl,e,h,Nat.le_refl _,c,by simp,?_⟩⟩;exact List.take_of_length_le (by simp)
theorem yp {e:TypeId} {g n c k:Nat} {a:List Value} {y:Value} (h:w.ownsRow B e 1 (.slice (IQ g 0) n c) n a) (_:k<n):(w.setCell ⟨g,k,none⟩ y).ownsRow B e 1 (.slice (IQ g 0) n c) n (a.set k y):=by
 rcases h with⟨h1,⟨h0,_⟩|⟨q,cap,p,b,o,m,l,j,i,f⟩⟩
 ·cases h0
 ·simp only[Value.slice.injEq,Option.some.injEq,Addr.mk.injEq,and_true]at b;obtain⟨rfl,_,rfl⟩:=b;refine⟨by simpa using h1,.inr ⟨g,c,_,rfl,o,aj m k y,l,j,by simpa using i,?_⟩⟩;rw[←f];simp[List.take_set]
theorem dN {e:TypeId} {z n:Nat} {v:Value} {b:List Value} (h:w.ownsRow B e z v n b) (h0:0<n):∃g c,v=.slice (IQ g 0) n c:=by
 rcases h.2 with⟨_,h1⟩|⟨i,a,f,e,_⟩
 ·omega
 ·exact⟨_,_,e⟩
theorem OwnMat.elem {g n c k:Nat} {l:List Int} (h:OwnMat w B (.slice (IQ g 0) n c) rows) (e:rows[k]?=some l):∃s b,w.cell? ⟨g,k,none⟩=some (.slice s l.length b)∧w.frozen? ⟨g,k,none⟩=false∧OwnInts w B (.slice s l.length b) l:=by
 obtain⟨vs,h1,h2,o⟩:=h;have m:=(List.getElem?_eq_some_iff.1 e).1;obtain⟨u,a⟩:∃u,vs[k]?=some u:=⟨_,List.getElem?_eq_getElem (by omega)⟩;have ho:=o k u l a e;obtain⟨s,b,rfl⟩:=ho.shape;rcases h1 with⟨_,⟨h0,_⟩|⟨y,cap,p,i,v,f,t,r,q,j⟩⟩
 ·cases h0
 ·simp only[Value.slice.injEq,Option.some.injEq,Addr.mk.injEq,and_true]at i;obtain⟨rfl,_,rfl⟩:=i;refine⟨s,b,?_,ao f _,ho⟩;rw[ai f];rw[←j,List.getElem?_take]at a
  split at a
  ·simpa using a
  ·cases a
end
section
theorem CU (a d c b:Value) (w:World):(Instr.field 61 (.agg #[a,d,c,b]) 0).run Tryz.prog w=.ok a w:=by kernel_rfl
theorem CT (d a c b:Value) (w:World):(Instr.field 61 (.agg #[d,a,c,b]) 1).run Tryz.prog w=.ok a w:=by kernel_rfl
theorem CQ (d c b a:Value) (w:World):(Instr.field 61 (.agg #[d,c,b,a]) 3).run Tryz.prog w=.ok a w:=by kernel_rfl
theorem C4 (a e d c b:Value) (w:World):(Instr.field 37 (.agg #[a,e,d,c,b]) 0).run Tryz.prog w=.ok a w:=by kernel_rfl
attribute [go_sem] CU CT CQ C4
end
end Go.Proofs.YtojegnbejmeehaaGreatDoor
