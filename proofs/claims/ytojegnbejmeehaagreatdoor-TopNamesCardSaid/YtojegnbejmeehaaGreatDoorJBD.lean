/- Helpers of the proof of TopNames. -/
import Derived.Test.YtojegnbejmeehaaGreatDoorJBC
namespace Go.Proofs.YtojegnbejmeehaaGreatDoor
open Go.RowKit
set_option maxRecDepth 10000
set_option maxHeartbeats 16000000
set_option linter.all false
section
attribute [local irreducible] wpQuiet ax au aQ
variable {R:Ending→World→Prop} {w:World} {x i:Nat} {v:Value} {T:List Qk} {er pl:Int}
theorem gc (a:ByteArray) (l:List UInt8):(a.toList==l)=decide (a=⟨l.toArray⟩):=by
 rw[ByteArray.toList_eq,Bool.eq_iff_iff,beq_iff_eq,decide_eq_true_iff];constructor
 ·intro h;subst h;simp
 ·intro h;subst h;simp
theorem ge (a:ByteArray):a.toList.isEmpty=decide (a=GA):=by
 have :=gc a [];rw[←this]
 cases a.toList<;>rfl
def relS:List ByteArray:=[Hc,⟨#[126,61]⟩,G1,Hd,GN,Hg,GE]
def relO:List ByteArray:=[GQ,⟨#[110,101]⟩,GK,GR,GN,Hg,GE]
theorem Ck {w:World} {b n:Nat} (f:w.heap.size=b) (a:List ByteArray) (d:a.length=n):∀k,k<n→∃t,t∈a∧(w.alloc (.cells (a.map Value.string).toArray 9)).cell? ⟨b,k,none⟩=some (.string t):=by
 intro k e;have c:k<a.length:=d▸e;refine⟨a[k],List.getElem_mem c,?_⟩;subst f;rw[ai (ag w _)];simp[c]
theorem vH (w:World) (o:Obj):(w.alloc o).heap.size=w.heap.size+1:=Array.size_push _
theorem zp:∀t,t∈relS∨t∈relO→t.size≤10:=by
 intro t h;rcases h with h|h<;>revert t<;>decide
theorem xy (h:RAt w x v T i er pl) (A:∀e y t,e=.returned (.string t)→t.size≤10→Same w y→R e y):
 Calls Tryz.prog 227 #[.pointer (IQ x 0)] w R:=by
 have B:=ae A;clear A;have H:=ae h;clear h;have m:=ae (Ck (w:=w) rfl relS (n:=7) rfl);have l:=ae (Ck (vH w (.cells (relS.map Value.string).toArray 9)) relO (n:=7) rfl);have d:=ae (show Same w _ from(af _ w).alloc (.cells (relS.map Value.string).toArray 9));have a:=ae (show Same (w.alloc (.cells (relS.map Value.string).toArray 9)) _ from(af _ _).alloc (.cells (relO.map Value.string).toArray 9));have u:Hid (∀t,t∈relS∨t∈relO→t.size≤10):=ae zp;have f:Hid (∀k,k<7→∃t,t.size≤10∧(w.alloc (.cells (relS.map Value.string).toArray 9)).cell? ⟨w.heap.size,k,none⟩=some (.string t)):=ae fun k o=>let ⟨t,h1,h2⟩:=m.o k o;⟨t,u.o t (.inl h1),h2⟩;have c:Hid (∀k,k<7→∃t,t.size≤10∧((w.alloc (.cells (relS.map Value.string).toArray 9)).alloc (.cells (relO.map Value.string).toArray 9)).cell? ⟨w.heap.size+1,k,none⟩=some (.string t)):=ae fun k o=>let ⟨t,h1,h2⟩:=l.o k o;⟨t,u.o t (.inr h1),h2⟩;clear m l u;simp only[relS,relO,List.map_cons,List.map_nil]at f c d a;go_enter Tryz.func227,Tryz.ntmps227;go_wp2_with fail;generalize w.alloc _=D at f c d a⊢;generalize D.alloc _=C at c a⊢;generalize w.heap.size+1=J at c⊢;generalize w.heap.size=L at f⊢
 go_loopw [5] (fun i wr=>∃k:Nat,i=.int .i64 (k:Int)∧k≤7∧Hid (Same C wr)) (fun i _=>7 -(intOf i).toNat)
 case atStart=>exact⟨0,rfl,Nat.zero_le _,ae (af _ _)⟩
 case round=>
  obtain⟨k,rfl,o,p⟩:=hrel;by_cases j:k<7
  ·obtain⟨t,I,q⟩:=f.o k j;obtain⟨G,s,r⟩:=c.o k j;replace q:=ak (a.o.tr p.o) q trivial;have E:=ae r;clear r;go_wp2_with fail;refine fZ (H.o.same ((d.o.tr a.o).tr p.o)) _ ?_;rintro e F rfl z;generalize decide ((bC T i er).k=3∧(bC T i er).t=t)=b;have g:=ae (p.o.tr z);have r:=ak g.o E.o trivial;clear z q
   cases b with
   |true=>
    go_wp2_with fail;exact B.o _ _ _ rfl s ((d.o.tr a.o).tr g.o)
   |false=>
    go_wp2_with fail;go_roundw
    case rel=>exact⟨k+1,by go_num,by omega,g⟩
    case measure=>simp[intOf];omega
  ·obtain rfl:k=7:=by omega
   go_wp2_with fail;exact B.o _ _ GA rfl (by decide) ((d.o.tr a.o).tr p.o)
theorem Fh (cH:dY x v T 226 #[.pointer (IQ x 0)])
 (IS:tq x v T 225 #[.pointer (IQ x 0),.string ⟨#[41]⟩,.bool false]):
 dY x v T 171 #[.pointer (IQ x 0)]:=by
 intro w i er pl R h hR;have HR:=ae hR;have Jb:=ae cH;have HP:=Jb;have Jd:=ae IS;clear hR cH IS;have H:=ae h;have k0:Same w (bj w):=(af _ w).alloc _;have Ja:(bj w).heap[w.heap.size]?=_:=ag w _;have H0:=ae (h.same k0);have IR:=ae k0;have fw:=ae Ja;have Jv:x<w.heap.size:=am h.blk;have n4:w.heap.size≠x:=by omega
 unfold bj at H0 IR fw;clear k0 Ja h;go_enter Tryz.func171,Tryz.ntmps171;go_wp2_with fail;generalize w.alloc _=w1 at IR fw H0⊢;refine dH H0.o ?_;rintro e w2 rfl k2;have Je:Hid ((bC T i er).k=1→i+1<T.length):=ae fun hk=>(jU H.o.ok H.o.at_ (by rw[hk];decide)).2.1;generalize bC T i er=q at Je⊢;simp only[Qk.val];have I9:w.heap.size<w2.heap.size:=Nat.lt_of_lt_of_le (am fw.o) k2.size;have p:=k2.alloc (Hv q.k q.t q.n q.a);have J:=ae ((gn H.o).same (IR.o.tr p));have L:=ae (p.at fw.o trivial);have C:=ae (ag w2 (Hv q.k q.t q.n q.a));have H3:=ae (H0.o.same p);have ny:w2.heap.size≠x:=by omega
 clear p k2 fw IR H0;go_wp2_with fail;generalize w2.alloc _=w3 at J L C H3⊢;generalize w2.heap.size=y at C I9 ny⊢;obtain⟨ta,tc,hv,JC,Jn,X⟩:=mA H3.o.toks;obtain⟨c0,c1⟩:=xc2 H3.o.blk rfl rfl;have e0:=xc1 C.o 0 rfl;have Jz:=H.o.le;unfold maxLen at Jn;rw[hv]at c0;have Jw:IntKind.i64.wrap ((i:Int)+1)=(i:Int)+1:=by have :=H.o.at_;rw[IntKind.wrap_i64];omega
 by_cases dE:q.k=1
 case' neg=>
  have dp:(q.k==1)=false:=by simp[dE]
  clear dE X;refine aq (by kernel_rfl) (by kernel_rfl) ?_
  iterate 33 (apply wpQuiet_step;intro K I;(first|(apply aA;rfl;go_simp)|(apply aJ;rfl;intro w' d;obtain⟨s0,s1,s2⟩:=xs3 d c0 c1 e0;go_simp;exact rfl;go_simp));refine I _ ?_;clear I K)
  apply wpQuiet_nil;intro w5 M;clear c0 c1 e0 dp;have aL:=ae (J.o.same M);have a8:=ae (aM M L.o trivial);have Y:=ae (aM M C.o trivial);have H5:=ae (cG H3.o M);clear M J L C H3
 case' pos=>
  have Jm:=Je.o dE;obtain⟨b,off,Jl,z0,O,_,_⟩:=X (i+1) Jm;have dp:(q.k==1)=true:=by simp[dE]
  have JB:0≤(i:Int)+1:=by omega
  have JA:(i:Int)+1<(T.length:Int):=by omega
  have G:((i:Int)+1).toNat=i+1:=by omega
  rw[Jl]at c0;generalize T[i+1]=q2 at z0 O;clear dE X;by_cases gI:q2.k=3
  case' neg=>
   have bL:(q2.k==3)=false:=by simp[gI]
   clear gI;refine aq (by kernel_rfl) (by kernel_rfl) ?_
   iterate 33 (apply wpQuiet_step;intro K I;(first|(apply aA;rfl;go_simp)|(apply aJ;rfl;intro w' d;obtain⟨s0,s1,s2,s3,s4⟩:=xs5 d c0 c1 e0 z0 O;go_simp;exact rfl;go_simp));refine I _ ?_;clear I K)
   apply wpQuiet_nil;intro w5 M;clear c0 c1 e0 z0 O dp bL;have aL:=ae (J.o.same M);have a8:=ae (aM M L.o trivial);have Y:=ae (aM M C.o trivial);have H5:=ae (cG H3.o M);clear M J L C H3
  case' pos=>
   have bL:(q2.k==3)=true:=by simp[gI]
   clear gI;by_cases ht:q2.t=G5
   case' neg=>
    have IZ:(q2.t.toList==[40])=false:=(gc q2.t _).trans (decide_eq_false ht);clear ht;refine aq (by kernel_rfl) (by kernel_rfl) ?_
    iterate 33 (apply wpQuiet_step;intro K I;(first|(apply aA;rfl;go_simp)|(apply aJ;rfl;intro w' d;obtain⟨s0,s1,s2,s3,s4⟩:=xs5 d c0 c1 e0 z0 O;go_simp;exact rfl;go_simp));refine I _ ?_;clear I K)
    apply wpQuiet_nil;intro w5 M;clear c0 c1 e0 z0 O dp bL IZ;have aL:=ae (J.o.same M);have a8:=ae (aM M L.o trivial);have Y:=ae (aM M C.o trivial);have H5:=ae (cG H3.o M);clear M J L C H3
   case pos=>
    have IZ:(q2.t.toList==[40])=true:=(gc q2.t _).trans (decide_eq_true ht);clear ht;refine aq (by kernel_rfl) (by kernel_rfl) ?_
    iterate 33 (apply wpQuiet_step;intro K I;(first|(apply aA;rfl;go_simp)|(apply aJ;rfl;intro w' d;obtain⟨s0,s1,s2,s3,s4⟩:=xs5 d c0 c1 e0 z0 O;go_simp;exact rfl;go_simp));refine I _ ?_;clear I K)
    apply wpQuiet_nil;intro w4 k4;clear c0 c1 e0 z0 O dp bL IZ;have Jh:=ae (J.o.same k4);have Ji:=ae (aM k4 L.o trivial);have Jc:=ae (aM k4 C.o trivial);have H4:=ae (cG H3.o k4);clear k4 J L C H3;go_wp2_with fail;refine bW H4.o ?_;rintro e w5 i5 rfl _ _ f;have aL:=ae (Jh.o.tr f);have a8:=ae (f.kp.at Ji.o n4);have Y:=ae (f.kp.at Jc.o ny);obtain⟨Ju,h5⟩:=f.st;have H5:=ae h5;clear f h5 Jh Ji Jc H4;go_wp2_with fail;refine bW H5.o ?_;rintro e V i6 rfl _ _ f;have fu:=ae (aL.o.tr f);have cE:=ae (f.kp.at a8.o n4);have ch:=ae (f.kp.at Y.o ny);obtain⟨I5,h6⟩:=f.st;have H6:=ae h6;clear f h6 aL a8 Y H5;go_wp2_with fail;have e1:=xc1 ch.o 1 rfl;have e3:=xc1 ch.o 3 rfl;have kd:Keeps (·≠x) V V.drew:=al (af _ V);refine zq0 7 (.take 0 (.take 1 (.take 2 (.take 3 (.take 4 (.one 5 (.take 6 .last))))))) (Keeps (·≠x) V) (by kernel_rfl) (by kernel_rfl) kd ?_
    iterate 5 (first|(apply aC;rfl;rfl;go_simp)|(apply aB;rfl;rfl;intro w' hS;obtain⟨y1,y3⟩:=xk2 hS e1 e3 ny ny;go_simp;exact rfl;go_simp))
    refine aI (ay rfl rfl fun K A=>?_);go_simp;refine Jd.o V.drew i6 er I5 _ (H6.o.same (al (af _ _))) ?_;rintro e w7 ra rn rc i7 JD rfl f;have kp:Keeps (·≠x) V w7:=kd.tr f.kp;refine A (Keeps (·≠x) V) _ _ kp (fun _ h=>h) ?_;clear A K e1 e3;have fd:=ae ((fu.o.same (al (af _ _))).tr f);have B:=ae (kp.at cE.o n4);clear f kp fu cE ch H6 kd
    iterate 1 (first|(apply aC;rfl;rfl;go_simp)|(apply aB;rfl;rfl;intro w' hS;go_simp;exact rfl;go_simp))
    obtain⟨d0,d1,d2,d3,d4⟩:=xc5 B.o rfl rfl rfl rfl rfl;obtain⟨g0,g1,g2,g3,g4⟩:=xf5 B.o;refine aO rfl rfl fun K A=>?_;go_simp;refine A _ _ (aG ?_);clear A K g0 g1 g2 g3 g4;go_wp2_with fail;refine bodyPost_ret (v:=(Hw G3 q.t 0 q.a ra rn rc)) (by simp[results,Tryz.results171,go_sem,d0,d1,d2,d3,d4]) rfl ?_;exact HR.o _ _ _ _ _ rfl ⟨_,_,_,_,_,_,_,rfl⟩ (fd.o.box5 H.o (Nat.le_refl _) _ _ _ _ _)
 all_goals
  go_wp2_with fail;refine Jb.o _ _ _ _ _ H5.o ?_;rintro e V u i6 D rfl ⟨o,nm,kk,a,ks,m,c,rfl⟩ f;have fu:=ae (aL.o.tr f);have cE:=ae (f.kp.at a8.o n4);have ch:=ae (f.kp.at Y.o ny);obtain⟨I5,h6⟩:=f.st;have H6:=ae h6;clear f h6 aL a8 Y H5;have p:=sal V (Ht o nm kk a ks m c);have Jk:w.heap.size<V.heap.size:=am cE.o;have nz:V.heap.size≠x:=by omega
  have If:=ae (ag V (Ht o nm kk a ks m c));have fd:=ae (fu.o.same p);have B:=ae (aM p cE.o trivial);have I3:=ae (aM p ch.o trivial);have H7:=ae (cG H6.o p);clear p fu cE ch H6;go_wp2_with fail;generalize V.alloc _=w7 at fd B I3 H7 If⊢;generalize V.heap.size=z at If nz Jk⊢;refine xy H7.o ?_;rintro e w8 tt rfl Jy k8;have r:=ae (k8.at If.o trivial);clear If;have F:=ae (fd.o.same k8);have g:=ae (aM k8 B.o trivial);have E:=ae (aM k8 I3.o trivial);have H8:=ae (cG H7.o k8);clear k8 fd B I3 H7;have c2:=xc1 H8.o.blk 2 rfl;by_cases gJ:D=0∧tt≠GA
  ·obtain⟨s,G⟩:=gJ;have ce:(D==0)=true:=by simp[s]
   have I0:tt.toList.isEmpty=false:=(ge tt).trans (decide_eq_false G);clear s G;go_wp2_with fail;refine bW H8.o ?_;rintro e U i9 rfl _ _ f;have Z:=ae (f.kp.at r.o nz);clear c2 ce I0 r;have aH:=ae (F.o.tr f);have j:=ae (f.kp.at g.o n4);have I2:=ae (f.kp.at E.o ny);obtain⟨I4,h9⟩:=f.st;have H9:=ae h9;clear f h9 F g E H8;generalize bC T i6 D=q;simp only[Qk.val];have p:=sal U (Hv q.k q.t q.n q.a);have r:=ae (p.at Z.o trivial);have E:=ae (ag U (Hv q.k q.t q.n q.a));have g:=ae (p.at j.o trivial);have F:=ae (aH.o.same p);have H8:=ae (H9.o.same p);have Jq:w.heap.size<U.heap.size:=am j.o;clear p Z j aH H9 I2;clear ny;have ny:U.heap.size≠x:=by omega
   go_wp2_with fail;generalize U.alloc _=w8 at r E g F H8⊢;generalize U.heap.size=ys at E ny⊢;obtain⟨i8,I1⟩:∃i8,i8=i9:=⟨_,rfl⟩;obtain⟨Jp,dZ⟩:∃e8,e8=D:=⟨_,rfl⟩;obtain⟨Jj,IT⟩:∃p8,p8=I4:=⟨_,rfl⟩;rw[←I1,←dZ,←IT]at H8;rw[←I1,←dZ]at F;clear I1 dZ IT;obtain⟨z0,O,z2,z3,z4⟩:=xc5 r.o rfl rfl rfl rfl rfl;have e3:=xc1 E.o 3 rfl;have kd:Keeps (·≠x) w8 w8.drew:=al (af _ _);refine zq0 8 (.take 0 (.take 1 (.take 2 (.take 3 (.take 4 (.one 5 (.one 6 (.take 7 .last)))))))) (Keeps (·≠x) w8) (by kernel_rfl) (by kernel_rfl) kd ?_
   iterate 5 (first|(apply aC;rfl;rfl;go_simp)|(apply aB;rfl;rfl;intro w' hS;obtain⟨y0,y1,y2,y3,y4,y5⟩:=xk6 hS z0 O z2 z3 z4 e3 nz nz nz nz nz ny;go_simp;exact rfl;go_simp))
   refine aI (ay rfl rfl fun K A=>?_);go_simp;refine HP.o w8.drew i8 Jp Jj _ (H8.o.same (al (af _ _))) ?_;rintro e U u9 i9 Jo rfl ⟨o9,I6,k9,a9,I7,m9,c9,rfl⟩ f;have kp:Keeps (·≠x) w8 U:=kd.tr f.kp;refine A (Keeps (·≠x) w8) _ _ kp (fun _ h=>h) ?_;clear A K z0 O z2 z3 z4 e3;have aH:=ae ((F.o.same (al (af _ _))).tr f);have j:=ae (kp.at g.o n4);have Z:=ae (kp.at r.o nz);have Jr:=f.le;clear f F g r E H8;refine aI (ay rfl rfl fun K A=>?_);go_simp;refine A (Keeps (·≠x) w8) _ _ (kp.alloc _) (fun _ h=>h) ?_;clear A K;have gH:=sal U (Iw o nm kk a ks m c o9 I6 k9 a9 I7 m9 c9);have IW:=ae (aH.o.same gH);have l:=ae (gH.at j.o trivial);have Jf:=ae (gH.at Z.o trivial);clear gH aH j Z kp;generalize U.alloc _=Jt at IW l Jf⊢;generalize U.heap.size=bk
   iterate 1 (first|(apply aC;rfl;rfl;go_simp)|(apply aB;rfl;rfl;intro w' hS;go_simp;exact rfl;go_simp))
   obtain⟨d0,d1,d2,d3,d4⟩:=xc5 l.o rfl rfl rfl rfl rfl;obtain⟨g0,g1,g2,g3,g4⟩:=xf5 l.o;refine aO rfl rfl fun K A=>?_;go_simp;refine A _ _ (aG ?_);clear A K g0 g1 g2 g3 g4;go_wp2_with fail;refine bodyPost_ret (v:=(Hw tt GA 0 q.a (IQ bk 0) 2 2)) (by simp[results,Tryz.results171,go_sem,d0,d1,d2,d3,d4]) rfl ?_;exact HR.o _ _ _ _ _ rfl ⟨_,_,_,_,_,_,_,rfl⟩ (IW.o.box5 H.o (Nat.le_refl _) _ _ _ _ _)
  ·have Jg:=ae gJ;have e3:=xc1 E.o 3 rfl;obtain⟨z0,O⟩:=xc2 r.o rfl rfl;by_cases N:o=GG
   ·have I8:(o.toList==[118,97,114])=true:=(gc o _).trans (decide_eq_true N);have Js:=ae N;clear N gJ;obtain⟨d0,d1,d2,d3,d4⟩:=xc5 g.o rfl rfl rfl rfl rfl;obtain⟨g0,g1,g2,g3,g4⟩:=xf5 g.o;by_cases s:D=0
    case' pos=>
     have ce:(D==0)=true:=by simp[s]
     have G:tt=GA:=Decidable.byContradiction fun h=>Jg.o ⟨s,h⟩;have I0:tt.toList.isEmpty=true:=(ge tt).trans (decide_eq_true G);clear s G
    case' neg=>
     have ce:(D==0)=false:=by simp[s]
     clear s
    all_goals
     go_wp2_with fail;refine bodyPost_ret (v:=(Hw GI nm 0 q.a none 0 0)) (by simp[results,Tryz.results171,go_sem,d0,d1,d2,d3,d4]) rfl ?_;exact HR.o _ _ _ _ _ rfl ⟨_,_,_,_,_,_,_,rfl⟩ (F.o.box5 H.o (Nat.le_refl _) _ _ _ _ _)
   ·have I8:(o.toList==[118,97,114])=false:=(gc o _).trans (decide_eq_false N);clear N gJ;by_cases s:D=0
    case' pos=>
     have ce:(D==0)=true:=by simp[s]
     have G:tt=GA:=Decidable.byContradiction fun h=>Jg.o ⟨s,h⟩;have I0:tt.toList.isEmpty=true:=(ge tt).trans (decide_eq_true G);clear s G
    case' neg=>
     have ce:(D==0)=false:=by simp[s]
     clear s
    all_goals
     go_wp2_with fail;refine cV H8.o q.a 2 (by decide) ?_;rintro e U u9 Jo rfl _ f;have Z:=ae (f.kp.at r.o nz);clear ce I8 e3 z0 O c2 r;have aH:=ae (F.o.tr f);have j:=ae (f.kp.at g.o n4);have I2:=ae (f.kp.at E.o ny);obtain⟨I4,h9⟩:=f.st;have H9:=ae h9;clear f h9 F g E H8;have e3:=xc1 I2.o 3 rfl;have O:=xc1 Z.o 1 rfl;obtain⟨d0,d1,d2,d3,d4⟩:=xc5 j.o rfl rfl rfl rfl rfl;obtain⟨g0,g1,g2,g3,g4⟩:=xf5 j.o;go_wp2_with fail;refine bodyPost_ret (v:=(Hw GI nm 0 q.a none 0 0)) (by simp[results,Tryz.results171,go_sem,d0,d1,d2,d3,d4]) rfl ?_;exact HR.o _ _ _ _ _ rfl ⟨_,_,_,_,_,_,_,rfl⟩ (aH.o.box5 H.o (Nat.le_refl _) _ _ _ _ _)
end
end Go.Proofs.YtojegnbejmeehaaGreatDoor
