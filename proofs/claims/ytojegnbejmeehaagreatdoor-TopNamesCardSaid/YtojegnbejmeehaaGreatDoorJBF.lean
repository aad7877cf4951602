/- Helpers of the proof of TopNames. -/
import Derived.Test.YtojegnbejmeehaaGreatDoorJAP
import Derived.Test.YtojegnbejmeehaaGreatDoorJBE
namespace Go.Proofs.YtojegnbejmeehaaGreatDoor
open Go.RowKit
set_option maxRecDepth 10000
set_option maxHeartbeats 16000000
set_option linter.all false
section
attribute [local irreducible] wpQuiet ax au aQ
variable {R:Ending→World→Prop} {w:World} {x i:Nat} {v:Value} {T:List Qk} {er pl:Int}
theorem pE (x:Nat) (v:Value) (T:List Qk):dY x v T 171 #[.pointer (IQ x 0)]:=by
 have b:=vd (x:=x) (v:=v) (T:=T) true (fun h=>by cases h);have gt:=yK (x:=x) (v:=v) (T:=T) true ⟨#[125]⟩ (fun _=>b) (fun h=>by cases h);have c:=vd (x:=x) (v:=v) (T:=T) false (fun _=>gt);have a:=Fb c;have d:=yK (x:=x) (v:=v) (T:=T) false ⟨#[41]⟩ (fun h=>by cases h) (fun _=>a);exact Fh a d
theorem Dz (x:Nat) (v:Value) (T:List Qk):∀k d:Nat,d+k=30→
 dY x v T 119 (Ia (IL x) d)∧dY x v T 14 (Ia (IL x) d):=by
 intro k
 induction k with
 |zero=>
  intro d c;obtain rfl:d=30:=by omega
  exact⟨FB 30 (Nat.le_refl _) (fun h=>absurd h (by decide)) (fun h=>absurd h (by decide)) (pE x v T),mg 30 (Nat.le_refl _) (fun h=>absurd h (by decide))⟩
 |succ k ih=>
  intro d c;have a:=ih (d+1) (by omega);rw[Int.natCast_add,Int.natCast_one]at a;have b:=FB d (by omega) (fun _=>a.1) (fun _=>a.2) (pE x v T);exact⟨b,mg d (by omega) (fun _=>Bz (Fd d (Fe d (DA d b))))⟩
theorem nK (x:Nat) (v:Value) (T:List Qk):dY x v T 14 (Ia (IL x) 0):=
 (Dz x v T 30 0 rfl).2
def OwnDp (w:World) (B:Nat) (v:Value) (D:List Dl):Prop:=w.ownsRow B 33 3 v D.length (D.map Dl.cells).flatten
theorem OwnDp.nil (w:World) (B:Nat):OwnDp w B IM []:=⟨by simp,.inl ⟨rfl,rfl⟩⟩
theorem OwnDp.keep {B:Nat} {v:Value} {D:List Dl} {S:Nat→Prop} {a:World} (h:OwnDp w B v D) (k:Keeps S w a) (hs:∀b,v.ownBlock=some b→S b):OwnDp a B v D:=ar h k hs
theorem OwnDp.same {B:Nat} {v:Value} {D:List Dl} {a:World} (h:OwnDp w B v D) (k:Same w a):OwnDp a B v D:=h.keep k fun _ _=>trivial
theorem OwnDp.but {B p:Nat} {v:Value} {D:List Dl} {a:World} (h:OwnDp w B v D) (k:Keeps (·≠p) w a) (d:p<B):OwnDp a B v D:=
 h.keep k fun b c e=>by
  have :=(ah h c).1;omega
theorem OwnDp.str {B:Nat} {v:Value} {D:List Dl} (h:OwnDp w B v D):StrAt 3 w v (D.map Dl.cells):=by
 refine dg (fun x hx=>?_) (by rw[List.length_map];exact h);obtain⟨d,_,rfl⟩:=List.mem_map.1 hx;rfl
theorem OwnDp.push {B:Nat} {v:Value} {D:List Dl} (h:OwnDp w B v D) (j:B≤w.heap.size) (d:Dl) (m:D.length≤5000):
 ∃g cap a,(Builtin.append_ #[23,23] 23 #[v,.slice (IQ w.heap.size 0) 1 1]).run Tryz.prog (w.alloc (In d.name d.ord d.spot))=.ok (.slice (IQ g 0) (D.length+1) cap) a∧
  OwnDp a B (.slice (IQ g 0) (D.length+1) cap) (D++[d])∧Keeps (·<B) w a:=by
 obtain⟨g,cap,a,c,b,f,_,_⟩:=cF (P:=Tryz.prog) (k:=3) (by decide) w 23 23 33 Tryz.underlying23 eI rfl h j [.string d.name,.int .i64 d.ord,.int .i64 d.spot] rfl (by simp[Value.oneCell']) (by omega) (by decide);refine⟨g,cap,a,c,by simpa [OwnDp,Dl.cells]using b,f.mono fun y _ l e=>?_⟩;have :=(ah h e).1;omega
theorem Fg (h:RAt w x v T i 0 pl) (bL:(bC T i 0).k≠4)
 (hR:∀e w' u D i' M,e=.returned u→OwnDp w' w.heap.size u D→D≠[]→D.length+i≤i'→(M=0→∀d∈D,cM d.name)→Goes w w' x v T i i' 0 M→R e w'):
 Calls Tryz.prog 13 #[.pointer (IQ x 0)] w R:=by
 have HR:=ae hR;clear hR;have H:=ae h;have o:x<w.heap.size:=am h.blk;have gJ:=h.le;clear h;go_enter Tryz.func13,Tryz.ntmps13;go_wp2_with fail;refine jD H.o _ (by decide) ?_;rintro e w1 k rfl _ _ _ k1;have H1:=ae (H.o.same k1);have X:=ae ((gn H.o).same k1);clear k1;go_wp2_with fail;refine bW H1.o ?_;rintro e w2 i2 rfl _ F b;obtain rfl:=F bL;have A:=ae (X.o.tr b);have L:=A.o.kp.size;clear b F X H1;generalize(bC T i 0).val=rv;go_wp2_with fail
 go_loopw [4] (fun l wr=>∃(i1:Nat) (D:List Dl),Hid (OwnDp wr w.heap.size l D)∧D.length+(i+1)≤i1∧Hid (∀d∈D,cM d.name)∧Hid (Goes w wr x v T i i1 0 0)∧w.heap.size≤wr.heap.size) (fun _ wr=>ju x T.length wr)
 case atStart=>exact⟨i+1,[],ae (OwnDp.nil _ _),by simp,ae (fun d h=>by cases h),A,L⟩
 case round=>
  clear A L;obtain⟨i1,D,HD,If,HN,HG,hB⟩:=hrel;have a8:=bm HG.o T.length;obtain⟨s0,c0,rfl⟩:=av HD.o;obtain⟨gH,h1⟩:=HG.o.st;have H1:=ae h1;have HI:Hid (i1<T.length):=ae h1.at_;have c2:=xc1 h1.blk 2 rfl;clear h1;go_wp2_with fail;refine fz H1.o ?_;rintro e B q i3 cE rfl E b;have O:=ae E;have fd:=b.le;have V:=ae (HG.o.tr b);have aL:=ae (HD.o.but b.kp o);have J:=Nat.le_trans hB b.kp.size;clear b E HG HD hB c2 H1;simp only[Qk.val];have f:=sal B (Hv q.k q.t q.n q.a);have C:(B.alloc (Hv q.k q.t q.n q.a)).heap.size=B.heap.size+1:=by simp
  have N:=ae (ag B (Hv q.k q.t q.n q.a));have U:=ae (V.o.same f);have aH:=ae (aL.o.same f);have s:=Nat.le_trans J f.size;have e1:=xc1 N.o 1 rfl;have e3:=xc1 N.o 3 rfl;clear f V aL J;obtain⟨g,cap,w5,hr,G,p⟩:=aH.o.push s ⟨q.t,k,q.a⟩ (by have :=HI.o;omega);rw[C]at hr;have Z:=ae G;have z:=ae (U.o.low H.o p);have I:=Nat.le_trans s p.size;clear p G U aH s C
  go_wp2_with (at_builtin;refine ap rfl _ _ _ rfl rfl rfl hr ?_;clear hr)
  clear e1 e3;obtain⟨fw,h5⟩:=z.o.st;refine ei h5 _ ?_;rintro e w6 b6 i6 rfl r b;have j:=ae (z.o.tr b);have Y:=ae (Z.o.but b.kp o);have ce:=Nat.le_trans I b.kp.size;have dZ:=b.le;clear b h5 z Z I
  cases b6 with
  |true=>
   obtain⟨rfl,gI⟩:=r rfl;have y:Hid (∀d∈D++[(⟨q.t,k,q.a⟩:Dl)],cM d.name):=ae (fun d c=>by
    rcases List.mem_append.1 c with c|c
    ·exact HN.o d c
    ·simp at c;subst c;exact O.o rfl)
   clear r;go_wp2_with fail;go_roundw
   case rel=>exact⟨i6,D++[(⟨q.t,k,q.a⟩:Dl)],Y,by simp;omega,y,j,ce⟩
   case measure=>rw[a8,bm j.o];have :=HI.o;omega
  |false=>
   obtain⟨fu,h6⟩:=j.o.st;have H6:=ae h6;clear h6 r;go_wp2_with fail;refine cJ H6.o _ ?_;rintro e w7 u7 i7 ch rfl b;have cH:=ae (j.o.tr b);have dp:=ae (Y.o.but b.kp o);have dE:=b.le;have m:=b.er;have y:Hid (ch=0→∀d∈D++[(⟨q.t,k,q.a⟩:Dl)],cM d.name):=ae (fun h0 d c=>by
    have h3:cE=0:=Decidable.byContradiction fun h=>m h h0;rcases List.mem_append.1 c with c|c
    ·exact HN.o d c
    ·simp at c;subst c;exact O.o h3)
   clear b m;go_wp2_with fail;exact HR.o _ _ _ (D++[(⟨q.t,k,q.a⟩:Dl)]) _ _ rfl (by have :=dp.o;simpa using this) (by simp) (by simp;omega) y.o cH.o
theorem OwnC.push3 {B n:Nat} {v:Value} (h:OwnC w B 33 3 v n) (j:B≤w.heap.size) (o:ByteArray) (k a:Int) (m:n≤5000):
 ∃g cap b,(Builtin.append_ #[23,23] 23 #[v,.slice (IQ w.heap.size 0) 1 1]).run Tryz.prog (w.alloc (In o k a))=.ok (.slice (IQ g 0) (n+1) cap) b∧
  OwnC b B 33 3 (.slice (IQ g 0) (n+1) cap) (n+1)∧Keeps (·<B) w b:=by
 obtain⟨vs,h⟩:=h;obtain⟨g,cap,b,d,c,f,_,_⟩:=cF (P:=Tryz.prog) (k:=3) (by decide) w 23 23 33 Tryz.underlying23 eI rfl h j [.string o,.int .i64 k,.int .i64 a] rfl (by simp[Value.oneCell']) (by omega) (by decide);refine⟨g,cap,b,d,⟨_,c⟩,f.mono fun y _ l e=>?_⟩;have :=(ah h e).1;omega
theorem AQ (x:Nat) (v:Value) (T:List Qk):tq x v T 29 #[.pointer (IQ x 0)]:=by
 intro w i er pl R h hR;have HR:=ae hR;have H:=ae h;have r:x<w.heap.size:=am h.blk;have Js:=h.le;clear hR h;go_enter Tryz.func29,Tryz.ntmps29;go_wp2_with fail;refine ei H.o _ ?_;rintro e w1 b1 i1 rfl _ b;have Z:=ae b;have If:=b.kp.size;clear b
 cases b1 with
 |true=>
  go_wp2_with fail;exact HR.o _ _ _ _ _ _ _ rfl Z.o
 |false=>
  go_wp2_with fail
  go_loopw [3] (fun l wr=>∃(n i1:Nat) (e1:Int),Hid (OwnC wr w.heap.size 33 3 l n)∧n≤i1∧Hid (Goes w wr x v T i i1 er e1)∧w.heap.size≤wr.heap.size) (fun _ wr=>ju x T.length wr)
  case atStart=>exact⟨0,i1,er,ae (OwnC.nil _ _ _ _),by omega,Z,If⟩
  case round=>
   clear Z If;obtain⟨n,i1,e1,Jf,Jq,Z,If⟩:=hrel;have gH:=bm Z.o T.length;obtain⟨s0,c0,rfl⟩:=Jf.o.shape;obtain⟨Jp,h1⟩:=Z.o.st;have Jd:=ae h1;have HI:Hid (i1<T.length):=ae h1.at_;have hI:n<3001:=by have :=h1.at_;omega
   have c2:=xc1 h1.blk 2 rfl;clear h1;by_cases Jb:e1=0
   ·subst Jb;go_wp2_with fail;refine jD Jd.o _ (by decide) ?_;rintro e w2 k rfl _ _ _ k2;have IS:=ae (Z.o.same k2);have IR:=ae (Jf.o.keep k2 fun _ _=>trivial);have gJ:=Nat.le_trans If k2.size;have H2:=ae (Jd.o.same k2);clear k2 c2;by_cases gI:k<0
    ·have I7:decide (k<0)=true:=decide_eq_true gI;clear gI;go_wp2_with fail;refine dH H2.o ?_;rintro e Jn rfl ch;generalize bC T i1 0=q2;simp only[Qk.val];have IZ:=ae (IS.o.same ch);have IW:=ae (IR.o.keep ch fun _ _=>trivial);have IT:=Nat.le_trans gJ ch.size;have Jh:=ae (H2.o.same ch);clear ch IS IR gJ H2;go_wp2_with fail;refine cV Jh.o q2.a 2 (by decide) ?_;rintro e w4 u4 Jt rfl _ b;have Jg:=ae (IZ.o.tr b);have Je:=ae (IW.o.but b.kp r);have Jc:=Nat.le_trans IT b.kp.size;obtain⟨Jo,h4⟩:=b.st;have H4:=ae h4;have Jm:=b.le;clear b h4 IZ IW IT Jh;clear I7;go_wp2_with fail;refine bW H4.o ?_;rintro e w5 i5 rfl _ _ b;have U:=ae (Jg.o.tr b);have O:=ae (Je.o.but b.kp r);have N:=Nat.le_trans Jc b.kp.size;obtain⟨Jk,h5⟩:=b.st;have H5:=ae h5;have Ja:=b.le;clear b h5 Jg Je Jc H4;by_cases cE:n=6
     ·have I6:((n:Int)==6)=true:=by rw[beq_iff_eq];omega
      clear cE;go_wp2_with fail;refine dH H5.o ?_;rintro e Ji rfl s;generalize bC T i5 _=q5;simp only[Qk.val];have Y:=ae (U.o.same s);have X:=ae (O.o.keep s fun _ _=>trivial);have V:=Nat.le_trans N s.size;have fw:=ae (H5.o.same s);clear s U O N H5;go_wp2_with fail;refine cV fw.o q5.a 2 (by decide) ?_;rintro e w6 u6 Jl rfl _ b;have fu:=ae (Y.o.tr b);have fd:=ae (X.o.but b.kp r);have dE:=Nat.le_trans V b.kp.size;obtain⟨Jj,h6⟩:=b.st;have H6:=ae h6;have I9:=b.le;clear b h6 Y X V fw;go_wp2_with fail;refine fz H6.o ?_;rintro e p q i7 I8 rfl _ b;have L:=ae (fu.o.tr b);have G:=ae (fd.o.but b.kp r);have A:=Nat.le_trans dE b.kp.size;obtain⟨I4,h7⟩:=b.st;have H7:=ae h7;have cH:=b.le;clear b h7 fu fd dE H6;simp only[Qk.val];have f:=sal p (Hv q.k q.t q.n q.a);have u:(p.alloc (Hv q.k q.t q.n q.a)).heap.size=p.heap.size+1:=by simp
      have D:=ae (ag p (Hv q.k q.t q.n q.a));have J:=ae (L.o.same f);have F:=ae (G.o.keep f fun _ _=>trivial);have m:=Nat.le_trans A f.size;have e1:=xc1 D.o 1 rfl;have e3:=xc1 D.o 3 rfl;clear f L G A H7;obtain⟨g,cap,w9,hr,y,j⟩:=F.o.push3 m q.t k q.a (by omega);rw[u]at hr;have E:=ae y;have o:=ae (J.o.low H.o j);have z:=Nat.le_trans m j.size;clear j y J F m u
      go_wp2_with (at_builtin;refine ap rfl _ _ _ rfl rfl rfl hr ?_;clear hr)
      clear e1 e3;obtain⟨I3,h9⟩:=o.o.st;have H9:=ae h9;clear h9;refine ei H9.o _ ?_;rintro e I1 a8 aH rfl c b;have d:=ae (o.o.tr b);have I:=ae (E.o.but b.kp r);have B:=Nat.le_trans z b.kp.size;obtain⟨ce,C⟩:=b.st;have bL:=ae C;have aL:=b.le;clear b C o E z H9
      cases a8 with
      |true=>
       obtain⟨rfl,dp⟩:=c rfl;clear c;go_wp2_with fail;go_roundw
       case rel=>exact⟨n+1,aH,0,I,by omega,d,B⟩
       case measure=>rw[gH,bm d.o];have :=HI.o;omega
      |false=>
       clear c;go_wp2_with fail;refine cJ bL.o _ ?_;rintro e I0 I2 I5 dZ rfl b;have M:=ae (d.o.tr b);clear b;go_wp2_with fail;exact HR.o _ _ _ _ _ _ _ rfl M.o
     ·have I6:((n:Int)==6)=false:=by rw[beq_eq_false_iff_ne];omega
      clear cE;go_wp2_with fail;refine fz H5.o ?_;rintro e p q i7 I8 rfl _ b;have L:=ae (U.o.tr b);have G:=ae (O.o.but b.kp r);have A:=Nat.le_trans N b.kp.size;obtain⟨I4,h7⟩:=b.st;have H7:=ae h7;have cH:=b.le;clear b h7 U O N H5;simp only[Qk.val];have f:=sal p (Hv q.k q.t q.n q.a);have u:(p.alloc (Hv q.k q.t q.n q.a)).heap.size=p.heap.size+1:=by simp
      have D:=ae (ag p (Hv q.k q.t q.n q.a));have J:=ae (L.o.same f);have F:=ae (G.o.keep f fun _ _=>trivial);have m:=Nat.le_trans A f.size;have e1:=xc1 D.o 1 rfl;have e3:=xc1 D.o 3 rfl;clear f L G A H7;obtain⟨g,cap,w9,hr,y,j⟩:=F.o.push3 m q.t k q.a (by omega);rw[u]at hr;have E:=ae y;have o:=ae (J.o.low H.o j);have z:=Nat.le_trans m j.size;clear j y J F m u
      go_wp2_with (at_builtin;refine ap rfl _ _ _ rfl rfl rfl hr ?_;clear hr)
      clear e1 e3;obtain⟨I3,h9⟩:=o.o.st;have H9:=ae h9;clear h9;refine ei H9.o _ ?_;rintro e I1 a8 aH rfl c b;have d:=ae (o.o.tr b);have I:=ae (E.o.but b.kp r);have B:=Nat.le_trans z b.kp.size;obtain⟨ce,C⟩:=b.st;have bL:=ae C;have aL:=b.le;clear b C o E z H9
      cases a8 with
      |true=>
       obtain⟨rfl,dp⟩:=c rfl;clear c;go_wp2_with fail;go_roundw
       case rel=>exact⟨n+1,aH,0,I,by omega,d,B⟩
       case measure=>rw[gH,bm d.o];have :=HI.o;omega
      |false=>
       clear c;go_wp2_with fail;refine cJ bL.o _ ?_;rintro e I0 I2 I5 dZ rfl b;have M:=ae (d.o.tr b);clear b;go_wp2_with fail;exact HR.o _ _ _ _ _ _ _ rfl M.o
    ·have I7:decide (k<0)=false:=decide_eq_false gI;clear gI;go_wp2_with fail;clear I7;refine bW H2.o ?_;rintro e w5 i5 rfl _ _ b;have U:=ae (IS.o.tr b);have O:=ae (IR.o.but b.kp r);have N:=Nat.le_trans gJ b.kp.size;obtain⟨Jk,h5⟩:=b.st;have H5:=ae h5;have Ja:=b.le;clear b h5 IS IR gJ H2;by_cases cE:n=6
     ·have I6:((n:Int)==6)=true:=by rw[beq_iff_eq];omega
      clear cE;go_wp2_with fail;refine dH H5.o ?_;rintro e Ji rfl s;generalize bC T i5 _=q5;simp only[Qk.val];have Y:=ae (U.o.same s);have X:=ae (O.o.keep s fun _ _=>trivial);have V:=Nat.le_trans N s.size;have fw:=ae (H5.o.same s);clear s U O N H5;go_wp2_with fail;refine cV fw.o q5.a 2 (by decide) ?_;rintro e w6 u6 Jl rfl _ b;have fu:=ae (Y.o.tr b);have fd:=ae (X.o.but b.kp r);have dE:=Nat.le_trans V b.kp.size;obtain⟨Jj,h6⟩:=b.st;have H6:=ae h6;have I9:=b.le;clear b h6 Y X V fw;go_wp2_with fail;refine fz H6.o ?_;rintro e p q i7 I8 rfl _ b;have L:=ae (fu.o.tr b);have G:=ae (fd.o.but b.kp r);have A:=Nat.le_trans dE b.kp.size;obtain⟨I4,h7⟩:=b.st;have H7:=ae h7;have cH:=b.le;clear b h7 fu fd dE H6;simp only[Qk.val];have f:=sal p (Hv q.k q.t q.n q.a);have u:(p.alloc (Hv q.k q.t q.n q.a)).heap.size=p.heap.size+1:=by simp
      have D:=ae (ag p (Hv q.k q.t q.n q.a));have J:=ae (L.o.same f);have F:=ae (G.o.keep f fun _ _=>trivial);have m:=Nat.le_trans A f.size;have e1:=xc1 D.o 1 rfl;have e3:=xc1 D.o 3 rfl;clear f L G A H7;obtain⟨g,cap,w9,hr,y,j⟩:=F.o.push3 m q.t k q.a (by omega);rw[u]at hr;have E:=ae y;have o:=ae (J.o.low H.o j);have z:=Nat.le_trans m j.size;clear j y J F m u
      go_wp2_with (at_builtin;refine ap rfl _ _ _ rfl rfl rfl hr ?_;clear hr)
      clear e1 e3;obtain⟨I3,h9⟩:=o.o.st;have H9:=ae h9;clear h9;refine ei H9.o _ ?_;rintro e I1 a8 aH rfl c b;have d:=ae (o.o.tr b);have I:=ae (E.o.but b.kp r);have B:=Nat.le_trans z b.kp.size;obtain⟨ce,C⟩:=b.st;have bL:=ae C;have aL:=b.le;clear b C o E z H9
      cases a8 with
      |true=>
       obtain⟨rfl,dp⟩:=c rfl;clear c;go_wp2_with fail;go_roundw
       case rel=>exact⟨n+1,aH,0,I,by omega,d,B⟩
       case measure=>rw[gH,bm d.o];have :=HI.o;omega
      |false=>
       clear c;go_wp2_with fail;refine cJ bL.o _ ?_;rintro e I0 I2 I5 dZ rfl b;have M:=ae (d.o.tr b);clear b;go_wp2_with fail;exact HR.o _ _ _ _ _ _ _ rfl M.o
     ·have I6:((n:Int)==6)=false:=by rw[beq_eq_false_iff_ne];omega
      clear cE;go_wp2_with fail;refine fz H5.o ?_;rintro e p q i7 I8 rfl _ b;have L:=ae (U.o.tr b);have G:=ae (O.o.but b.kp r);have A:=Nat.le_trans N b.kp.size;obtain⟨I4,h7⟩:=b.st;have H7:=ae h7;have cH:=b.le;clear b h7 U O N H5;simp only[Qk.val];have f:=sal p (Hv q.k q.t q.n q.a);have u:(p.alloc (Hv q.k q.t q.n q.a)).heap.size=p.heap.size+1:=by simp
      have D:=ae (ag p (Hv q.k q.t q.n q.a));have J:=ae (L.o.same f);have F:=ae (G.o.keep f fun _ _=>trivial);have m:=Nat.le_trans A f.size;have e1:=xc1 D.o 1 rfl;have e3:=xc1 D.o 3 rfl;clear f L G A H7;obtain⟨g,cap,w9,hr,y,j⟩:=F.o.push3 m q.t k q.a (by omega);rw[u]at hr;have E:=ae y;have o:=ae (J.o.low H.o j);have z:=Nat.le_trans m j.size;clear j y J F m u
      go_wp2_with (at_builtin;refine ap rfl _ _ _ rfl rfl rfl hr ?_;clear hr)
      clear e1 e3;obtain⟨I3,h9⟩:=o.o.st;have H9:=ae h9;clear h9;refine ei H9.o _ ?_;rintro e I1 a8 aH rfl c b;have d:=ae (o.o.tr b);have I:=ae (E.o.but b.kp r);have B:=Nat.le_trans z b.kp.size;obtain⟨ce,C⟩:=b.st;have bL:=ae C;have aL:=b.le;clear b C o E z H9
      cases a8 with
      |true=>
       obtain⟨rfl,dp⟩:=c rfl;clear c;go_wp2_with fail;go_roundw
       case rel=>exact⟨n+1,aH,0,I,by omega,d,B⟩
       case measure=>rw[gH,bm d.o];have :=HI.o;omega
      |false=>
       clear c;go_wp2_with fail;refine cJ bL.o _ ?_;rintro e I0 I2 I5 dZ rfl b;have M:=ae (d.o.tr b);clear b;go_wp2_with fail;exact HR.o _ _ _ _ _ _ _ rfl M.o
   ·have Jr:(e1==0)=false:=by simp[Jb]
    go_wp2_with fail;exact HR.o _ _ _ _ _ _ _ rfl Z.o
def Prd (u:Value):Prop:=∃(nm:ByteArray) (a:Option Addr) (n c:Nat) (o nm2:ByteArray) (k a2:Int) (ks:Option Addr) (m c2:Nat) (a1:Int),
 u=.agg #[nm,.slice a n c,o,nm2,k,a2,.slice ks m c2,a1]
theorem Goes.box8 {c:World} {d:Nat} {e:Int} (h:Goes w c x v T i d er e) (h0:RAt w x v T i er pl) {b:Nat} (a:w.heap.size≤b) (o n m l k j g f:Value):Goes w ((((((((c.setCell ⟨b,0,none⟩ o).setCell ⟨b,1,none⟩ n).setCell ⟨b,2,none⟩ m).setCell ⟨b,3,none⟩ l).setCell ⟨b,4,none⟩ k).setCell ⟨b,5,none⟩ j).setCell ⟨b,6,none⟩ g).setCell ⟨b,7,none⟩ f) x v T i d er e:=
 (((((((h.new h0 a _ _).new h0 a _ _).new h0 a _ _).new h0 a _ _).new h0 a _ _).new h0 a _ _).new h0 a _ _).new h0 a _ _
theorem Fc (h:RAt w x v T i er pl) (I2:(bC T i er).k≠4) (hR:∀e w' u i' I3,e=.returned u→Prd u→i<i'→Goes w w' x v T i i' er I3→R e w'):
 Calls Tryz.prog 12 #[.pointer (IQ x 0)] w R:=by
 have HR:=ae hR;clear hR;have H:=ae h;have I4:=ae (AQ x v T);have I5:=ae (nK x v T);have k0:=sal w (IJ GA none 0 0 GA GA 0 0 none 0 0 0);have Z:=ae (ag w (IJ GA none 0 0 GA GA 0 0 none 0 0 0));have H0:=ae (h.same k0);have X:=ae k0;have Jt:x<w.heap.size:=am h.blk;have N:w.heap.size≠x:=by omega
 clear k0 h;go_enter Tryz.func12,Tryz.ntmps12;go_wp2_with fail;generalize w.alloc _=w1 at X Z H0⊢;refine bW H0.o ?_;rintro e w2 i2 rfl _ ch d;have Je:=ch I2;clear ch;have gI:=ae (Goes.of X.o d);have IT:=ae (d.kp.at Z.o N);obtain⟨Jq,h2⟩:=d.st;have H2:=ae h2;clear d h2 H0 X Z;go_wp2_with fail;refine fz H2.o ?_;rintro e p q i3 Jz rfl _ d;have gH:=ae (gI.o.tr d);have bL:=ae (d.kp.at IT.o N);have Jd:=d.le;clear d gI IT H2;simp only[Qk.val];have Ju:w.heap.size<p.heap.size:=am bL.o;have j:=sal p (Hv q.k q.t q.n q.a);have A:=ae (ag p (Hv q.k q.t q.n q.a));have Y:=ae (gH.o.same j);have a8:=ae (j.at bL.o trivial);have O:(p.alloc (Hv q.k q.t q.n q.a)).heap.size=p.heap.size+1:=by simp
 have e1:=xc1 A.o 1 rfl;have e3:=xc1 A.o 3 rfl;clear j gH bL;go_wp2_with fail;generalize p.alloc _=w4 at A Y a8 e1 e3 O⊢;clear e1 e3;have j:=sal w4 (IJ q.t none 0 0 GA GA 0 0 none 0 0 q.a);have U:=ag w4 (IJ q.t none 0 0 GA GA 0 0 none 0 0 q.a);rw[O]at U;have C:=ae U;clear U;have E:=ae (Y.o.same j);have aL:=ae (j.at a8.o trivial);have nz:p.heap.size+1≠x:=by omega
 have IZ:w.heap.size<p.heap.size+1:=by omega
 clear j Y a8 A O;generalize w4.alloc _=w5 at C E aL⊢;generalize p.heap.size+1=z at C nz IZ⊢;have ce:w.heap.size≠z:=by omega
 obtain⟨Jp,h5⟩:=E.o.st;have H5:=ae h5;clear h5;refine cJ H5.o _ ?_;rintro e w6 u6 i6 Jy rfl d;have fw:=ae (E.o.tr d);have IS:=ae (d.kp.at aL.o N);have dZ:=ae (d.kp.at C.o nz);obtain⟨Jo,h6⟩:=d.st;have H6:=ae h6;have Jc:=d.le;clear d h6 E aL C H5;go_wp2_with fail;refine I4.o _ _ _ _ _ H6.o ?_;rintro e w7 M J L i7 Jw rfl d;have fu:=ae (fw.o.tr d);have IR:=ae (d.kp.at IS.o N);have B:=ae (d.kp.at dZ.o nz);obtain⟨Jn,h7⟩:=d.st;have H7:=ae h7;have Jb:=d.le;clear d h7 fw IS dZ H6;have y1:=xc1 B.o 1 rfl;have f1:=ao B.o 1;go_wp2_with fail;clear y1 f1;have V:Hid ((w7.setCell ⟨z,1,none⟩ (.slice M J L)).heap[z]?=some (.cells #[q.t,.slice M J L,GA,GA,IU,IU,IM,q.a] 55)):=ae (by rw[aj B.o];simp);have aH:=ae (((af (·≠z) w7).but 1 (.slice M J L)).at IR.o ce);have D:=ae (fu.o.new H.o (show w.heap.size≤z by omega) 1 (.slice M J L));clear B IR fu H7;generalize w7.setCell ⟨z,1,none⟩ (.slice M J L)=w8 at V aH D⊢;obtain⟨Jm,h8⟩:=D.o.st;have H8:=ae h8;clear h8;refine cJ H8.o _ ?_;rintro e w9 u9 i9 Jv rfl d;have fd:=ae (D.o.tr d);have If:=ae (d.kp.at aH.o N);have dE:=ae (d.kp.at V.o nz);obtain⟨Jl,h9⟩:=d.st;have H9:=ae h9;have Ja:=d.le;clear d h9 D aH V H8;go_wp2_with fail;refine I5.o _ _ _ _ _ H9.o ?_;rintro e I Jk Js Jg rfl ⟨o,nm,kk,a,ks,m,c,rfl⟩ d;have F:=ae (fd.o.tr d);have G:=ae (d.kp.at If.o N);have f:=ae (d.kp.at dE.o nz);obtain⟨I9,dp⟩:=d.st;have I6:=ae dp;have I1:=d.le;clear d dp fd If dE H9;have y2:=xc1 f.o 2 rfl;have y3:=xc1 f.o 3 rfl;have y4:=xc1 f.o 4 rfl;have y5:=xc1 f.o 5 rfl;have y6:=xc1 f.o 6 rfl;have f2:=ao f.o 2;have f3:=ao f.o 3;have f4:=ao f.o 4;have f5:=ao f.o 5;have f6:=ao f.o 6;go_wp2_with fail;clear y2 y3 y4 y5 y6 f2 f3 f4 f5 f6;have s:Hid ((((((I.setCell ⟨z,2,none⟩ (.string o)).setCell ⟨z,3,none⟩ (.string nm)).setCell ⟨z,4,none⟩ (IP kk)).setCell ⟨z,5,none⟩ (IP a)).setCell ⟨z,6,none⟩ (.slice ks m c)).heap[z]?=some (.cells #[q.t,.slice M J L,o,nm,kk,a,.slice ks m c,q.a] 55)):=ae (by rw[aj (aj (aj (aj (aj f.o _ _) _ _) _ _) _ _)];simp);have y:=ae ((((((af (·≠z) I).but 2 (.string o)).but 3 (.string nm)).but 4 (IP kk)).but 5 (IP a)).but 6 (.slice ks m c)|>.at G.o ce);have r:w.heap.size≤z:=by omega
 have l:=ae (((((F.o.new H.o r 2 (.string o)).new H.o r 3 (.string nm)).new H.o r 4 (IP kk)).new H.o r 5 (IP a)).new H.o r 6 (.slice ks m c));clear f G F I6;generalize((((I.setCell ⟨z,2,none⟩ (.string o)).setCell ⟨z,3,none⟩ (.string nm)).setCell ⟨z,4,none⟩ (IP kk)).setCell ⟨z,5,none⟩ (IP a)).setCell ⟨z,6,none⟩ (.slice ks m c)=Ji at s y l⊢;obtain⟨I8,cH⟩:=l.o.st;have IW:=ae cH;clear cH;refine cJ IW.o _ ?_;rintro e Jh Jj Jr Jf rfl d;have gJ:=ae (l.o.tr d);have b:=ae (d.kp.at y.o N);have g:=ae (d.kp.at s.o nz);obtain⟨I7,cE⟩:=d.st;have JA:=ae cE;have I0:=d.le;clear d cE l y s IW;obtain⟨y0,y1,y2,y3,y4,y5,y6,y7⟩:=xc8 g.o rfl rfl rfl rfl rfl rfl rfl rfl;obtain⟨d0,d1,d2,d3,d4,d5,d6,d7⟩:=xc8 b.o rfl rfl rfl rfl rfl rfl rfl rfl;obtain⟨g0,g1,g2,g3,g4,g5,g6,g7⟩:=xf8 b.o;go_wp2_with fail;refine bodyPost_ret (v:=.agg #[q.t,.slice M J L,o,nm,kk,a,.slice ks m c,q.a]) (by simp[results,Tryz.results12,go_sem,d0,d1,d2,d3,d4,d5,d6,d7]) rfl ?_;exact HR.o _ _ _ _ _ rfl ⟨_,_,_,_,_,_,_,_,_,_,_,_,rfl⟩ (by omega) (gJ.o.box8 H.o (Nat.le_refl _) _ _ _ _ _ _ _ _)
end
end Go.Proofs.YtojegnbejmeehaaGreatDoor
