/- Helpers of the proof of TopNames. -/
import Derived.Lib.SlicesS
import Derived.Test.YtojegnbejmeehaaGreatDoorJBI
namespace Go.Proofs.YtojegnbejmeehaaGreatDoor
open Go.RowKit
set_option maxRecDepth 10000
set_option maxHeartbeats 16000000
set_option linter.all false
section
attribute [local irreducible] wpQuiet ax au aQ
variable {R:Ending→World→Prop} {w:World}
def CoreIn (w:World):Nat→Value→Prop
 |0,_=>False
 |h+1,v=>∃(op:ByteArray) (a b c n:Int) (ka:Option Addr) (kn kc:Nat),v=(Ib op a b c n ka kn kc)∧
  (aK a∧aK b∧aK c∧aK n∧op.size≤maxLen∧kn≤kc∧kc≤maxLen)∧
  (kn=0∨∃bl off cur e fr,ka=some ⟨bl,off,none⟩∧w.heap[bl]?=some (.cells cur e fr)∧∀i,i<kn→∃v0 v1 v2 v3 v4 v5,
   (cur[off+i*6]?=some v0∧cur[off+i*6+1]?=some v1∧cur[off+i*6+2]?=some v2∧cur[off+i*6+3]?=some v3∧cur[off+i*6+4]?=some v4∧cur[off+i*6+5]?=some v5)∧CoreIn w h (.agg #[v0,v1,v2,v3,v4,v5]))
theorem CoreIn.same {j:World} (k:Same w j):∀{h:Nat} {v:Value},CoreIn w h v→CoreIn j h v
 |0,_,f=>f.elim
 |h+1,v,⟨op,a,b,c,n,ka,kn,kc,e,q,d⟩=>by
  refine⟨op,a,b,c,n,ka,kn,kc,e,q,?_⟩;rcases d with d|⟨C,off,g,t,y,B,A,z⟩
  ·exact .inl d
  ·refine .inr ⟨C,off,g,t,y,B,k.at A trivial,fun i u=>?_⟩;obtain⟨s,r,p,o,m,l,x,f⟩:=z i u;exact⟨s,r,p,o,m,l,x,CoreIn.same k f⟩
structure CoreOf (w:World) (h:Nat) (op:ByteArray) (a b c n:Int) (ka:Option Addr) (kn kc:Nat):Prop where
 ia:aK a
 ib:aK b
 ic:aK c
 iN:aK n
 sz:op.size≤maxLen
 le:kn≤kc
 mx:kc≤maxLen
 kid:∀k,k<kn→∃bl off,ka=some ⟨bl,off,none⟩∧∃op' a' b' c' n' ka' kn' kc',CoreIn w h (Ib op' a' b' c' n' ka' kn' kc')∧
  w.cell? ⟨bl,off+k*6,none⟩=some (.string op')∧w.cell? ⟨bl,off+k*6+1,none⟩=some (.int .i64 a')∧w.cell? ⟨bl,off+k*6+2,none⟩=some (.int .i64 b')∧w.cell? ⟨bl,off+k*6+3,none⟩=some (.int .i64 c')∧w.cell? ⟨bl,off+k*6+4,none⟩=some (.int .i64 n')∧w.cell? ⟨bl,off+k*6+5,none⟩=some (.slice ka' kn' kc')
theorem CoreIn.open {h:Nat} {v:Value} (r:CoreIn w h v):∃s f a b c n ka g kc,h=s+1∧v=(Ib f a b c n ka g kc)∧CoreOf w s f a b c n ka g kc:=by
 cases h with
 |zero=>exact r.elim
 |succ h=>
  obtain⟨f,a,b,c,n,ka,g,kc,e,⟨D,C,B,A,z,y,x⟩,E⟩:=r;refine⟨h,f,a,b,c,n,ka,g,kc,rfl,e,⟨D,C,B,A,z,y,x,fun k o=>?_⟩⟩;rcases E with rfl|⟨T,off,G,t,fr,rfl,d,F⟩
  ·omega
  ·obtain⟨v0,v1,v2,Z,Y,X,⟨N,M,L,J,I,H⟩,q⟩:=F k o;refine⟨T,off,rfl,?_⟩
   cases h with
   |zero=>exact q.elim
   |succ h=>
    have p:=q;obtain⟨i,V,U,O,n',m,j,l,u,_⟩:=q;simp only[Value.agg.injEq,Array.mk.injEq,List.cons.injEq,and_true]at u;obtain⟨rfl,rfl,rfl,rfl,rfl,rfl⟩:=u;exact⟨i,V,U,O,n',m,j,l,p,by rw[ai d];exact N,by rw[ai d];exact M,by rw[ai d];exact L,by rw[ai d];exact J,by rw[ai d];exact I,by rw[ai d];exact H⟩
theorem AW:∀(h:Nat) (w:World) (v:Value) (d:Int) (R:Ending→World→Prop),CoreIn w h v→d≤3000→-3000≤d→
 (∀e N r,e=.returned (IP r)→(d≤0→r=0)→(0<d→1≤r∧r≤d)→Same w N→R e N)→Calls Tryz.prog 104 (Ia v d) w R:=by
 intro h
 induction h with
 |zero=>intro w v d R hv;exact hv.elim
 |succ h ih=>
  intro w v d R hv hm aH X;have L:=ae X;have IH:=ae ih;clear X ih;obtain⟨h',O,a,b,c,n,ka,m,kc,e,rfl,y⟩:=hv.open;obtain rfl:h=h':=by omega
  have HC:=ae y.kid;have U:=y.le;have s:=y.mx;unfold maxLen at s;have t:=sal w (Hu O a b c n ka m kc);have l:=ae t;clear hv y t e;by_cases h0:d≤0
  ·go_enter Tryz.func104,Tryz.ntmps104;go_wp2_with fail;exact L.o _ _ 0 rfl (fun _=>rfl) (fun V=>by omega) l.o
  go_enter Tryz.func104,Tryz.ntmps104;go_wp2_with fail;generalize w.alloc _=w1 at l⊢
  go_loopw [5,7,13] (fun u _ i wr=>∃(k:Nat) (r:Int),i=.int .i64 k∧k≤m∧u=.int .i64 r∧1≤r∧r≤d∧Same w wr) (fun _ _ i _=>m -(intOf i).toNat)
  case atStart=>exact⟨0,1,rfl,Nat.zero_le _,rfl,by omega,by omega,l.o⟩
  case round=>
   obtain⟨k,r,rfl,hk,rfl,q,p,f⟩:=hrel;by_cases D:k<m
   ·obtain⟨bl,off,rfl,z,a',b',c',n',C,A,B,j,J,I,H,G,F,E⟩:=HC.o k D;obtain⟨J,I,H,G,F,E⟩:=xs6 f J I H G F E;have x:=ae (CoreIn.same (f.alloc (Hu z a' b' c' n' C A B)) j);have g:=ae f;clear j f;by_cases aL:d≤r
    ·go_wp2_with fail;exact L.o _ _ r rfl (fun V=>by omega) (fun _=>⟨q,p⟩) (g.o.alloc _)
    ·go_wp2_with fail;refine IH.o _ _ _ _ x.o (by omega) (by omega) ?_;rintro e w2 Y rfl _ o T;obtain⟨o,Z⟩:=o (by omega);have M:=ae ((g.o.alloc _).tr T);clear T J I H G F E;go_wp2_with fail;go_roundw
     case rel=>exact⟨k+1,r+Y,by go_num,by omega,by go_num,by omega,by omega,M.o⟩
     case measure=>simp[intOf];omega
   ·have g:=ae f;clear f;go_wp2_with fail;exact L.o _ _ r rfl (fun V=>by omega) (fun _=>⟨q,p⟩) g.o
theorem DE {h:Nat} {v:Value} (hv:CoreIn w h v) (j:∀e d r,e=.returned (IP r)→1≤r→r≤2001→Same w d→R e d):Calls Tryz.prog 62 #[v] w R:=by
 have o:=ae j;clear j;obtain⟨s,f,a,b,c,n,ka,g,kc,e,rfl,l⟩:=hv.open;have m:=ae (CoreIn.same ((af (fun _=>True) w).alloc (Hu f a b c n ka g kc)) hv);clear hv l e;go_enter Tryz.func62,Tryz.ntmps62;go_wp2_with fail;refine AW _ _ _ _ _ m.o (by omega) (by omega) ?_;rintro e q r rfl _ k i;have p:=ae (((af (fun _=>True) w).alloc (Hu f a b c n ka g kc)).tr i);clear i;obtain⟨h1,h2⟩:=k (by omega);go_wp2_with fail;exact o.o _ _ r rfl h1 h2 p.o
theorem xD {f:ByteArray} {a b c n:Int} {ka:Option Addr} {kc:Nat} (h:∀e g,e=.returned (IP 1)→Same w g→R e g):Calls Tryz.prog 104 (Ia (Ib f a b c n ka 0 kc) 2001) w R:=by
 have k:=ae h;clear h;have d:=ae ((af (fun _=>True) w).alloc (Hu f a b c n ka 0 kc));go_enter Tryz.func104,Tryz.ntmps104;go_wp2_with fail;generalize w.alloc _=l at d⊢
 go_loopw [5,7,13] (fun u _ i wr=>i=.int .i64 0∧u=.int .i64 1∧Same w wr) (fun _ _ _ _=>0)
 case atStart=>exact⟨rfl,rfl,d.o⟩
 case round=>
  obtain⟨rfl,rfl,j⟩:=hrel;have d:=ae j;clear j;go_wp2_with fail;exact k.o _ _ rfl d.o
theorem AX {g:ByteArray} {a b c n:Int} {ka:Option Addr} {kc:Nat} (i:∀e f,e=.returned (IP 1)→Same w f→R e f):Calls Tryz.prog 62 #[Ib g a b c n ka 0 kc] w R:=by
 have j:=ae i;clear i;have k:=ae ((af (fun _=>True) w).alloc (Hu g a b c n ka 0 kc));go_enter Tryz.func62,Tryz.ntmps62;go_wp2_with fail;refine xD ?_;rintro e l rfl h;have d:=ae (k.o.tr h);clear h;go_wp2_with fail;exact j.o _ _ rfl d.o
def bB (o:AOp) (n:Int) (j:Nat) (v:Int):Prop:=if j<o.vars then 0≤v∧v<n else v=0
def aE (o:AOp) (a b c N n:Int) (kn:Nat):Prop:=kn=0∧(o.isNum=true∨N=0)∧0≤N∧N≤20∧bB o n 0 a∧bB o n 1 b∧bB o n 2 c
theorem eT {P:Prop} (h:¬P):false=true↔P:=⟨fun e=>(by cases e),fun a=>absurd a h⟩
theorem uO (a b c:Int) (w:World):(Instr.index 251 (Iy a b c) IU).run Tryz.prog w=.ok (IP a) w:=by kernel_rfl
theorem uN (a b c:Int) (w:World):(Instr.index 251 (Iy a b c) (IP 1)).run Tryz.prog w=.ok (IP b) w:=by kernel_rfl
theorem uM (a b c:Int) (w:World):(Instr.index 251 (Iy a b c) (IP 2)).run Tryz.prog w=.ok (IP c) w:=by kernel_rfl
theorem iK (w:World):(zeroValue 247).run Tryz.prog w=.ok (Ii 0 false 0) w:=by kernel_rfl
theorem nW (o:AOp):(o.name.toList==[101,120])=false:=by
 rw[ByteArray.toList_eq];cases o<;>rfl
theorem vZ (o:AOp):@List.lookup ByteArray Value instBEqOfDecidableEq o.name dG=some (.agg #[o.vars,o.isNum,IU]):=by cases o<;>rfl
theorem D6 (o:AOp):o.vars≤3:=by cases o<;>decide
theorem vo {g:ByteArray} {a b c n:Int} {ka:Option Addr} {h kc:Nat} (f:∀e d,e=.returned (Iy a b c)→Same w d→R e d):
 Calls Tryz.prog 203 #[Ib g a b c n ka h kc] w R:=by
 have i:=ae f;clear f;go_enter Tryz.func203,Tryz.ntmps203;go_wp2_with fail;exact bodyPost_ret (v:=(Iy a b c)) (by simp[results,Tryz.results203,go_sem]) rfl (i.o _ _ rfl (((af _ w).alloc _).alloc _))
theorem xE {o:AOp} {a b c N n:Int} {ka:Option Addr} {E kc:Nat} (dE:E≤kc∧kc≤maxLen) (hR:∀e t r,e=.returned (.bool r)→(r=true↔aE o a b c N n E)→Same w t→R e t):
 Calls Tryz.prog 154 (Ia (Ib o.name a b c N ka E kc) n) w R:=by
 have A:=ae hR;clear hR;have HX:=ae (nW o);have V:=ae (vZ o);have cH:=D6 o;obtain⟨vs,T⟩:∃vs,vs=o.vars:=⟨_,rfl⟩;obtain⟨u,aH⟩:∃u,u=o.isNum:=⟨_,rfl⟩;have B:Hid (aE o a b c N n E↔(E=0∧(u=true∨N=0)∧0≤N∧N≤20∧(if 0<vs then 0≤a∧a<n else a=0)∧(if 1<vs then 0≤b∧b<n else b=0)∧(if 2<vs then 0≤c∧c<n else c=0))):=ae (by
  rw[T,aH];exact Iff.rfl)
 rw[←T,←aH]at V;rw[←T]at cH;generalize o.name=op at HX V⊢;generalize aE o a b c N n E=F at B A;clear T aH;obtain⟨gJ,ce⟩:=dE;unfold maxLen at ce;have hb:=ag w (Hu op a b c N ka E kc);have aL:=sal w (Hu op a b c N ka E kc);go_enter Tryz.func154,Tryz.ntmps154;go_wp2_with fail;have O:(w.alloc (Hu op a b c N ka E kc)).heap.size=w.heap.size+1:=by simp
 generalize w.alloc _=p at hb aL O⊢;have fw:=ae aL;have HB:=ae hb;generalize hx:w.heap.size=x at hb O HB⊢;have I1:=ae O;have I0:=ae hx;clear aL O hx;have c0:=xc1 hb 0 rfl;have X:Same p p.drew:=al (af (fun _=>True) p);obtain⟨S0,hS0⟩:∃z,z=p.heap.size:=⟨_,rfl⟩;have a8:=ae hS0;clear hS0;refine az (.take 1 (.take 2 (.two 0 7 (.take 3 (.take 4 (.take 5 (.take 6 (.one 7 (.one 8 (.take 9 .done))))))) (.one 0 (.take 3 (.take 4 (.take 5 (.take 6 (.one 8 (.take 9 .done)))))))))) (Same p) (by kernel_rfl) (by kernel_rfl) X ?_
 iterate 2 (first|(apply aF;rfl;rfl;go_simp)|(apply aD;rfl;rfl;intro t hS;have q0:=ak hS c0 trivial;go_simp;exact rfl;go_simp))
 refine rT ?_ ?_
 focus
  (apply ay
   case ho=>rfl
   case hw=>rfl
   intro K j;go_simp;refine iR ?_;rintro e Z m rfl hm Y;refine j (fun t=>Same p t∧MapAt Value.string t m dG) _ _ ⟨X.tr Y,hm⟩ (fun _ h=>h.1) ?_;clear j K;go_simp)
  iterate 4 (first|(apply aF;rfl;rfl;go_simp)|(apply aD;rfl;rfl;intro t hS;have l0:=b8 (P:=Tryz.prog) (cP Tryz.underlying9) Tryz.underlying249 (iK _) hS.2 op;rw[V.o]at l0;simp only[Option.getD_some,Option.isSome_some]at l0;go_simp;exact rfl;go_simp))
  refine aP (ay rfl rfl fun K j=>?_);go_simp;refine j (fun t=>Same p t∧MapAt Value.string t m dG) _ _ ⟨(X.tr Y).alloc _,hm.keep ((af (fun _=>True) _).alloc _) trivial⟩ (fun _ h=>h) ?_;clear j K;go_simp;have v:=ag Z Hs;have C:=hm.keep ((af (fun _=>True) Z).alloc Hs) trivial;have I:m≠Z.heap.size:=by obtain⟨es,dZ,h1,_⟩:=hm;exact Nat.ne_of_lt (am h1)
  have U:Same p (Z.alloc Hs):=(X.tr Y).alloc _;have G:S0≤Z.heap.size:=by rw[a8.o];exact(X.tr Y).size
  generalize Z.alloc _=M at v C U⊢;generalize Z.heap.size=y at v I G⊢
 rotate_left
 focus
  (apply ay
   case ho=>rfl
   case hw=>rfl
   intro K j;go_simp;refine j (Same p) _ _ (X.alloc _) (fun _ h=>h) ?_;clear j K;go_simp)
  refine aP ?_
  (apply ay
   case ho=>rfl
   case hw=>rfl
   intro K j;go_simp;refine iR ?_;rintro e M m rfl C Y;have ka:Same p (p.drew.alloc Hs):=X.alloc _;refine j (fun t=>Same p t∧MapAt Value.string t m dG) _ _ ⟨ka.tr Y,C⟩ (fun _ h=>h.1) ?_;clear j K;go_simp)
  iterate 4 (first|(apply aF;rfl;rfl;go_simp)|(apply aD;rfl;rfl;intro t hS;have l0:=b8 (P:=Tryz.prog) (cP Tryz.underlying9) Tryz.underlying249 (iK _) hS.2 op;rw[V.o]at l0;simp only[Option.getD_some,Option.isSome_some]at l0;go_simp;exact rfl;go_simp))
  have v:=Y.at (ag p.drew Hs) trivial;have U:Same p M:=(X.alloc Hs).tr Y;have I:m≠p.heap.size:=by
   rintro rfl;obtain⟨es,dZ,h1,_⟩:=C;rw[show M.heap[p.heap.size]?=_ from v]at h1
   cases h1
  have G:S0≤p.heap.size:=by rw[a8.o];exact Nat.le_refl _
  have v:M.heap[p.heap.size]?=some (.cells #[IU,false,IU] 247):=v;generalize p.heap.size=y at v I G⊢
 all_goals
  obtain⟨y0,y1,y2⟩:=xc3 v rfl rfl rfl;obtain⟨g0,g1,g2⟩:=xf3 v;have H:∀(h:y<p.heap.size∧True),False:=fun h=>absurd h.1 (Nat.not_lt.2 (by rw[←a8.o];exact G));have J:Same p (((M.setCell ⟨y,0,none⟩ (IP (vs:Int))).setCell ⟨y,1,none⟩ (.bool u)).setCell ⟨y,2,none⟩ IU):=((U.setCell H _).setCell H _).setCell H _;have cE:Keeps (fun z=>z≠y) M (((M.setCell ⟨y,0,none⟩ (IP (vs:Int))).setCell ⟨y,1,none⟩ (.bool u)).setCell ⟨y,2,none⟩ IU):=(((af (fun z=>z≠y) M).setCell (fun h=>h.2 rfl) _).setCell (fun h=>h.2 rfl) _).setCell (fun h=>h.2 rfl) _;have q:=aj (aj (aj v 0 (IP (vs:Int))) 1 (.bool u)) 2 IU;simp only[List.setIfInBounds_toArray,List.set_cons_zero,List.set_cons_succ]at q;refine aP (ay rfl rfl fun K j=>?_);go_simp;refine j (fun t=>Same p t∧MapAt Value.string t m dG) _ _ ⟨J,C.keep cE I⟩ (fun _ h=>h) ?_;clear j K cE C I H y0 y1 y2 g0 g1 g2;go_simp;generalize((M.setCell ⟨y,0,none⟩ (IP (vs:Int))).setCell ⟨y,1,none⟩ (.bool u)).setCell ⟨y,2,none⟩ IU=w5 at J q⊢
  iterate 1 (first|(apply aF;rfl;rfl;go_simp)|(apply aD;rfl;rfl;intro t hS;go_simp;exact rfl;go_simp))
  apply aW;go_simp;have L:=ae (fw.o.tr J);have l:=J.at HB.o trivial;obtain⟨p0,p1,p2⟩:=xc3 q rfl rfl rfl;obtain⟨q0,q1,q2,q3,q4,q5⟩:=xc6 l rfl rfl rfl rfl rfl rfl;have BB:=ae l;have YY:=ae q;clear J l q v U G c0 hb;have I2:=HX.o;by_cases ch:E=0
  ·subst ch;by_cases hN:(u=true∨N=0)∧0≤N∧N≤20
   ·have HN:=ae hN;obtain⟨bL,IR,H⟩:=hN;have dp:(u=true∨(u=false∧N=0)):=by
     rcases bL with h|h
     ·exact .inl h
     ·cases u
      ·exact .inr ⟨rfl,h⟩
      ·exact .inl rfl
    clear bL;rcases dp with rfl|⟨rfl,rfl⟩
    all_goals
     go_wp2_with fail;refine vo ?_;rintro e w6 rfl k6;have gH:=ae (L.o.tr k6);have gI:=ae (k6.at BB.o trivial);have fd:=ae (k6.at YY.o trivial);clear p0 p1 p2 q0 q1 q2 q3 q4 q5 k6;go_wp2_with fail
     go_loopw [7,8,48] (fun _ _ i wr=>∃k:Nat,i=.int .i64 k∧k≤3∧Hid ((0<k→if 0<vs then 0≤a∧a<n else a=0)∧(1<k→if 1<vs then 0≤b∧b<n else b=0)∧(2<k→if 2<vs then 0≤c∧c<n else c=0))∧Same w6 wr) (fun _ _ i _=>3 -(intOf i).toNat)
     case atStart=>exact⟨0,rfl,by omega,ae ⟨by omega,by omega,by omega⟩,af _ _⟩
     case round=>
      obtain⟨k,rfl,hk,g,hK⟩:=hrel;have l:=hK.at gI.o trivial;have q:=hK.at fd.o trivial;have p0:=xc1 q 0 rfl;have q0:=xc1 l 0 rfl;have s:=ae (gH.o.tr hK);have D:=ae hK;clear l q hK;have IZ:=uO a b c;have IW:=uN a b c;have IT:=uM a b c;rcases(show k=0∨k=1∨k=2∨k=3 by omega)with rfl|rfl|rfl|rfl
      ·by_cases hv:0<vs
       ·by_cases h1:a<0
        ·have d:=ae (eT (P:=F) fun h=>by rw[B.o]at h;have :=h.2.2.2.2.1;rw[if_pos hv]at this;omega);go_wp2_with fail
         all_goals exact A.o _ _ false rfl d.o s.o
        ·by_cases h2:n≤a
         ·have d:=ae (eT (P:=F) fun h=>by rw[B.o]at h;have :=h.2.2.2.2.1;rw[if_pos hv]at this;omega);go_wp2_with fail
          all_goals exact A.o _ _ false rfl d.o s.o
         ·have f:Hid ((0<1→if 0<vs then 0≤a∧a<n else a=0)∧(1<1→if 1<vs then 0≤b∧b<n else b=0)∧(2<1→if 2<vs then 0≤c∧c<n else c=0)):=ae ⟨fun _=>by rw[if_pos hv];omega,fun h=>by omega,fun h=>by omega⟩;go_wp2_with fail;go_roundw
          case rel=>exact⟨1,by go_num,by omega,f,D.o⟩
          case measure=>simp[intOf]
       ·obtain rfl:vs=0:=by omega
        by_cases h1:a=0
        ·have f:Hid ((0<1→if 0<0 then 0≤a∧a<n else a=0)∧(1<1→if 1<0 then 0≤b∧b<n else b=0)∧(2<1→if 2<0 then 0≤c∧c<n else c=0)):=ae ⟨fun _=>by rw[if_neg hv];exact h1,fun h=>by omega,fun h=>by omega⟩;have hz:(a !=0)=false:=by rw[h1];rfl
         clear h1;go_wp2_with fail;go_roundw
         case rel=>exact⟨1,by go_num,by omega,f,D.o⟩
         case measure=>simp[intOf]
        ·have d:=ae (eT (P:=F) fun h=>by rw[B.o]at h;have :=h.2.2.2.2.1;rw[if_neg hv]at this;exact h1 this);have hz:(a !=0)=true:=by rw[bne_iff_ne];exact h1
         go_wp2_with fail
         all_goals exact A.o _ _ false rfl d.o s.o
      ·by_cases hv:1<vs
       ·by_cases h1:b<0
        ·have d:=ae (eT (P:=F) fun h=>by rw[B.o]at h;have :=h.2.2.2.2.2.1;rw[if_pos hv]at this;omega);go_wp2_with fail
         all_goals exact A.o _ _ false rfl d.o s.o
        ·by_cases h2:n≤b
         ·have d:=ae (eT (P:=F) fun h=>by rw[B.o]at h;have :=h.2.2.2.2.2.1;rw[if_pos hv]at this;omega);go_wp2_with fail
          all_goals exact A.o _ _ false rfl d.o s.o
         ·have f:Hid ((0<2→if 0<vs then 0≤a∧a<n else a=0)∧(1<2→if 1<vs then 0≤b∧b<n else b=0)∧(2<2→if 2<vs then 0≤c∧c<n else c=0)):=ae ⟨fun _=>g.o.1 (by omega),fun _=>by rw[if_pos hv];omega,fun h=>by omega⟩;go_wp2_with fail;go_roundw
          case rel=>exact⟨2,by go_num,by omega,f,D.o⟩
          case measure=>simp[intOf]
       ·by_cases h1:b=0
        ·have f:Hid ((0<2→if 0<vs then 0≤a∧a<n else a=0)∧(1<2→if 1<vs then 0≤b∧b<n else b=0)∧(2<2→if 2<vs then 0≤c∧c<n else c=0)):=ae ⟨fun _=>g.o.1 (by omega),fun _=>by rw[if_neg hv];exact h1,fun h=>by omega⟩;have hz:(b !=0)=false:=by rw[h1];rfl
         clear h1;go_wp2_with fail;go_roundw
         case rel=>exact⟨2,by go_num,by omega,f,D.o⟩
         case measure=>simp[intOf]
        ·have d:=ae (eT (P:=F) fun h=>by rw[B.o]at h;have :=h.2.2.2.2.2.1;rw[if_neg hv]at this;exact h1 this);have hz:(b !=0)=true:=by rw[bne_iff_ne];exact h1
         go_wp2_with fail
         all_goals exact A.o _ _ false rfl d.o s.o
      ·by_cases hv:2<vs
       ·by_cases h1:c<0
        ·have d:=ae (eT (P:=F) fun h=>by rw[B.o]at h;have :=h.2.2.2.2.2.2;rw[if_pos hv]at this;omega);go_wp2_with fail
         all_goals exact A.o _ _ false rfl d.o s.o
        ·by_cases h2:n≤c
         ·have d:=ae (eT (P:=F) fun h=>by rw[B.o]at h;have :=h.2.2.2.2.2.2;rw[if_pos hv]at this;omega);go_wp2_with fail
          all_goals exact A.o _ _ false rfl d.o s.o
         ·have f:Hid ((0<3→if 0<vs then 0≤a∧a<n else a=0)∧(1<3→if 1<vs then 0≤b∧b<n else b=0)∧(2<3→if 2<vs then 0≤c∧c<n else c=0)):=ae ⟨fun _=>g.o.1 (by omega),fun _=>g.o.2.1 (by omega),fun _=>by rw[if_pos hv];omega⟩;go_wp2_with fail;go_roundw
          case rel=>exact⟨3,by go_num,by omega,f,D.o⟩
          case measure=>simp[intOf]
       ·by_cases h1:c=0
        ·have f:Hid ((0<3→if 0<vs then 0≤a∧a<n else a=0)∧(1<3→if 1<vs then 0≤b∧b<n else b=0)∧(2<3→if 2<vs then 0≤c∧c<n else c=0)):=ae ⟨fun _=>g.o.1 (by omega),fun _=>g.o.2.1 (by omega),fun _=>by rw[if_neg hv];exact h1⟩;have hz:(c !=0)=false:=by rw[h1];rfl
         clear h1;go_wp2_with fail;go_roundw
         case rel=>exact⟨3,by go_num,by omega,f,D.o⟩
         case measure=>simp[intOf]
        ·have d:=ae (eT (P:=F) fun h=>by rw[B.o]at h;have :=h.2.2.2.2.2.2;rw[if_neg hv]at this;exact h1 this);have hz:(c !=0)=true:=by rw[bne_iff_ne];exact h1
         go_wp2_with fail
         all_goals exact A.o _ _ false rfl d.o s.o
      ·have fu:Hid F:=ae (B.o.2 ⟨by simp,HN.o.1,HN.o.2.1,HN.o.2.2,g.o.1 (by omega),g.o.2.1 (by omega),g.o.2.2 (by omega)⟩);go_wp2_with fail
       all_goals exact A.o _ _ true rfl ⟨fun _=>fu.o,fun _=>rfl⟩ s.o
   ·have d:=ae (eT (P:=F) fun h=>by rw[B.o]at h;exact hN ⟨h.2.1,h.2.2.1,h.2.2.2.1⟩);clear B;rcases(show N<0∨20<N∨(u=false∧N≠0) by
     by_cases h1:N<0
     ·exact .inl h1
     by_cases h2:20<N
     ·exact .inr (.inl h2)
     refine .inr (.inr ?_)
     cases u with
     |true=>exact absurd ⟨.inl rfl,by omega,by omega⟩ hN
     |false=>exact⟨rfl,fun h=>hN ⟨.inr h,by omega,by omega⟩⟩)with h|h|⟨rfl,h⟩
    ·cases u<;>
     ·go_wp2_with fail
      all_goals exact A.o _ _ false rfl d.o L.o
    ·cases u<;>
     ·go_wp2_with fail
      all_goals exact A.o _ _ false rfl d.o L.o
    ·have If:(N !=0)=true:=by rw[bne_iff_ne];exact h
     go_wp2_with fail
     all_goals exact A.o _ _ false rfl d.o L.o
  ·have d:=ae (eT (P:=F) fun h=>by rw[B.o]at h;exact ch h.1);have IS:((E:Int) !=0)=true:=by rw[bne_iff_ne];omega
   go_wp2_with fail;exact A.o _ _ false rfl d.o L.o
theorem xi {ka:Option Addr} {kc:Nat} (g:Value) (a:∀e,e=.returned (IP (-1))→R e w):
 Calls Tryz.prog 204 #[.slice ka 0 kc,g] w R:=by
 have b:=ae a;clear a;go_enter Tryz.func204,Tryz.ntmps204;go_wp2_with fail
 go_loopw [8] (fun i wr=>i=.int .i64 0∧wr=w) (fun _ _=>0)
 case atStart=>exact⟨rfl,rfl⟩
 case round=>
  obtain⟨rfl,rfl⟩:=hrel;go_wp2_with fail;exact b.o _ rfl
theorem qg {ka:Option Addr} {kc:Nat} (g:Value) (a:∀e,e=.returned (.bool false)→R e w):
 Calls Tryz.prog 155 #[.slice ka 0 kc,g] w R:=by
 have b:=ae a;clear a;go_enter Tryz.func155,Tryz.ntmps155;go_wp2_with fail;refine xi _ ?_;rintro e rfl;go_wp2_with fail;exact b.o _ rfl
theorem sH {o:AOp} {a b c N n:Int} {ka:Option Addr} {d kc:Nat} (j:d≤kc∧kc≤maxLen) (B:∀e z r,e=.returned (.bool r)→(r=true↔aE o a b c N n d)→Same w z→R e z):
 Calls Tryz.prog 105 (Ia (Ib o.name a b c N ka d kc) n) w R:=by
 have C:=ae B;clear B;have v:=ae j;have D:=ae (nW o);have k:Same w ((w.alloc (Hu o.name a b c N ka d kc)).alloc (Ic n)):=((af _ w).alloc _).alloc _;have l:((w.alloc (Hu o.name a b c N ka d kc)).alloc (Ic n)).heap[w.heap.size]?=(Iq o.name a b c N ka d kc):=aw (ag w _) _;have x:=ae k;have p:=ae l;clear j k l;go_enter Tryz.func105,Tryz.ntmps105;go_wp2_with fail;refine xE v.o ?_;rintro e E r rfl A t;have h:=ae A;have g:=t.at p.o trivial;have s:=xc1 g 0 rfl;have q:=xc1 g 5 rfl;have m:=ae (x.o.tr t);clear t A g p;have i:=D.o
 cases r with
 |false=>
  clear s q i;go_wp2_with fail;exact C.o _ _ false rfl h.o m.o
 |true=>
  have f:=h.o.1 rfl;have u:d=0:=f.1;subst u;have y:=ae f;clear f h;generalize o.name=F at s q i⊢;go_wp2_with fail;refine qg _ ?_;rintro e rfl;go_wp2_with fail;exact C.o _ _ true rfl ⟨fun _=>y.o,fun _=>rfl⟩ m.o
theorem F4 {o:AOp} {a b c N n:Int} {ka:Option Addr} {g kc h:Nat} (hv:CoreIn w h (Ib o.name a b c N ka g kc)) (H:∀e G r,e=.returned (.bool r)→(r=true↔(0≤n∧n≤6∧aE o a b c N n g))→Same w G→R e G):
 Calls Tryz.prog 63 (Ia (Ib o.name a b c N ka g kc) n) w R:=by
 have A:=ae H;clear H;obtain⟨h',Z,a',b',c',n',U,O,T,X,I,E⟩:=hv.open;simp only[Value.agg.injEq,Array.mk.injEq,List.cons.injEq,and_true,Value.string.injEq,Value.int.injEq,true_and,Value.slice.injEq]at I;obtain⟨rfl,rfl,rfl,rfl,rfl,rfl,rfl,rfl⟩:=I;have C:=ae (And.intro E.le E.mx);have q:=sal w (Hu o.name a b c N ka g kc);have Y:=ae (CoreIn.same q hv);have l:=ae q;have D:=ae (ag w (Hu o.name a b c N ka g kc));clear hv E X q;by_cases h0:n<0
 ·have f:=ae (eT (P:=0≤n∧n≤6∧aE o a b c N n g) fun h=>by omega);go_enter Tryz.func63,Tryz.ntmps63;go_wp2_with fail;exact A.o _ _ false rfl f.o l.o
 by_cases h6:6<n
 ·have f:=ae (eT (P:=0≤n∧n≤6∧aE o a b c N n g) fun h=>by omega);go_enter Tryz.func63,Tryz.ntmps63;go_wp2_with fail;exact A.o _ _ false rfl f.o l.o
 by_cases p:g=0
 ·subst p;go_enter Tryz.func63,Tryz.ntmps63;go_wp2_with fail;refine AX ?_;rintro e L rfl m;have d:=m.at D.o trivial;have k:=ae (l.o.tr m);obtain⟨y,x,v,u,t,s⟩:=xc6 d rfl rfl rfl rfl rfl rfl;clear m d;go_wp2_with fail;refine sH C.o ?_;rintro e J r rfl z B;have i:Hid (r=true↔(0≤n∧n≤6∧aE o a b c N n 0)):=ae ⟨fun h=>⟨by omega,by omega,z.1 h⟩,fun h=>z.2 h.2.2⟩;have j:=ae (k.o.tr B);clear y x v u t s z B
  cases r with
  |false=>
   have f:=ae (show¬(0≤n∧n≤6∧aE o a b c N n 0)from fun h=>by cases i.o.2 h);clear i;go_wp2_with fail;exact A.o _ _ false rfl (eT f.o) j.o
  |true=>
   have F:=ae (i.o.1 rfl);clear i;go_wp2_with fail;exact A.o _ _ true rfl ⟨fun _=>F.o,fun _=>rfl⟩ j.o
 ·have f:=ae (eT (P:=0≤n∧n≤6∧aE o a b c N n g) fun h=>p h.2.2.1);go_enter Tryz.func63,Tryz.ntmps63;go_wp2_with fail;refine DE Y.o ?_;rintro e L M rfl _ _ m;have d:=m.at D.o trivial;have k:=ae (l.o.tr m);obtain⟨y,x,v,u,t,s⟩:=xc6 d rfl rfl rfl rfl rfl rfl;clear m d;by_cases V:M≤2000
  ·go_wp2_with fail;refine sH C.o ?_;rintro e J r rfl z B;have j:=ae (k.o.tr B);obtain rfl:r=false:=by
    cases r with
    |false=>rfl
    |true=>exact absurd (z.1 rfl).1 p
   clear y x v u t s z B;go_wp2_with fail;exact A.o _ _ _ rfl f.o j.o
  ·clear y x v u t s;go_wp2_with fail;exact A.o _ _ _ rfl f.o k.o
end
section
attribute [local irreducible] wpQuiet
variable {R:Ending→World→Prop} {w:World}
def tZ:Option Nat→Int
 |some t=>(t:Int)
 |none=>-1
def x7 (F:Nat) (caps:Array Value) (o:AOp) (N:Nat) (w:World):Prop:=
 ∀s,s<fY o N+1→∀(a b c:Bool) w' R,Same w w'→(∀e w'',e=.returned (IP (tZ (gA o N s a b c)))→Same w' w''→R e w'')→Calls Tryz.prog F (#[IP s,.bool a,.bool b,.bool c]++caps) w' R
theorem Bt (N:Nat):x7 243 #[] .sing N w:=by
 intro s hs a b c e R f d;have g:=ae d;clear d f;have hs:s<1+1:=hs;rcases(show s=0∨s=1 by omega)with rfl|rfl<;>cases a<;>
 ·clear hs
  show Calls Tryz.prog 243 #[_,_,_,_] e R
  go_enter Tryz.func243,Tryz.ntmps243;go_wp2_with fail;exact g.o _ _ rfl (af _ _)
theorem E5 (N:Nat):x7 244 #[] .flag N w:=by
 intro s hs a b c e R f d;have g:=ae d;clear d f;have hs:s<1+1:=hs;rcases(show s=0∨s=1 by omega)with rfl|rfl<;>cases a<;>
 ·clear hs
  show Calls Tryz.prog 244 #[_,_,_,_] e R
  go_enter Tryz.func244,Tryz.ntmps244;go_wp2_with fail;exact g.o _ _ rfl (af _ _)
theorem EY (N:Nat):x7 245 #[] .less N w:=by
 intro s hs a b c e R f d;have g:=ae d;clear d f;have hs:s<2+1:=hs;rcases(show s=0∨s=1∨s=2 by omega)with rfl|rfl|rfl<;>cases a<;>cases b<;>
 ·clear hs
  show Calls Tryz.prog 245 #[_,_,_,_] e R
  go_enter Tryz.func245,Tryz.ntmps245;go_wp2_with fail;exact g.o _ _ rfl (af _ _)
theorem AV {N p q:Nat} (r:N≤20) (j:w.cell? ⟨p,0,none⟩=some (.int .i64 (N:Int))) (i:w.cell? ⟨q,0,none⟩=some (.int .i64 ((N:Int)+1))):
 x7 268 #[.pointer (IQ p 0),.pointer (IQ q 0)] .plus N w:=by
 intro s hs a b c e R g k;have f:=ae k;obtain⟨o,n⟩:=xs2 g j i;clear k g j i;have hs:s<N+1+1:=hs;have l:s≤N+1:=by omega
 clear hs;rcases(show(s=0∧N=0)∨(s=0∧0<N)∨(0<s∧s<N)∨(0<s∧s=N)∨(s=N+1) by omega)with⟨rfl,rfl⟩|⟨rfl,h⟩|⟨h1,h2⟩|⟨h1,rfl⟩|rfl
 ·cases a<;>cases b<;>
  ·show Calls Tryz.prog 268 #[_,_,_,_,_,_] e R
   go_enter Tryz.func268,Tryz.ntmps268;go_wp2_with fail;exact f.o _ _ rfl (af _ _)
 ·have m:((N:Int)==0)=false:=by rw[beq_eq_false_iff_ne];omega
  have d:decide (N=0)=false:=decide_eq_false (by omega)
  cases a<;>cases b<;>
  ·show Calls Tryz.prog 268 #[_,_,_,_,_,_] e R
   go_enter Tryz.func268,Tryz.ntmps268;go_wp2_with fail;refine f.o _ _ (cQ ?_) (af _ _);simp[gA,tZ,d]
 ·have m:((s:Int)==(N:Int))=false:=by rw[beq_eq_false_iff_ne];omega
  have d:decide (s=N)=false:=decide_eq_false (by omega)
  cases a<;>cases b<;>
  ·show Calls Tryz.prog 268 #[_,_,_,_,_,_] e R
   go_enter Tryz.func268,Tryz.ntmps268;go_wp2_with fail;refine f.o _ _ (cQ ?_) (af _ _);simp[gA,tZ,d,h1,show¬s=0 by omega,show¬s=N+1 by omega,show s<N+1 by omega]
 ·cases a<;>cases b<;>
  ·show Calls Tryz.prog 268 #[_,_,_,_,_,_] e R
   go_enter Tryz.func268,Tryz.ntmps268;go_wp2_with fail;refine f.o _ _ (cQ ?_) (af _ _);simp[gA,tZ,h1,show¬s=0 by omega]
 ·cases a<;>cases b<;>
  ·show Calls Tryz.prog 268 #[_,_,_,_,_,_] e R
   go_enter Tryz.func268,Tryz.ntmps268;go_wp2_with fail;refine f.o _ _ (cQ ?_) (af _ _);simp[gA,tZ]
theorem BW {N p q:Nat} (n:N≤20) (i:w.cell? ⟨p,0,none⟩=some (.int .i64 (N:Int))) (h:w.cell? ⟨q,0,none⟩=some (.int .i64 ((N:Int)+1))):
 x7 269 #[.pointer (IQ q 0),.pointer (IQ p 0)] .num N w:=by
 intro s hs a b c d R e j;have g:=ae j;obtain⟨l,k⟩:=xs2 e i h;clear j e i h;have hs:s<N+1+1:=hs;rcases(show s<N∨s=N∨s=N+1 by omega)with h1|rfl|rfl
 ·have m:((s:Int)==(N:Int))=false:=by rw[beq_eq_false_iff_ne];omega
  have f:decide (s=N)=false:=decide_eq_false (by omega)
  cases a<;>
  ·show Calls Tryz.prog 269 #[_,_,_,_,_,_] d R
   go_enter Tryz.func269,Tryz.ntmps269;go_wp2_with fail;refine g.o _ _ (cQ ?_) (af _ _);simp[gA,tZ,f,show¬s=N+1 by omega,show s<N+1 by omega]
 ·cases a<;>
  ·show Calls Tryz.prog 269 #[_,_,_,_,_,_] d R
   go_enter Tryz.func269,Tryz.ntmps269;go_wp2_with fail;refine g.o _ _ (cQ ?_) (af _ _);simp[gA,tZ]
 ·cases a<;>
  ·show Calls Tryz.prog 269 #[_,_,_,_,_,_] d R
   go_enter Tryz.func269,Tryz.ntmps269;go_wp2_with fail;refine g.o _ _ (cQ ?_) (af _ _);simp[gA,tZ]
def F9 (o:AOp) (a b c:Bool):Bool:=
 match o with
 | .tru=>true
 | .sub=>!a||b
 | .non=>!a
 | .uni=>c==(a||b)
 | .int=>c==(a&&b)
 | .mns=>c==(a&&!b)
 |_=>false
def FI:AOp→Bool
 | .tru| .sub| .non| .uni| .int| .mns=>true
 |_=>false
theorem B8 {o:AOp} (ho:FI o=true) (N s:Nat) (a b c:Bool):gA o N s a b c=if F9 o a b c=true then some 0 else none:=by
 cases o<;>simp[FI]at ho<;>rfl
def x8 (G:Nat) (o:AOp):Prop:=
 ∀(a b c:Bool) (w':World) (R:Ending→World→Prop),(∀e w'',e=.returned (.bool (F9 o a b c))→Same w' w''→R e w'')→Calls Tryz.prog G #[.bool a,.bool b,.bool c] w' R
theorem Gf:x8 237 .tru:=by
 intro a b c f R d;have e:=ae d;clear d;go_enter Tryz.func237,Tryz.ntmps237;go_wp2_with fail;exact e.o _ _ rfl (af _ _)
theorem Ge:x8 238 .sub:=by
 intro a b c f R d;have e:=ae d;clear d
 cases a<;>cases b<;>
 ·go_enter Tryz.func238,Tryz.ntmps238;go_wp2_with fail;exact e.o _ _ rfl (af _ _)
theorem Gd:x8 239 .non:=by
 intro a b c f R d;have e:=ae d;clear d
 cases a<;>
 ·go_enter Tryz.func239,Tryz.ntmps239;go_wp2_with fail;exact e.o _ _ rfl (af _ _)
theorem Gc:x8 240 .uni:=by
 intro a b c f R d;have e:=ae d;clear d
 cases a<;>cases b<;>cases c<;>
 ·go_enter Tryz.func240,Tryz.ntmps240;go_wp2_with fail;exact e.o _ _ rfl (af _ _)
theorem Gb:x8 241 .int:=by
 intro a b c f R d;have e:=ae d;clear d
 cases a<;>cases b<;>cases c<;>
 ·go_enter Tryz.func241,Tryz.ntmps241;go_wp2_with fail;exact e.o _ _ rfl (af _ _)
theorem Ga:x8 242 .mns:=by
 intro a b c f R d;have e:=ae d;clear d
 cases a<;>cases b<;>cases c<;>
 ·go_enter Tryz.func242,Tryz.ntmps242;go_wp2_with fail;exact e.o _ _ rfl (af _ _)
theorem mE {G p N:Nat} {o:AOp} (ho:FI o=true) (n:∀d w,(callFunc G d).run Tryz.prog w=.ok (.enter G d) w) (q:x8 G o) (j:w.cell? ⟨p,0,none⟩=some (.func (.func G) #[] #[])):
 x7 267 #[.pointer (IQ p 0)] o N w:=by
 intro s hs a b c m R k g;rw[B8 ho]at g;have f:=ae g;have r:=ak k j trivial;clear g k j hs
 show Calls Tryz.prog 267 #[_,_,_,_,_] m R
 go_enter Tryz.func267,Tryz.ntmps267;go_wp2_with fail;refine q a b c _ _ ?_;rintro e t rfl i;have l:=ae i;clear i
 cases h:F9 o a b c with
 |true=>
  rw[h]at f;go_wp2_with fail;exact f.o _ _ rfl l.o
 |false=>
  rw[h]at f;go_wp2_with fail;exact f.o _ _ rfl l.o
end
section
attribute [local irreducible] wpQuiet ax au aQ
variable {R:Ending→World→Prop} {w:World}
theorem sY (a:Array Value) (w:World):(callFunc 237 a).run Tryz.prog w=.ok (.enter 237 a) w:=by kernel_rfl
theorem sX (a:Array Value) (w:World):(callFunc 238 a).run Tryz.prog w=.ok (.enter 238 a) w:=by kernel_rfl
theorem sW (a:Array Value) (w:World):(callFunc 239 a).run Tryz.prog w=.ok (.enter 239 a) w:=by kernel_rfl
theorem sV (a:Array Value) (w:World):(callFunc 240 a).run Tryz.prog w=.ok (.enter 240 a) w:=by kernel_rfl
theorem sU (a:Array Value) (w:World):(callFunc 241 a).run Tryz.prog w=.ok (.enter 241 a) w:=by kernel_rfl
theorem sT (a:Array Value) (w:World):(callFunc 242 a).run Tryz.prog w=.ok (.enter 242 a) w:=by kernel_rfl
theorem dD (a:Array Value) (w:World):(callFunc 267 a).run Tryz.prog w=.ok (.enter 267 a) w:=by kernel_rfl
theorem mw (a:Array Value) (w:World):(callFunc 268 a).run Tryz.prog w=.ok (.enter 268 a) w:=by kernel_rfl
theorem mX (a:Array Value) (w:World):(callFunc 269 a).run Tryz.prog w=.ok (.enter 269 a) w:=by kernel_rfl
theorem nS (a:Array Value) (w:World):(callFunc 243 a).run Tryz.prog w=.ok (.enter 243 a) w:=by kernel_rfl
theorem pN (a:Array Value) (w:World):(callFunc 244 a).run Tryz.prog w=.ok (.enter 244 a) w:=by kernel_rfl
theorem pL (a:Array Value) (w:World):(callFunc 245 a).run Tryz.prog w=.ok (.enter 245 a) w:=by kernel_rfl
theorem iA {G:Nat} (b:∀e a p,e=.returned (Ir (.func (.func 267) #[] #[.pointer (IQ p 0)]) 0 1)→a.cell? ⟨p,0,none⟩=some (.func (.func G) #[] #[])→Same w a→R e a):
 Calls Tryz.prog 236 #[.func (.func G) #[] #[]] w R:=by
 have c:=ae b;clear b;go_enter Tryz.func236,Tryz.ntmps236;go_wp2_with fail;refine bodyPost_ret (v:=(Ir (.func (.func 267) #[] #[.pointer (IQ w.heap.size 0)]) 0 1)) (by simp[results,Tryz.results236,go_sem]) rfl (c.o _ _ w.heap.size rfl ?_ (((af _ w).alloc _).alloc _));exact ai (aw (ag w _) _) 0
theorem vD {N:Nat} (d:N≤20) (b:∀e a p q,e=.returned (Ir (.func (.func 268) #[] #[.pointer (IQ p 0),.pointer (IQ q 0)]) ((N:Int)+1) ((N:Int)+1+1))→
 a.cell? ⟨p,0,none⟩=some (.int .i64 (N:Int))→a.cell? ⟨q,0,none⟩=some (.int .i64 ((N:Int)+1))→Same w a→R e a):
 Calls Tryz.prog 246 #[IP N] w R:=by
 have c:=ae b;clear b;go_enter Tryz.func246,Tryz.ntmps246;go_wp2_with fail;refine bodyPost_ret (v:=(Ir (.func (.func 268) #[] #[.pointer (IQ w.heap.size 0),.pointer (some ⟨w.heap.size+1+1,0,none⟩)]) ((N:Int)+1) ((N:Int)+1+1))) (by simp[results,Tryz.results246,go_sem]) rfl (c.o _ _ w.heap.size (w.heap.size+1+1) rfl ?_ ?_ ((((af _ w).alloc _).alloc _).alloc _))
 ·exact ai (aw (aw (ag w _) _) _) 0
 have :=ai (ag ((w.alloc (Ic N)).alloc (IE (.func (.func 268) #[] #[.pointer (IQ w.heap.size 0),.pointer (some ⟨w.heap.size+1+1,0,none⟩)]) ((N:Int)+1) ((N:Int)+1+1))) (Ic ((N:Int)+1))) 0
 simpa using this
theorem xU {N:Nat} (d:N≤20) (b:∀e a p q,e=.returned (Ir (.func (.func 269) #[] #[.pointer (IQ q 0),.pointer (IQ p 0)]) ((N:Int)+1) ((N:Int)+1+1))→
 a.cell? ⟨p,0,none⟩=some (.int .i64 (N:Int))→a.cell? ⟨q,0,none⟩=some (.int .i64 ((N:Int)+1))→Same w a→R e a):
 Calls Tryz.prog 247 #[IP N] w R:=by
 have c:=ae b;clear b;go_enter Tryz.func247,Tryz.ntmps247;go_wp2_with fail;refine bodyPost_ret (v:=(Ir (.func (.func 269) #[] #[.pointer (some ⟨w.heap.size+1+1,0,none⟩),.pointer (IQ w.heap.size 0)]) ((N:Int)+1) ((N:Int)+1+1))) (by simp[results,Tryz.results247,go_sem]) rfl (c.o _ _ w.heap.size (w.heap.size+1+1) rfl ?_ ?_ ((((af _ w).alloc _).alloc _).alloc _))
 ·exact ai (aw (aw (ag w _) _) _) 0
 have :=ai (ag ((w.alloc (Ic N)).alloc (IE (.func (.func 269) #[] #[.pointer (some ⟨w.heap.size+1+1,0,none⟩),.pointer (IQ w.heap.size 0)]) ((N:Int)+1) ((N:Int)+1+1))) (Ic ((N:Int)+1))) 0
 simpa using this
def eO (w:World) (o:AOp) (N:Nat) (R:Ending→World→Prop):Prop:=
 ∀e w' F caps,e=.returned (.tuple (Id (Ir (.func (.func F) #[] caps) (fY o N) ((fY o N:Int)+1)) true))→(∀args w,(callFunc F args).run Tryz.prog w=.ok (.enter F args) w)→x7 F caps o N w'→Same w w'→R e w'
theorem fH {w a:World} (cs:Array Value) (t:TypeId) (b:Same ((w.alloc (.cells cs t)).alloc (IE (.nilFunc) 0 0)) a):
 a.heap[w.heap.size+1]?=some (.cells #[.nilFunc,IU,IU] 271)∧Same w a∧w.heap.size+2≤a.heap.size:=by
 have h:=ag (w.alloc (.cells cs t)) (IE (.nilFunc) 0 0);have hs:=b.size;have c:(w.alloc (.cells cs t)).heap.size=w.heap.size+1:=by simp
 have d:((w.alloc (.cells cs t)).alloc (IE (.nilFunc) 0 0)).heap.size=w.heap.size+1+1:=by simp
 rw[c]at h;exact⟨b.at h trivial,(((af _ w).alloc _).alloc _).tr b,by omega⟩
theorem eY {w c:World} (k:Same w c) {b:Nat} (a:w.heap.size≤b) (x y z:Value):Same w (((c.setCell ⟨b,0,none⟩ x).setCell ⟨b,1,none⟩ y).setCell ⟨b,2,none⟩ z):=
 ((k.setCell (fun h=>absurd h.1 (Nat.not_lt.2 a)) x).setCell (fun h=>absurd h.1 (Nat.not_lt.2 a)) y).setCell (fun h=>absurd h.1 (Nat.not_lt.2 a)) z
theorem eJ {a:World} {b p:Nat} {v:Value} (h:a.cell? ⟨p,0,none⟩=some v) (c:p≠b) (x y z:Value):(((a.setCell ⟨b,0,none⟩ x).setCell ⟨b,1,none⟩ y).setCell ⟨b,2,none⟩ z).cell? ⟨p,0,none⟩=some v:=by
 rw[World.cell?_of_block (w:=a)]
 ·exact h
 ·show(((a.setCell ⟨b,0,none⟩ x).setCell ⟨b,1,none⟩ y).setCell ⟨b,2,none⟩ z).heap[p]?=a.heap[p]?
  rw[aS c,aS c,aS c]
theorem gZ {a:World} {b p:Nat} {v x y z:Value} (h:a.cell? ⟨p,0,none⟩=some v) (c:a.heap[b]?=some (.cells #[x,y,z] 271)) (hx:x=.nilFunc) (hv:v≠.nilFunc):p≠b:=by
 rintro rfl;rw[ai c 0]at h;simp[hx]at h;exact hv h.symm
theorem xN {A B C:Int} {n:Int} (N:Nat) {ka:Option Addr} {k kc:Nat} (i:eO w .tru N R):
 Calls Tryz.prog 213 #[Ib (AOp.name .tru) A B C n ka k kc] w R:=by
 have o:=ae i;clear i;unfold AOp.name;go_enter Tryz.func213,Tryz.ntmps213;go_wp2_with fail;refine iA ?_;rintro e r p rfl b h;obtain⟨a,j,l⟩:=fH _ _ h;obtain⟨g,f,d⟩:=xc3 a rfl rfl rfl;obtain⟨u,t,s⟩:=xf3 a;have c:=ae j;have q:=ae (eJ b (gZ b a rfl (by simp)));clear j h a b;go_wp2_with fail;have m:=eY c.o (show w.heap.size≤w.heap.size+1 by omega) (.func (.func 267) #[] #[.pointer (IQ p 0)]) IU (IP 1);refine bodyPost_ret (v:=.tuple (Id (Ir (.func (.func 267) #[] #[.pointer (IQ p 0)]) 0 1) true)) (by simp[results,Tryz.results213,go_sem,g,f,d]) rfl (o.o _ _ _ _ rfl dD (mE rfl sY Gf (q.o _ _ _)) m)
theorem xO {A B C:Int} {n:Int} (N:Nat) {ka:Option Addr} {k kc:Nat} (i:eO w .sub N R):
 Calls Tryz.prog 213 #[Ib (AOp.name .sub) A B C n ka k kc] w R:=by
 have o:=ae i;clear i;unfold AOp.name;go_enter Tryz.func213,Tryz.ntmps213;go_wp2_with fail;refine iA ?_;rintro e r p rfl b h;obtain⟨a,j,l⟩:=fH _ _ h;obtain⟨g,f,d⟩:=xc3 a rfl rfl rfl;obtain⟨u,t,s⟩:=xf3 a;have c:=ae j;have q:=ae (eJ b (gZ b a rfl (by simp)));clear j h a b;go_wp2_with fail;have m:=eY c.o (show w.heap.size≤w.heap.size+1 by omega) (.func (.func 267) #[] #[.pointer (IQ p 0)]) IU (IP 1);refine bodyPost_ret (v:=.tuple (Id (Ir (.func (.func 267) #[] #[.pointer (IQ p 0)]) 0 1) true)) (by simp[results,Tryz.results213,go_sem,g,f,d]) rfl (o.o _ _ _ _ rfl dD (mE rfl sX Ge (q.o _ _ _)) m)
theorem xQ {A B C:Int} {n:Int} (N:Nat) {ka:Option Addr} {k kc:Nat} (i:eO w .non N R):
 Calls Tryz.prog 213 #[Ib (AOp.name .non) A B C n ka k kc] w R:=by
 have o:=ae i;clear i;unfold AOp.name;go_enter Tryz.func213,Tryz.ntmps213;go_wp2_with fail;refine iA ?_;rintro e r p rfl b h;obtain⟨a,j,l⟩:=fH _ _ h;obtain⟨g,f,d⟩:=xc3 a rfl rfl rfl;obtain⟨u,t,s⟩:=xf3 a;have c:=ae j;have q:=ae (eJ b (gZ b a rfl (by simp)));clear j h a b;go_wp2_with fail;have m:=eY c.o (show w.heap.size≤w.heap.size+1 by omega) (.func (.func 267) #[] #[.pointer (IQ p 0)]) IU (IP 1);refine bodyPost_ret (v:=.tuple (Id (Ir (.func (.func 267) #[] #[.pointer (IQ p 0)]) 0 1) true)) (by simp[results,Tryz.results213,go_sem,g,f,d]) rfl (o.o _ _ _ _ rfl dD (mE rfl sW Gd (q.o _ _ _)) m)
theorem xM {A B C:Int} {n:Int} (N:Nat) {ka:Option Addr} {k kc:Nat} (i:eO w .uni N R):
 Calls Tryz.prog 213 #[Ib (AOp.name .uni) A B C n ka k kc] w R:=by
 have o:=ae i;clear i;unfold AOp.name;go_enter Tryz.func213,Tryz.ntmps213;go_wp2_with fail;refine iA ?_;rintro e r p rfl b h;obtain⟨a,j,l⟩:=fH _ _ h;obtain⟨g,f,d⟩:=xc3 a rfl rfl rfl;obtain⟨u,t,s⟩:=xf3 a;have c:=ae j;have q:=ae (eJ b (gZ b a rfl (by simp)));clear j h a b;go_wp2_with fail;have m:=eY c.o (show w.heap.size≤w.heap.size+1 by omega) (.func (.func 267) #[] #[.pointer (IQ p 0)]) IU (IP 1);refine bodyPost_ret (v:=.tuple (Id (Ir (.func (.func 267) #[] #[.pointer (IQ p 0)]) 0 1) true)) (by simp[results,Tryz.results213,go_sem,g,f,d]) rfl (o.o _ _ _ _ rfl dD (mE rfl sV Gc (q.o _ _ _)) m)
theorem xS {A B C:Int} {n:Int} (N:Nat) {ka:Option Addr} {k kc:Nat} (i:eO w .int N R):
 Calls Tryz.prog 213 #[Ib (AOp.name .int) A B C n ka k kc] w R:=by
 have o:=ae i;clear i;unfold AOp.name;go_enter Tryz.func213,Tryz.ntmps213;go_wp2_with fail;refine iA ?_;rintro e r p rfl b h;obtain⟨a,j,l⟩:=fH _ _ h;obtain⟨g,f,d⟩:=xc3 a rfl rfl rfl;obtain⟨u,t,s⟩:=xf3 a;have c:=ae j;have q:=ae (eJ b (gZ b a rfl (by simp)));clear j h a b;go_wp2_with fail;have m:=eY c.o (show w.heap.size≤w.heap.size+1 by omega) (.func (.func 267) #[] #[.pointer (IQ p 0)]) IU (IP 1);refine bodyPost_ret (v:=.tuple (Id (Ir (.func (.func 267) #[] #[.pointer (IQ p 0)]) 0 1) true)) (by simp[results,Tryz.results213,go_sem,g,f,d]) rfl (o.o _ _ _ _ rfl dD (mE rfl sU Gb (q.o _ _ _)) m)
theorem xR {A B C:Int} {n:Int} (N:Nat) {ka:Option Addr} {k kc:Nat} (i:eO w .mns N R):
 Calls Tryz.prog 213 #[Ib (AOp.name .mns) A B C n ka k kc] w R:=by
 have o:=ae i;clear i;unfold AOp.name;go_enter Tryz.func213,Tryz.ntmps213;go_wp2_with fail;refine iA ?_;rintro e r p rfl b h;obtain⟨a,j,l⟩:=fH _ _ h;obtain⟨g,f,d⟩:=xc3 a rfl rfl rfl;obtain⟨u,t,s⟩:=xf3 a;have c:=ae j;have q:=ae (eJ b (gZ b a rfl (by simp)));clear j h a b;go_wp2_with fail;have m:=eY c.o (show w.heap.size≤w.heap.size+1 by omega) (.func (.func 267) #[] #[.pointer (IQ p 0)]) IU (IP 1);refine bodyPost_ret (v:=.tuple (Id (Ir (.func (.func 267) #[] #[.pointer (IQ p 0)]) 0 1) true)) (by simp[results,Tryz.results213,go_sem,g,f,d]) rfl (o.o _ _ _ _ rfl dD (mE rfl sT Ga (q.o _ _ _)) m)
theorem vz {A B C:Int} {c:Int} (N:Nat) {ka:Option Addr} {b kc:Nat} (a:eO w .sing N R):
 Calls Tryz.prog 213 #[Ib (AOp.name .sing) A B C c ka b kc] w R:=by
 have d:=ae a;clear a;unfold AOp.name;go_enter Tryz.func213,Tryz.ntmps213;go_wp2_with fail;refine bodyPost_ret (v:=.tuple (Id (Ir (.func (.func 243) #[] #[]) 1 2) true)) (by simp[results,Tryz.results213,go_sem]) rfl (d.o _ _ _ _ rfl nS (Bt N) (((af _ w).alloc _).alloc _))
theorem vC {A B C:Int} {c:Int} (N:Nat) {ka:Option Addr} {b kc:Nat} (a:eO w .flag N R):
 Calls Tryz.prog 213 #[Ib (AOp.name .flag) A B C c ka b kc] w R:=by
 have d:=ae a;clear a;unfold AOp.name;go_enter Tryz.func213,Tryz.ntmps213;go_wp2_with fail;refine bodyPost_ret (v:=.tuple (Id (Ir (.func (.func 244) #[] #[]) 1 2) true)) (by simp[results,Tryz.results213,go_sem]) rfl (d.o _ _ _ _ rfl pN (E5 N) (((af _ w).alloc _).alloc _))
theorem vB {A B C:Int} {c:Int} (N:Nat) {ka:Option Addr} {b kc:Nat} (a:eO w .less N R):
 Calls Tryz.prog 213 #[Ib (AOp.name .less) A B C c ka b kc] w R:=by
 have d:=ae a;clear a;unfold AOp.name;go_enter Tryz.func213,Tryz.ntmps213;go_wp2_with fail;refine bodyPost_ret (v:=.tuple (Id (Ir (.func (.func 245) #[] #[]) 2 3) true)) (by simp[results,Tryz.results213,go_sem]) rfl (d.o _ _ _ _ rfl pL (EY N) (((af _ w).alloc _).alloc _))
theorem vA {A B C:Int} {N:Nat} {ka:Option Addr} {m kc:Nat} (k:N≤20) (j:eO w .plus N R):
 Calls Tryz.prog 213 #[Ib (AOp.name .plus) A B C N ka m kc] w R:=by
 have r:=ae j;clear j;unfold AOp.name;go_enter Tryz.func213,Tryz.ntmps213;go_wp2_with fail;refine vD k ?_;rintro e u p q rfl c b i;obtain⟨a,l,n⟩:=fH _ _ i;obtain⟨h,g,f⟩:=xc3 a rfl rfl rfl;obtain⟨z,y,x⟩:=xf3 a;have d:=ae l;have t:=ae (eJ c (gZ c a rfl (by simp)));have s:=ae (eJ b (gZ b a rfl (by simp)));clear l i a c b;go_wp2_with fail;have o:=eY d.o (show w.heap.size≤w.heap.size+1 by omega) (.func (.func 268) #[] #[.pointer (IQ p 0),.pointer (IQ q 0)]) (IP ((N:Int)+1)) (IP ((N:Int)+1+1));refine bodyPost_ret (v:=.tuple (Id (Ir (.func (.func 268) #[] #[.pointer (IQ p 0),.pointer (IQ q 0)]) ((N:Int)+1) ((N:Int)+1+1)) true)) (by simp[results,Tryz.results213,go_sem,h,g,f]) rfl (r.o _ _ _ _ rfl mw (AV k (t.o _ _ _) (s.o _ _ _)) o)
theorem xP {A B C:Int} {N:Nat} {ka:Option Addr} {m kc:Nat} (k:N≤20) (j:eO w .num N R):
 Calls Tryz.prog 213 #[Ib (AOp.name .num) A B C N ka m kc] w R:=by
 have r:=ae j;clear j;unfold AOp.name;go_enter Tryz.func213,Tryz.ntmps213;go_wp2_with fail;refine xU k ?_;rintro e u p q rfl c b i;obtain⟨a,l,n⟩:=fH _ _ i;obtain⟨h,g,f⟩:=xc3 a rfl rfl rfl;obtain⟨z,y,x⟩:=xf3 a;have d:=ae l;have t:=ae (eJ c (gZ c a rfl (by simp)));have s:=ae (eJ b (gZ b a rfl (by simp)));clear l i a c b;go_wp2_with fail;have o:=eY d.o (show w.heap.size≤w.heap.size+1 by omega) (.func (.func 269) #[] #[.pointer (IQ q 0),.pointer (IQ p 0)]) (IP ((N:Int)+1)) (IP ((N:Int)+1+1));refine bodyPost_ret (v:=.tuple (Id (Ir (.func (.func 269) #[] #[.pointer (IQ q 0),.pointer (IQ p 0)]) ((N:Int)+1) ((N:Int)+1+1)) true)) (by simp[results,Tryz.results213,go_sem,h,g,f]) rfl (r.o _ _ _ _ rfl mX (BW k (t.o _ _ _) (s.o _ _ _)) o)
theorem F8 {o:AOp} {A B C:Int} {N:Nat} {ka:Option Addr} {c kc:Nat} (b:N≤20) (a:eO w o N R):
 Calls Tryz.prog 213 #[Ib o.name A B C N ka c kc] w R:=by
 cases o with
 |tru=>exact xN N a
 |sub=>exact xO N a
 |non=>exact xQ N a
 |uni=>exact xM N a
 |int=>exact xS N a
 |mns=>exact xR N a
 |sing=>exact vz N a
 |flag=>exact vC N a
 |less=>exact vB N a
 |plus=>exact vA b a
 |num=>exact xP b a
end
end Go.Proofs.YtojegnbejmeehaaGreatDoor
