/- Helpers of the proof of TopNames. -/
import Derived.Test.YtojegnbejmeehaaGreatDoorJAZ
import Derived.Test.YtojegnbejmeehaaGreatDoorJBJ
namespace Go.Proofs.YtojegnbejmeehaaGreatDoor
open Go.RowKit
set_option maxRecDepth 10000
set_option maxHeartbeats 16000000
set_option linter.all false
section
attribute [local irreducible] wpQuiet ax au aQ
variable {R:Ending→World→Prop} {w:World}
def Co.size:Co→Nat
 | .leaf _ _ _ _ _=>1
 | .one _ _ k=>k.size+1
 | .two _ k l=>k.size+l.size+1
theorem xH {t k:Co} (h:k∈t.kids):k.size<t.size:=by
 cases t<;>simp[Co.kids]at h<;>(try (rcases h with rfl|rfl))<;>simp_all [Co.size]<;>omega
theorem xF (t:Co):1≤t.size:=by cases t<;>simp[Co.size]
theorem xG (t:Co):(t.kids.map Co.size).sum+1=t.size:=by
 cases t<;>simp[Co.kids,Co.size]
abbrev CoR (w:World) (v:Value) (t:Co):Prop:=CoIn (fun _=>True) w v t
def KidK (w:World) (bl off:Nat) (k:Co):Prop:=
 ∃(ka:Option Addr) (kc:Nat),k.kids.length≤kc∧kc≤maxLen∧w.cell? ⟨bl,off,none⟩=some (.string k.op)∧w.cell? ⟨bl,off+1,none⟩=some (.int .i64 k.va)∧w.cell? ⟨bl,off+2,none⟩=some (.int .i64 k.vb)∧w.cell? ⟨bl,off+3,none⟩=some (.int .i64 k.vc)∧w.cell? ⟨bl,off+4,none⟩=some (.int .i64 k.vn)∧w.cell? ⟨bl,off+5,none⟩=some (.slice ka k.kids.length kc)∧
  CoR w (Ib k.op k.va k.vb k.vc k.vn ka k.kids.length kc) k
theorem CB {b off:Nat} {k:Co} (h:KidCo w b off (fun x=>CoR w x k)):KidK w b off k:=by
 obtain⟨q,p,o,n,m,l,j,i,g,f,d,c,a⟩:=h;obtain⟨ka,kc,e,h1,h2⟩:=a.shape;simp only[Value.agg.injEq,Array.mk.injEq,List.cons.injEq,and_true]at e;obtain⟨rfl,rfl,rfl,rfl,rfl,rfl⟩:=e;exact⟨ka,kc,h1,h2,j,i,g,f,d,c,a⟩
theorem CoIn.open {v:Value} {t:Co} (h:CoR w v t):∃(ka:Option Addr) (kc:Nat),v=(Ib t.op t.va t.vb t.vc t.vn ka t.kids.length kc)∧t.kids.length≤kc∧kc≤maxLen∧
 ∀i (e:i<t.kids.length),∃d off,ka=some ⟨d,off,none⟩∧KidK w d (off+i*6) t.kids[i]:=by
 cases t with
 |leaf op a b c n=>
  obtain⟨ka,kc,rfl,h2⟩:=h;exact⟨ka,kc,rfl,Nat.zero_le _,h2,fun i e=>absurd e (Nat.not_lt_zero _)⟩
 |one op a k=>
  obtain⟨d,off,kc,rfl,⟨h2,j⟩,_,g⟩:=h;refine⟨_,kc,rfl,h2,j,fun i e=>⟨d,off,rfl,?_⟩⟩;have :i=0:=by simp[Co.kids]at e;omega
  subst this
  show KidK w d (off+0*6) k
  rw[Nat.zero_mul,Nat.add_zero];exact CB g
 |two op k l=>
  obtain⟨d,off,kc,rfl,⟨h2,j⟩,_,g,m⟩:=h;refine⟨_,kc,rfl,h2,j,fun i e=>⟨d,off,rfl,?_⟩⟩;have f:i<2:=e
  match i,f with
  |0,_=>show KidK w d (off+0*6) k;rw[Nat.zero_mul,Nat.add_zero];exact CB g
  |1,_=>show KidK w d (off+1*6) l;rw[Nat.one_mul];exact CB m
theorem KidK.same {b:World} {c off:Nat} {k:Co} (h:KidK w c off k) (a:Same w b):KidK b c off k:=by
 obtain⟨ka,kc,h2,e,m,l,j,i,g,f,d⟩:=h;exact⟨ka,kc,h2,e,a.cell m trivial,a.cell l trivial,a.cell j trivial,a.cell i trivial,a.cell g trivial,a.cell f trivial,d.same a⟩
theorem Fn:∀(h:Nat) (t:Co) (w:World) (v:Value) (a:Int) (R:Ending→World→Prop),t.size≤h→h≤2000→CoR w v t→a≤3000→-3000≤a→
 (∀e T (r:Nat),e=.returned (IP (r:Int))→r≤t.size→Same w T→R e T)→Calls Tryz.prog 104 (Ia v a) w R:=by
 intro h
 induction h with
 |zero=>intro t w v a R ht;have :=xF t;omega
 |succ h ih=>
  intro t w v a R ht h2 hv hm aL Y;have M:=ae Y;have IH:=ae ih;clear Y ih;obtain⟨ka,kc,rfl,V,n,b⟩:=hv.open;have o:=sal w (Hu t.op t.va t.vb t.vc t.vn ka t.kids.length kc);have c:=ae o;have L:=ae (ag w (Hu t.op t.va t.vb t.vc t.vn ka t.kids.length kc));have HC:Hid (∀i (hi:i<t.kids.length),∃J off,ka=some ⟨J,off,none⟩∧KidK w J (off+i*6) t.kids[i]):=ae b;unfold maxLen at n;clear hv o b L;have bL:=xG t;have m:∀k∈t.kids,k.size<t.size:=fun k X=>xH X;have N:=ae m;generalize H:t.op=t0 at c⊢;generalize G:t.va=t1 at c⊢;generalize F:t.vb=t2 at c⊢;generalize E:t.vc=t3 at c⊢;generalize D:t.vn=Z at c⊢;clear H G F E D m;by_cases h0:a≤0
  ·go_enter Tryz.func104,Tryz.ntmps104;go_wp2_with fail;exact M.o _ _ 0 rfl (Nat.zero_le _) c.o
  go_enter Tryz.func104,Tryz.ntmps104;go_wp2_with fail;generalize w.alloc _=w1 at c⊢
  go_loopw [5,7,13] (fun u _ i wr=>∃(k r:Nat),i=.int .i64 (k:Int)∧k≤t.kids.length∧u=.int .i64 (r:Int)∧r≤((t.kids.map Co.size).take k).sum+1∧Hid (Same w wr)) (fun _ _ i _=>t.kids.length -(intOf i).toNat)
  case atStart=>exact⟨0,1,rfl,Nat.zero_le _,rfl,by simp,c⟩
  case round=>
   obtain⟨k,r,rfl,X,rfl,hr,d⟩:=hrel;have a8:=nU (t.kids.map Co.size) k;by_cases g:k<t.kids.length
   ·obtain⟨J,off,rfl,C,B,_,_,A,z,y,x,s,q,b⟩:=HC.o k g;have h_:=xs6 d.o A z y x s q;clear A z y x s q;obtain⟨A,z,y,x,s,q⟩:=h_;have j:=lF (l:=t.kids.map Co.size) (k:=k) (by simpa using g);rw[List.getElem_map]at j;have I:=N.o _ (List.getElem_mem g);generalize t.kids[k]=f at A z y x s q b j I;have p:=ae (b.same (d.o.alloc (Hu f.op f.va f.vb f.vc f.vn C f.kids.length B)));clear b;by_cases ce:a≤(r:Int)
    ·go_wp2_with fail;exact M.o _ _ r rfl (by omega) (d.o.alloc _)
    ·go_wp2_with fail;refine IH.o f _ _ _ _ (by omega) (by omega) p.o (by omega) (by omega) ?_;rintro e w2 r2 rfl aH U;have O:=ae ((d.o.alloc _).tr U);clear U A z y x s q;go_wp2_with fail;go_roundw
     case rel=>exact⟨k+1,r+r2,by go_num,by omega,by go_num,by omega,O⟩
     case measure=>simp[intOf];omega
   ·go_wp2_with fail;exact M.o _ _ r rfl (by omega) d.o
theorem DH {t:Co} {v:Value} (hv:CoR w v t) (h2:t.size≤2000) (s:∀e p (r:Nat),e=.returned (IP (r:Int))→r≤t.size→Same w p→R e p):Calls Tryz.prog 62 #[v] w R:=by
 have y:=ae s;clear s;obtain⟨ka,kc,rfl,g,f,b⟩:=hv.open;have c:=sal w (Hu t.op t.va t.vb t.vc t.vn ka t.kids.length kc);have a:=ae c;have n:=ae (ag w (Hu t.op t.va t.vb t.vc t.vn ka t.kids.length kc));have z:Hid (∀i (G:i<t.kids.length),∃u off,ka=some ⟨u,off,none⟩∧KidK w u (off+i*6) t.kids[i]):=ae b;unfold maxLen at f;have d:=ae (hv.same c);clear hv c b n z;generalize m:t.op=t0 at a d⊢;generalize l:t.va=F at a d⊢;generalize k:t.vb=E at a d⊢;generalize j:t.vc=D at a d⊢;generalize h:t.vn=C at a d⊢;clear m l k j h;generalize t.kids.length=B at a d g⊢;go_enter Tryz.func62,Tryz.ntmps62;go_wp2_with fail;refine Fn _ t _ _ _ _ (Nat.le_refl _) h2 d.o (by omega) (by omega) ?_;rintro e A r rfl x q;have o:=ae (a.o.tr q);clear q;go_wp2_with fail;exact y.o _ _ r rfl x o.o
def CosAt (w:World) (u:Value) (l:List Co):Prop:=∃ka kc,u=.slice ka l.length kc∧l.length≤kc∧kc≤maxLen∧∀i (hi:i<l.length),∃bl off,ka=some ⟨bl,off,none⟩∧KidK w bl (off+i*6) l[i]
theorem CosAt.same {a:World} {u:Value} {l:List Co} (h:CosAt w u l) (k:Same w a):CosAt a u l:=by
 obtain⟨ka,kc,e,h1,h2,d⟩:=h;refine⟨ka,kc,e,h1,h2,fun i c=>?_⟩;obtain⟨g,off,f,b⟩:=d i c;exact⟨g,off,f,b.same k⟩
def DV (F:Nat) (caps:Array Value) (b:Bool) (Q:World→Prop) (k:Co):Prop:=
 ∀(w:World) (v:Value) (R:Ending→World→Prop),Q w→CoR w v k→(∀e w',e=.returned (.bool b)→Same w w'→R e w')→Calls Tryz.prog F (#[v]++caps) w R
theorem sG {F:Nat} {caps:Array Value} {l:List Co} {u:Value} {Q:World→Prop} (E:∀c w,(callFunc F c).run Tryz.prog w=.ok (.enter F c) w) (A:∀w d,Q w→Same w d→Q d) (x:Q w) (D:CosAt w u l) (y:∀k∈l,DV F caps false Q k)
 (z:∀e d,e=.returned (IP (-1))→Same w d→R e d):
 Calls Tryz.prog 204 #[u,.func (.func F) #[] caps] w R:=by
 have H:=ae z;clear z;obtain⟨ka,kc,rfl,G,r,a⟩:=D;have M:=ae a;have J:=ae y;have I:=ae A;have s:=ae x;unfold maxLen at r;clear a y A x;go_enter Tryz.func204,Tryz.ntmps204;go_wp2_with fail
 go_loopw [8] (fun i wr=>∃k:Nat,i=.int .i64 (k:Int)∧k≤l.length∧Hid (Same w wr)) (fun i _=>l.length -(intOf i).toNat)
 case atStart=>exact⟨0,rfl,Nat.zero_le _,ae (af _ _)⟩
 case round=>
  obtain⟨k,rfl,T,b⟩:=hrel;by_cases f:k<l.length
  ·obtain⟨U,off,rfl,C,B,_,_,p,o,n,m,j,h,a⟩:=M.o k f;have h_:=xs6 b.o p o n m j h;clear p o n m j h;obtain⟨p,o,n,m,j,h⟩:=h_;have q:=J.o _ (List.getElem_mem f);generalize l[k]=O at p o n m j h a q;have g:=ae (a.same b.o);have L:=ae q;clear a q;go_wp2_with fail;refine L.o _ _ _ (I.o _ _ s.o b.o) g.o ?_;rintro e N rfl v;have t:=ae (b.o.tr v);clear v p o n m j h;go_wp2_with fail;go_roundw
   case rel=>exact⟨k+1,by go_num,by omega,t⟩
   case measure=>simp[intOf];omega
  ·go_wp2_with fail;exact H.o _ _ rfl b.o
theorem fV {F:Nat} {caps:Array Value} {l:List Co} {u:Value} {Q:World→Prop} (d:∀a w,(callFunc F a).run Tryz.prog w=.ok (.enter F a) w) (p:∀w b,Q w→Same w b→Q b) (j:Q w) (h:CosAt w u l) (m:∀k∈l,DV F caps false Q k)
 (i:∀e b,e=.returned (.bool false)→Same w b→R e b):
 Calls Tryz.prog 155 #[u,.func (.func F) #[] caps] w R:=by
 have q:=ae i;clear i;obtain⟨ka,kc,rfl,o,n,c⟩:=id h;clear c;go_enter Tryz.func155,Tryz.ntmps155;go_wp2_with fail;refine sG d p j h m ?_;rintro e r rfl g;have f:=ae g;clear g;go_wp2_with fail;exact q.o _ _ rfl f.o
theorem jF {t:ByteArray} {vs o:Nat} {b_:Bool} {a n:Int} {ka:Option Addr} {kc:Nat} (Z:o≤kc∧kc≤maxLen) (hl:@List.lookup ByteArray Value instBEqOfDecidableEq t dG=some (.agg #[vs,false,o])) (hx:(t.toList==[101,120])=b_)
 (D:(b_=false∧vs=0∧a=0)∨(b_=true∧vs=1∧a=n∧0≤n∧n<6)) (hR:∀e g,e=.returned (.bool true)→Same w g→R e g):
 Calls Tryz.prog 154 (Ia (Ib t a 0 0 0 ka o kc) n) w R:=by
 have HR:=ae hR;clear hR;have HX:=ae hx;have T:=ae hl;have cE:=ae D;clear hl hx D;obtain⟨dp,M⟩:=Z;unfold maxLen at M;have D:=ag w (Hu t a 0 0 0 ka o kc);have F:=sal w (Hu t a 0 0 0 ka o kc);go_enter Tryz.func154,Tryz.ntmps154;go_wp2_with fail;have u:(w.alloc (Hu t a 0 0 0 ka o kc)).heap.size=w.heap.size+1:=by simp
 generalize w.alloc _=d at D F u⊢;have bL:=ae F;have HB:=ae D;generalize hx:w.heap.size=x at D u HB⊢;have gI:=ae u;have gH:=ae hx;clear F u hx;have c0:=xc1 D 0 rfl;have B:Same d d.drew:=al (af (fun _=>True) d);obtain⟨S0,hS0⟩:∃z,z=d.heap.size:=⟨_,rfl⟩;have G:=ae hS0;clear hS0;refine az (.take 1 (.take 2 (.two 0 7 (.take 3 (.take 4 (.take 5 (.take 6 (.one 7 (.one 8 (.take 9 .done))))))) (.one 0 (.take 3 (.take 4 (.take 5 (.take 6 (.one 8 (.take 9 .done)))))))))) (Same d) (by kernel_rfl) (by kernel_rfl) B ?_
 iterate 2 (first|(apply aF;rfl;rfl;go_simp)|(apply aD;rfl;rfl;intro g I;have J:=ak I c0 trivial;go_simp;exact rfl;go_simp))
 refine rT ?_ ?_
 focus
  (apply ay
   case ho=>rfl
   case hw=>rfl
   intro K b;go_simp;refine iR ?_;rintro e E m rfl Y C;refine b (fun g=>Same d g∧MapAt Value.string g m dG) _ _ ⟨B.tr C,Y⟩ (fun _ h=>h.1) ?_;clear b K;go_simp)
  iterate 4 (first|(apply aF;rfl;rfl;go_simp)|(apply aD;rfl;rfl;intro g I;have L:=b8 (P:=Tryz.prog) (cP Tryz.underlying9) Tryz.underlying249 (iK _) I.2 t;rw[T.o]at L;simp only[Option.getD_some,Option.isSome_some]at L;go_simp;exact rfl;go_simp))
  refine aP (ay rfl rfl fun K b=>?_);go_simp;refine b (fun g=>Same d g∧MapAt Value.string g m dG) _ _ ⟨(B.tr C).alloc _,Y.keep ((af (fun _=>True) _).alloc _) trivial⟩ (fun _ h=>h) ?_;clear b K;go_simp;have j:=ag E Hs;have l:=Y.keep ((af (fun _=>True) E).alloc Hs) trivial;have q:m≠E.heap.size:=by obtain⟨es,aH,h1,_⟩:=Y;exact Nat.ne_of_lt (am h1)
  have A:Same d (E.alloc Hs):=(B.tr C).alloc _;have p:S0≤E.heap.size:=by rw[G.o];exact(B.tr C).size
  generalize E.alloc _=s at j l A⊢;generalize E.heap.size=y at j q p⊢
 rotate_left
 focus
  (apply ay
   case ho=>rfl
   case hw=>rfl
   intro K b;go_simp;refine b (Same d) _ _ (B.alloc _) (fun _ h=>h) ?_;clear b K;go_simp)
  refine aP ?_
  (apply ay
   case ho=>rfl
   case hw=>rfl
   intro K b;go_simp;refine iR ?_;rintro e s m rfl l C;have ka:Same d (d.drew.alloc Hs):=B.alloc _;refine b (fun g=>Same d g∧MapAt Value.string g m dG) _ _ ⟨ka.tr C,l⟩ (fun _ h=>h.1) ?_;clear b K;go_simp)
  iterate 4 (first|(apply aF;rfl;rfl;go_simp)|(apply aD;rfl;rfl;intro g I;have L:=b8 (P:=Tryz.prog) (cP Tryz.underlying9) Tryz.underlying249 (iK _) I.2 t;rw[T.o]at L;simp only[Option.getD_some,Option.isSome_some]at L;go_simp;exact rfl;go_simp))
  have j:=C.at (ag d.drew Hs) trivial;have A:Same d s:=(B.alloc Hs).tr C;have q:m≠d.heap.size:=by
   rintro rfl;obtain⟨es,aH,h1,_⟩:=l;rw[show s.heap[d.heap.size]?=_ from j]at h1
   cases h1
  have p:S0≤d.heap.size:=by rw[G.o];exact Nat.le_refl _
  have j:s.heap[d.heap.size]?=some (.cells #[IU,false,IU] 247):=j;generalize d.heap.size=y at j q p⊢
 all_goals
  obtain⟨y0,y1,y2⟩:=xc3 j rfl rfl rfl;obtain⟨g0,g1,g2⟩:=xf3 j;have v:∀(h:y<d.heap.size∧True),False:=fun h=>absurd h.1 (Nat.not_lt.2 (by rw[←G.o];exact p));have r:Same d (((s.setCell ⟨y,0,none⟩ (IP (vs:Int))).setCell ⟨y,1,none⟩ (.bool false)).setCell ⟨y,2,none⟩ (IP (o:Int))):=((A.setCell v _).setCell v _).setCell v _;have N:Keeps (fun z=>z≠y) s (((s.setCell ⟨y,0,none⟩ (IP (vs:Int))).setCell ⟨y,1,none⟩ (.bool false)).setCell ⟨y,2,none⟩ (IP (o:Int))):=(((af (fun z=>z≠y) s).setCell (fun h=>h.2 rfl) _).setCell (fun h=>h.2 rfl) _).setCell (fun h=>h.2 rfl) _;have f:=aj (aj (aj j 0 (IP (vs:Int))) 1 (.bool false)) 2 (IP (o:Int));simp only[List.setIfInBounds_toArray,List.set_cons_zero,List.set_cons_succ]at f;refine aP (ay rfl rfl fun K b=>?_);go_simp;refine b (fun g=>Same d g∧MapAt Value.string g m dG) _ _ ⟨r,l.keep N q⟩ (fun _ h=>h) ?_;clear b K N l q v y0 y1 y2 g0 g1 g2;go_simp;generalize((s.setCell ⟨y,0,none⟩ (IP (vs:Int))).setCell ⟨y,1,none⟩ (.bool false)).setCell ⟨y,2,none⟩ (IP (o:Int))=w5 at r f⊢
  iterate 1 (first|(apply aF;rfl;rfl;go_simp)|(apply aD;rfl;rfl;intro g I;go_simp;exact rfl;go_simp))
  apply aW;go_simp;have ch:=ae (bL.o.tr r);have c:=r.at HB.o trivial;obtain⟨V,p1,p2⟩:=xc3 f rfl rfl rfl;obtain⟨J,U,q2,q3,q4,q5⟩:=xc6 c rfl rfl rfl rfl rfl rfl;have BB:=ae c;have YY:=ae f;clear r c f j A p c0 D;have gJ:=HX.o;have fw:=uO a 0 0;have fu:=uN a 0 0;have fd:=uM a 0 0;rcases cE.o with⟨rfl,rfl,rfl⟩|⟨rfl,rfl,rfl,dZ,dE⟩
  all_goals
   go_wp2_with fail;refine vo ?_;rintro e w6 rfl X;have ce:=ae (ch.o.tr X);have cH:=ae (X.at BB.o trivial);have aL:=ae (X.at YY.o trivial);clear V p1 p2 J U q2 q3 q4 q5 X;go_wp2_with fail
   go_loopw [7,8,48] (fun _ _ i wr=>∃k:Nat,i=.int .i64 k∧k≤3∧Same w6 wr) (fun _ _ i _=>3 -(intOf i).toNat)
   case atStart=>exact⟨0,rfl,by omega,af _ _⟩
   case round=>
    obtain⟨k,rfl,hk,O⟩:=hrel;have c:=O.at cH.o trivial;have f:=O.at aL.o trivial;have V:=xc1 f 0 rfl;obtain⟨J,U⟩:=xc2 c rfl rfl;have a8:=ae (ce.o.tr O);have H:=ae O;clear c f O;rcases(show k=0∨k=1∨k=2∨k=3 by omega)with rfl|rfl|rfl|rfl
    ·go_wp2_with fail;go_roundw
     case rel=>exact⟨1,by go_num,by omega,H.o⟩
     case measure=>simp[intOf]
    ·go_wp2_with fail;go_roundw
     case rel=>exact⟨2,by go_num,by omega,H.o⟩
     case measure=>simp[intOf]
    ·go_wp2_with fail;go_roundw
     case rel=>exact⟨3,by go_num,by omega,H.o⟩
     case measure=>simp[intOf]
    ·go_wp2_with fail
     all_goals exact HR.o _ _ (by simp) a8.o
def xZ:Co→Nat→Prop
 | .leaf op a b c N,n=>∃o:AOp,op=o.name∧aE o a b c N n 0
 | .one op a k,n=>(op=GJ∧a=0∧xZ k n)∨(op=GB∧a=(n:Int)∧n<6∧xZ k (n+1))
 | .two op k l,n=>op=GD∧xZ k n∧xZ l n
theorem iV (a:Array Value) (w:World):(callFunc 156 a).run Tryz.prog w=.ok (.enter 156 a) w:=by kernel_rfl
theorem FP:@List.lookup ByteArray Value instBEqOfDecidableEq GJ dG=some (.agg #[IP ((0:Nat):Int),false,IP ((1:Nat):Int)]):=by rfl
theorem FQ:@List.lookup ByteArray Value instBEqOfDecidableEq GD dG=some (.agg #[IP ((0:Nat):Int),false,IP ((2:Nat):Int)]):=by rfl
theorem Gj:@List.lookup ByteArray Value instBEqOfDecidableEq GB dG=some (.agg #[IP ((1:Nat):Int),false,IP ((1:Nat):Int)]):=by rfl
theorem Dq:((GJ:ByteArray).toList==[101,120])=false:=by rw[ByteArray.toList_eq];rfl
theorem Dr:((GD:ByteArray).toList==[101,120])=false:=by rw[ByteArray.toList_eq];rfl
theorem Fz:((GB:ByteArray).toList==[101,120])=true:=by rw[ByteArray.toList_eq];rfl
theorem sI {q:Nat} {n:Int} {k:Co} (p:∀(w:World) (v:Value) (R:Ending→World→Prop),CoR w v k→(∀e i,e=.returned (.bool true)→Same w i→R e i)→Calls Tryz.prog 105 (Ia v n) w R):
 DV 156 #[.pointer (IQ q 0)] false (fun w=>w.cell? ⟨q,0,none⟩=some (.int .i64 n)) k:=by
 intro w v R l hv o;have r:=ae o;have s:=ae p;clear o p;obtain⟨ka,kc,rfl,g,m,f⟩:=hv.open;have b:=sal w (Hu k.op k.va k.vb k.vc k.vn ka k.kids.length kc);have a:=ae b;have d:=ae (hv.same b);have c:=ak b l trivial;clear hv b f l;generalize k.op=t0 at a d c⊢;generalize k.va=A at a d c⊢;generalize k.vb=z at a d c⊢;generalize k.vc=y at a d c⊢;generalize k.vn=x at a d c⊢;generalize k.kids.length=u at a d g c⊢;go_enter Tryz.func156,Tryz.ntmps156;go_wp2_with fail;clear c;refine s.o _ _ _ d.o ?_;rintro e t rfl j;have h:=ae (a.o.tr j);clear j;go_wp2_with fail;exact r.o _ _ rfl h.o
theorem Fl:∀(t:Co) (n:Nat),xZ t n→∀(w:World) (v:Value) (R:Ending→World→Prop),CoR w v t→(∀e O,e=.returned (.bool true)→Same w O→R e O)→Calls Tryz.prog 105 (Ia v n) w R:=by
 intro t
 induction t with
 |leaf op a b c N=>
  rintro n ⟨o,rfl,hF⟩ w v R ⟨ka,kc,rfl,Y⟩ M;refine sH ⟨Nat.zero_le _,Y⟩ ?_;rintro e V r rfl hr x;exact M _ _ (by rw[hr.2 hF]) x
 |one op a k ih=>
  intro n I w v R hv M;have X:=ae M;clear M;rcases I with⟨rfl,rfl,y⟩|⟨rfl,rfl,hn,y⟩
  ·have IH:=ae (ih _ y);clear ih y;obtain⟨ka,kc,rfl,d,j,i⟩:=hv.open;have B:Hid (CosAt w (.slice ka 1 kc) [k]):=ae ⟨ka,kc,rfl,d,j,i⟩;clear hv i;simp only[Co.op,Co.va,Co.vb,Co.vc,Co.vn,Co.kids,List.length_cons,List.length_nil,Nat.zero_add,Nat.reduceAdd]at d⊢;have p:Same w ((w.alloc (Hu GJ 0 0 0 0 ka 1 kc)).alloc (Ic n)):=((af _ w).alloc _).alloc _;have q:((w.alloc (Hu GJ 0 0 0 0 ka 1 kc)).alloc (Ic n)).heap[w.heap.size]?=(Iq GJ 0 0 0 0 ka 1 kc):=aw (ag w _) _;have hs1:(w.alloc (Hu GJ 0 0 0 0 ka 1 kc)).heap.size=w.heap.size+1:=by simp
   have m:=ag (w.alloc (Hu GJ 0 0 0 0 ka 1 kc)) (Ic n);rw[hs1]at m;have D:=ae p;have u:=ae q;have s:=ae m;clear p q m hs1;go_enter Tryz.func105,Tryz.ntmps105;go_wp2_with fail;refine jF ⟨d,j⟩ FP Dq (by first|exact .inl ⟨rfl,rfl,rfl⟩|exact .inr ⟨rfl,rfl,rfl,by omega,by omega⟩) ?_;rintro e V rfl x;have g:=x.at u.o trivial;have f:=x.at s.o trivial;have F:=xc1 g 0 rfl;have E:=xc1 g 5 rfl;have G:=xc1 f 0 rfl;have T:=ao f 0;have z:=ae (D.o.tr x);have U:=ae g;have A:=ae f;clear x g f u s;go_wp2_with fail;refine fV iV (fun w O h k=>ak k h trivial) (by rw[ai A.o];rfl) (B.o.same z.o) (fun k' y=>sI (List.mem_singleton.1 y▸IH.o)) ?_;rintro e w3 rfl H;have C:=ae (z.o.tr H);clear H F E G T;go_wp2_with fail;exact X.o _ _ rfl C.o
  ·have IH:=ae (ih _ y);clear ih y;obtain⟨ka,kc,rfl,d,j,i⟩:=hv.open;have B:Hid (CosAt w (.slice ka 1 kc) [k]):=ae ⟨ka,kc,rfl,d,j,i⟩;clear hv i;simp only[Co.op,Co.va,Co.vb,Co.vc,Co.vn,Co.kids,List.length_cons,List.length_nil,Nat.zero_add,Nat.reduceAdd]at d⊢;have p:Same w ((w.alloc (Hu GB n 0 0 0 ka 1 kc)).alloc (Ic n)):=((af _ w).alloc _).alloc _;have q:((w.alloc (Hu GB n 0 0 0 ka 1 kc)).alloc (Ic n)).heap[w.heap.size]?=(Iq GB n 0 0 0 ka 1 kc):=aw (ag w _) _;have hs1:(w.alloc (Hu GB n 0 0 0 ka 1 kc)).heap.size=w.heap.size+1:=by simp
   have m:=ag (w.alloc (Hu GB n 0 0 0 ka 1 kc)) (Ic n);rw[hs1]at m;have D:=ae p;have u:=ae q;have s:=ae m;clear p q m hs1;go_enter Tryz.func105,Tryz.ntmps105;go_wp2_with fail;refine jF ⟨d,j⟩ Gj Fz (by first|exact .inl ⟨rfl,rfl,rfl⟩|exact .inr ⟨rfl,rfl,rfl,by omega,by omega⟩) ?_;rintro e V rfl x;have g:=x.at u.o trivial;have f:=x.at s.o trivial;have F:=xc1 g 0 rfl;have E:=xc1 g 5 rfl;have G:=xc1 f 0 rfl;have T:=ao f 0;have z:=ae (D.o.tr x);have U:=ae g;have A:=ae f;clear x g f u s;go_wp2_with fail;have L:Same w (V.setCell ⟨w.heap.size+1,0,none⟩ (IP ((n:Int)+1))):=z.o.setCell (fun h=>absurd h.1 (show¬(w.heap.size+1<w.heap.size) by omega)) _;have J:=aj A.o 0 (IP ((n:Int)+1));simp only[List.setIfInBounds_toArray,List.set_cons_zero]at J;refine fV iV (fun w O h k=>ak k h trivial) (by rw[ai J];rfl) (B.o.same L) (fun k' y=>sI (n:=(n:Int)+1) (List.mem_singleton.1 y▸(by have :=IH.o;rwa [Int.natCast_add]at this))) ?_;rintro e w3 rfl H;have C:=ae (L.tr H);clear H F E G T L J;go_wp2_with fail;exact X.o _ _ rfl C.o
 |two op k l ih1 ih2=>
  intro n I w v R hv M;have X:=ae M;clear M;obtain⟨rfl,y,hl⟩:=I;have aH:=ae (ih1 _ y);have Z:=ae (ih2 _ hl);clear ih1 ih2 y hl;obtain⟨ka,kc,rfl,d,j,i⟩:=hv.open;have B:Hid (CosAt w (.slice ka 2 kc) [k,l]):=ae ⟨ka,kc,rfl,d,j,i⟩;clear hv i;simp only[Co.op,Co.va,Co.vb,Co.vc,Co.vn,Co.kids,List.length_cons,List.length_nil,Nat.zero_add,Nat.reduceAdd]at d⊢;have p:Same w ((w.alloc (Hu GD 0 0 0 0 ka 2 kc)).alloc (Ic n)):=((af _ w).alloc _).alloc _;have q:((w.alloc (Hu GD 0 0 0 0 ka 2 kc)).alloc (Ic n)).heap[w.heap.size]?=(Iq GD 0 0 0 0 ka 2 kc):=aw (ag w _) _;have hs1:(w.alloc (Hu GD 0 0 0 0 ka 2 kc)).heap.size=w.heap.size+1:=by simp
  have m:=ag (w.alloc (Hu GD 0 0 0 0 ka 2 kc)) (Ic n);rw[hs1]at m;have D:=ae p;have u:=ae q;have s:=ae m;clear p q m hs1;go_enter Tryz.func105,Tryz.ntmps105;go_wp2_with fail;refine jF ⟨d,j⟩ FQ Dr (by first|exact .inl ⟨rfl,rfl,rfl⟩|exact .inr ⟨rfl,rfl,rfl,by omega,by omega⟩) ?_;rintro e V rfl x;have g:=x.at u.o trivial;have f:=x.at s.o trivial;have F:=xc1 g 0 rfl;have E:=xc1 g 5 rfl;have G:=xc1 f 0 rfl;have T:=ao f 0;have z:=ae (D.o.tr x);have U:=ae g;have A:=ae f;clear x g f u s;go_wp2_with fail;refine fV iV (fun w O h k=>ak k h trivial) (by rw[ai A.o];rfl) (B.o.same z.o) (fun k' y=>sI (by
   simp only[List.mem_cons,List.not_mem_nil,or_false]at y;rcases y with rfl|rfl
   ·exact aH.o
   ·exact Z.o)) ?_;rintro e w3 rfl H
  have C:=ae (z.o.tr H);clear H F E G T;go_wp2_with fail;exact X.o _ _ rfl C.o
theorem Fk {t:Co} {n:Nat} {v:Value} (hv:CoR w v t) (hs:t.size≤2000) (Z:n≤6) (s:xZ t n) (B:∀e z,e=.returned (.bool true)→Same w z→R e z):
 Calls Tryz.prog 63 (Ia v n) w R:=by
 have J:=ae B;clear B;obtain⟨ka,kc,rfl,j,h,d⟩:=hv.open;have g:=sal w (Hu t.op t.va t.vb t.vc t.vn ka t.kids.length kc);have c:=ae g;have b:=ae (ag w (Hu t.op t.va t.vb t.vc t.vn ka t.kids.length kc));have L:Hid (∀i (hi:i<t.kids.length),∃C off,ka=some ⟨C,off,none⟩∧KidK w C (off+i*6) t.kids[i]):=ae d;unfold maxLen at h;have f:=ae (hv.same g);clear hv g d L;generalize q:t.op=t0 at c f b⊢;generalize p:t.va=X at c f b⊢;generalize o:t.vb=V at c f b⊢;generalize m:t.vc=U at c f b⊢;generalize l:t.vn=T at c f b⊢;clear q p o m l;generalize t.kids.length=O at c f b j⊢;go_enter Tryz.func63,Tryz.ntmps63;go_wp2_with fail;refine DH f.o hs ?_;rintro e N r rfl Y k;have a:=k.at b.o trivial;have y:=ae (c.o.tr k);have u:=ae (f.o.same k);obtain⟨I,H,G,F,E,D⟩:=xc6 a rfl rfl rfl rfl rfl rfl;clear k a;go_wp2_with fail;refine Fl t n s _ _ _ u.o ?_;rintro e M rfl A;have x:=ae (y.o.tr A);clear A;go_wp2_with fail;exact J.o _ _ rfl x.o
end
inductive CoAu:Co→Nat→Nat→Au→Prop where
 |leaf (o:AOp) (A B C N n:Nat) (Z:Au) (hN:N≤20) (hn:n≤6) (hF:aE o A B C N n 0) (h:dV (ew o N A B C n)=Z) (h2:dV Z=Z):CoAu (.leaf o.name A B C N) n Z.acc.length Z
 |not (k:Co) (n c:Nat) (A Z:Au) (hk:CoAu k n c A) (h:dV (nv A)=Z):CoAu (.one GJ 0 k) n (c+Z.acc.length) Z
 |ex (k:Co) (n c:Nat) (A Z:Au) (hn:n<6) (hT:A.T=(n:Int)+1) (hk:CoAu k (n+1) c A) (hs:A.acc.length≤99) (hc:(cA A n 400).2.length=(cA A n 400).1.length∧(cA A n 400).1.length≤400) (h:dV (eR A n 400)=Z):CoAu (.one GB n k) n (c+Z.acc.length) Z
 |and(k l:Co) (n c d:Nat) (A B Z:Au) (hk:CoAu k n c A) (hl:CoAu l n d B) (hT:A.T=B.T) (hp:A.acc.length*B.acc.length≤400) (h:dV (fS A B 8)=Z):CoAu (.two GD k l) n (c+d+Z.acc.length) Z
theorem CoAu.ok {t:Co} {n c:Nat} {A:Au} (h:CoAu t n c A):xZ t n:=by
 induction h with
 |leaf o A B C N n Z hN hn hF h h2=>exact⟨o,rfl,hF⟩
 |not k n c A Z hk h ih=>exact .inl ⟨rfl,rfl,ih⟩
 |ex k n c A Z hn hT hk hs hc h ih=>exact .inr ⟨rfl,rfl,hn,ih⟩
 |and k l n c d A B Z hk hl hT hp h ih1 ih2=>exact⟨rfl,ih1,ih2⟩
section
attribute [local irreducible] wpQuiet ax au aQ
variable {R:Ending→World→Prop} {w:World}
def rH (G:Nat→Prop) (w:World) (bl off:Nat) (k:Co):Prop:=
 G bl∧∃(ka:Option Addr) (kc:Nat),k.kids.length≤kc∧kc≤maxLen∧w.cell? ⟨bl,off,none⟩=some (.string k.op)∧w.cell? ⟨bl,off+1,none⟩=some (.int .i64 k.va)∧w.cell? ⟨bl,off+2,none⟩=some (.int .i64 k.vb)∧w.cell? ⟨bl,off+3,none⟩=some (.int .i64 k.vc)∧w.cell? ⟨bl,off+4,none⟩=some (.int .i64 k.vn)∧w.cell? ⟨bl,off+5,none⟩=some (.slice ka k.kids.length kc)∧
  CoIn G w (Ib k.op k.va k.vb k.vc k.vn ka k.kids.length kc) k
theorem xe {G:Nat→Prop} {a off:Nat} {k:Co} (c:G a) (h:KidCo w a off (fun x=>CoIn G w x k)):rH G w a off k:=by
 obtain⟨r,q,p,o,n,m,l,j,i,g,f,d,b⟩:=h;obtain⟨ka,kc,e,h1,h2⟩:=b.shape;simp only[Value.agg.injEq,Array.mk.injEq,List.cons.injEq,and_true]at e;obtain⟨rfl,rfl,rfl,rfl,rfl,rfl⟩:=e;exact⟨c,ka,kc,h1,h2,l,j,i,g,f,d,b⟩
theorem CoIn.openG {G:Nat→Prop} {v:Value} {t:Co} (h:CoIn G w v t):∃(ka:Option Addr) (kc:Nat),v=(Ib t.op t.va t.vb t.vc t.vn ka t.kids.length kc)∧t.kids.length≤kc∧kc≤maxLen∧
 ∀i (e:i<t.kids.length),∃d off,ka=some ⟨d,off,none⟩∧rH G w d (off+i*6) t.kids[i]:=by
 cases t with
 |leaf op a b c n=>
  obtain⟨ka,kc,rfl,h2⟩:=h;exact⟨ka,kc,rfl,Nat.zero_le _,h2,fun i e=>absurd e (Nat.not_lt_zero _)⟩
 |one op a k=>
  obtain⟨d,off,kc,rfl,⟨h2,m⟩,f,j⟩:=h;refine⟨_,kc,rfl,h2,m,fun i e=>⟨d,off,rfl,?_⟩⟩;have :i=0:=by simp[Co.kids]at e;omega
  subst this
  show rH G w d (off+0*6) k
  rw[Nat.zero_mul,Nat.add_zero];exact xe f j
 |two op k l=>
  obtain⟨d,off,kc,rfl,⟨h2,m⟩,f,j,o⟩:=h;refine⟨_,kc,rfl,h2,m,fun i e=>⟨d,off,rfl,?_⟩⟩;have g:i<2:=e
  match i,g with
  |0,_=>show rH G w d (off+0*6) k;rw[Nat.zero_mul,Nat.add_zero];exact xe f j
  |1,_=>show rH G w d (off+1*6) l;rw[Nat.one_mul];exact xe f o
def pU (t:Co) (n c:Nat) (A:Au):Prop:=
 ∀(w:World) (v:Value) (m:Nat) (left:Int) (R:Ending→World→Prop),CoIn (·≠m) w v t→MeterAt w m left false→(c:Int)≤left→left≤2000000000→
  (∀e w' d,e=.returned (.tuple (Ia (IL d) 0))→DFAAt w' w.heap.size d A→MeterAt w' m (left -c) false→Keeps (·≠m) w w'→R e w')→
  Calls Tryz.prog 64 #[v,IP n,.pointer (IQ m 0)] w R
def Held (z:Nat) (wr:World) (lv:Value) (d:Nat) (A:Au):Prop:=∃wj B,DFAAt wj B d A∧z≤B∧Keeps (B≤·) wj wr∧∀b,lv.ownBlock=some b→b<B∨wj.heap.size≤b
theorem Held.dfa {z d:Nat} {wr:World} {a:Value} {A:Au} (h:Held z wr a d A):DFAAt wr z d A:=by
 obtain⟨f,B,h1,h2,e,_⟩:=h;exact(h1.keep e fun b c _=>c).below h2
theorem Held.step {z d m:Nat} {wr a:World} {c:Value} {A:Au} (h:Held z wr c d A) (j:m<z) (k:Keeps (·≠m) wr a):Held z a c d A:=by
 obtain⟨e,B,h1,h2,i,g⟩:=h;exact⟨e,B,h1,h2,i.trans k fun b _ (f:B≤b)=>⟨f,by omega⟩,g⟩
theorem Held.grow {z d g n cap:Nat} {wr a:World} {c:Value} {A:Au} (h:Held z wr c d A) (k:Keeps (fun b=>c.ownBlock≠some b) wr a) (m:c.ownBlock=some g∨wr.heap.size≤g):Held z a (.slice (IQ g 0) n cap) d A:=by
 obtain⟨l,B,h1,h2,j,i⟩:=h;refine⟨l,B,h1,h2,j.trans k fun b f (o:B≤b)=>⟨o,fun e=>by rcases i b e with h|h<;>omega⟩,fun b f=>?_⟩;simp[Value.ownBlock]at f;subst f;rcases m with h|h
 ·exact i _ h
 ·exact .inr (Nat.le_trans j.size h)
theorem AR:(Tryz.prog.info? 98).map (fun i=>(i.zero,i.size,i.bytes))=some (some (.pointer none),1,8):=by kernel_rfl
def BA (d:Nat):Value:=.pointer (IQ d 0)
theorem DF {t:Co} {n n' m:Nat} {ex:Bool} {left:Int} {cs:List Nat} {As:List Au} {v:Value} (hv:CoIn (·≠m) w v t) (hm:MeterAt w m left false) (Ja:cs.length=t.kids.length) (I9:As.length=t.kids.length) (Jb:t.kids.length≤2)
 (r:∀i (h:i<t.kids.length),pU t.kids[i] n' (cs[i]'(by omega)) (As[i]'(by omega))) (hx:(t.op.toList==[101,120])=ex) (a8:n'=if ex then n+1 else n) (hn:n≤6) (I8:(cs.sum:Int)≤left) (I0:left≤2000000000)
 (hR:∀e Y lv (A:List Nat),e=.returned (.tuple (Ia lv 0))→Y.ownsRow w.heap.size 98 1 lv t.kids.length (A.map BA)→(∀j (h:j<t.kids.length) d,A[j]?=some d→DFAAt Y w.heap.size d (As[j]'(by omega)))→MeterAt Y m (left -(cs.sum:Int)) false→Keeps (·≠m) w Y→R e Y):
 Calls Tryz.prog 106 #[v,IP n,.pointer (IQ m 0)] w R:=by
 have HR:=ae hR;clear hR;obtain⟨ka,kc,rfl,I1,ch,g⟩:=hv.openG;have M:=sal w (Hu t.op t.va t.vb t.vc t.vn ka t.kids.length kc);have o:=ae M;have T:=ae (ag w (Hu t.op t.va t.vb t.vc t.vn ka t.kids.length kc));have HC:Hid (∀i (hi:i<t.kids.length),∃bl off,ka=some ⟨bl,off,none⟩∧rH (·≠m) w bl (off+i*6) t.kids[i]):=ae g;unfold maxLen at ch;have IR:m<w.heap.size:=am hm;have U:=ae (show MeterAt (w.alloc (Hu t.op t.va t.vb t.vc t.vn ka t.kids.length kc)) m left false from M.at hm trivial);have I:=xc1 T.o 0 rfl;have H:=xc1 T.o 5 rfl;have IW:=ae r;have HN:=ae a8;clear hv M g hm r a8;generalize If:t.op=t0 at o U I H hx⊢;generalize gJ:t.va=t1 at o U I H⊢;generalize gI:t.vb=t2 at o U I H⊢;generalize gH:t.vc=t3 at o U I H⊢;generalize fw:t.vn=t4 at o U I H⊢;clear If gJ gI gH fw T
 cases ex
 all_goals
  go_enter Tryz.func106,Tryz.ntmps106;go_wp2_with fail;generalize w.alloc _=w1 at o U I H⊢;have aL:=HN.o;simp only[Bool.false_eq_true,reduceIte]at aL
  go_loopw [8,21] (fun lv i wr=>∃(k:Nat) (A:List Nat) (J:Option Addr) (O:Nat),lv=.slice J k O∧i=.int .i64 (k:Int)∧k≤t.kids.length∧A.length=k∧Hid (wr.ownsRow w.heap.size 98 1 (.slice J k O) k (A.map BA))∧Hid (∀j (h:j<t.kids.length) d,A[j]?=some d→Held w.heap.size wr (.slice J k O) d (As[j]'(by omega)))∧Hid (MeterAt wr m (left -((cs.take k).sum:Int)) false)∧Hid (Keeps (·≠m) w wr)) (fun _ i _=>t.kids.length -(intOf i).toNat)
  case atStart=>exact⟨0,[],none,0,rfl,rfl,Nat.zero_le _,rfl,ae (World.ownsRow_nil _ _ _ _),ae (fun j h d y=>by simp at y),ae (by simpa using U.o),ae (o.o.mono fun _ _ _=>trivial)⟩
  case round=>
   obtain⟨k,A,J,O,rfl,rfl,hk,cH,hO,hH,hM,r⟩:=hrel;by_cases ce:k<t.kids.length
   ·obtain⟨bl,off,rfl,q,D,B,I7,I6,c0,c1,c2,c3,c4,c5,g⟩:=HC.o k ce;replace c0:=r.o.cell c0 q;replace c1:=r.o.cell c1 q;replace c2:=r.o.cell c2 q;replace c3:=r.o.cell c3 q;replace c4:=r.o.cell c4 q;replace c5:=r.o.cell c5 q;have L:=g.kept r.o fun b z=>z;have u:=IW.o k ce;have Z:(cs.take (k+1)).sum=(cs.take k).sum+cs[k]'(by omega):=lF (by omega);have I5:=nU cs (k+1);have dZ:=ae Z;obtain⟨ck,dp⟩:∃ck,ck=cs[k]'(by omega):=⟨_,rfl⟩;rw[←dp]at u Z dZ;generalize dE:As[k]'(by omega)=Ak at u;have IZ:=ae dE;clear dp dE g;generalize t.kids[k]=a at c0 c1 c2 c3 c4 c5 L u;have C:=(af (fun _=>True) wr).alloc (Hu a.op a.va a.vb a.vc a.vn D a.kids.length B);have l:=ag wr (Hu a.op a.va a.vb a.vc a.vn D a.kids.length B);obtain⟨y0,y1,y2,y3,y4,y5⟩:=xc6 l rfl rfl rfl rfl rfl rfl;have fu:=ae (L.same C);have fd:Hid (MeterAt (wr.alloc (Hu a.op a.va a.vb a.vc a.vn D a.kids.length B)) m (left -((cs.take k).sum:Int)) false):=ae (C.at hM.o trivial);have V:=ae C;have IT:=ae u;clear L C l u;go_wp2_with fail;generalize wr.alloc _=wa at fu fd V y0 y1 y2 y3 y4 y5⊢;have f:=IT.o;rw[aL]at f;unfold pU at f
    (try simp only[Int.natCast_add,Int.cast_ofNat_Int,Int.natCast_one]at f)
    refine f _ _ _ _ _ fu.o fd.o (by omega) (by omega) ?_;rintro e X d5 rfl h5 m5 k5;clear f;have kk:Keeps (·≠m) wr X:=Keeps.tr (V.o.mono fun _ _ _=>trivial) k5;have E:=ar hO.o kk fun b z=>by have :=(ah hO.o z).1;omega
    have c:∀b,(Value.slice J k O).ownBlock=some b→b<wr.heap.size∧w.heap.size≤b:=fun b z=>by
     obtain⟨h1,Jc,hc⟩:=ah hO.o z;exact⟨am hc,h1⟩
    have I2:=r.o.size;have I3:=V.o.size;have I4:=k5.size;obtain⟨g6,p,w6,aH,s,x,N,_⟩:=bi (P:=Tryz.prog) X 158 158 98 Tryz.underlying158 AR rfl E (by omega) (BA d5) rfl (by omega) (by decide);have G:Held w.heap.size w6 (.slice (IQ g6 0) (k+1) p) d5 Ak:=⟨X,wa.heap.size,h5,by omega,x.mono fun b z (hB:wa.heap.size≤b) e=>by have :=(c b e).1;omega,fun b z=>by
     simp[Value.ownBlock]at z;subst z;rcases N with h|h
     ·have :=(c _ h).1;omega
     ·exact .inr h⟩
    have bL:MeterAt w6 m (left -((cs.take (k+1)).sum:Int)) false:=by
     have :=x.at m5 (fun e=>by have :=(c m e).2;omega);unfold MeterAt;rw[dZ.o];have e:left -(((cs.take k).sum+ck:Nat):Int)=left -((cs.take k).sum:Int) -(ck:Int):=by omega
     rw[e];exact this
    have cE:∀j (h:j<t.kids.length) d,(A++[d5])[j]?=some d→Held w.heap.size w6 (.slice (IQ g6 0) (k+1) p) d (As[j]'(by omega)):=fun j h d y=>by
     by_cases hj:j<k
     ·rw[List.getElem?_append_left (by omega)]at y;exact((hH.o j h d y).step IR kk).grow x N
     ·have IS:j=k:=by
       have :=(List.getElem?_eq_some_iff.1 y).1;simp at this;omega
      subst IS;rw[IZ.o];rw[List.getElem?_append_right (by omega),cH]at y;simp at y;subst y;exact G
    have HF:=ae (And.intro s (And.intro cE (And.intro bL ((r.o.tr kk).trans x fun b z (hm:b≠m)=>(⟨hm,fun e=>by have :=(c b e).2;omega⟩:b≠m∧(Value.slice J k O).ownBlock≠some b)))));have F:(Builtin.append_ #[158,158] 158 #[.slice J k O,.slice (IQ X.heap.size 0) 1 1]).run Tryz.prog (X.alloc (.cells #[IL d5] 98))=.ok (.slice (IQ g6 0) (k+1) p) w6:=aH;clear kk E c s x N G bL cE h5 m5 k5 aH c0 c1 c2 c3 c4 c5 y0 y1 y2 y3 y4 y5
    go_wp2_with (at_builtin;refine ap rfl _ _ _ rfl rfl rfl F ?_;clear F)
    go_roundw
    case rel=>exact⟨k+1,A++[d5],some ⟨g6,0,none⟩,p,rfl,by go_num,by omega,by simp[cH],ae (by rw[List.map_append];exact HF.o.1),ae HF.o.2.1,ae HF.o.2.2.1,ae HF.o.2.2.2⟩
    case measure=>simp[intOf];omega
   ·obtain rfl:k=t.kids.length:=by omega
    go_wp2_with fail;refine HR.o _ _ _ A rfl hO.o (fun j h d y=>(hH.o j h d y).dfa) ?_ r.o;have :=hM.o;rw[List.take_of_length_le (by omega)]at this;exact this
end
instance auEq:DecidableEq Au:=fun A B=>decidable_of_iff (A.T=B.T∧A.acc=B.acc∧A.next=B.next) ⟨fun⟨h1,h2,h3⟩=>by cases A;cases B;simp_all,fun h=>by subst h;exact⟨rfl,rfl,rfl⟩⟩
instance (o:AOp) (n:Int) (j:Nat) (v:Int):Decidable (bB o n j v):=by unfold bB;infer_instance
instance (o:AOp) (a b c N n:Int) (kn:Nat):Decidable (aE o a b c N n kn):=by unfold aE;infer_instance
def isB (a b:ByteArray):Bool:=a.data.toList==b.data.toList
theorem isB_eq {a b:ByteArray} (h:isB a b=true):a=b:=by
 obtain⟨⟨a⟩⟩:=a;obtain⟨⟨b⟩⟩:=b;obtain rfl:a=b:=eq_of_beq h;rfl
def coF:Co→Nat→Option (Nat×Au)
 | .leaf m (.ofNat A) (.ofNat B) (.ofNat C) (.ofNat N),n=>
  ([AOp.tru,.sub,.sing,.flag,.less,.num].find? fun o=>isB o.name m).bind fun o=>
   (fun Z=>if N≤20∧n≤6∧aE o A B C N n 0∧dV Z=Z then some (Z.acc.length,Z)else none) (dV (ew o N A B C n))
 | .one m (.ofNat v) k,n=>
  if isB m GJ∧v=0 then(coF k n).map fun p=>(p.1+(dV (nv p.2)).acc.length,dV (nv p.2))
  else(coF k (n+1)).bind fun p=>
   if isB m GB∧v=n∧n<6∧p.2.T=(n:Int)+1∧p.2.acc.length≤99∧(rQ p.2 n 400).2.length=(rQ p.2 n 400).1.length∧(rQ p.2 n 400).1.length≤400 then some (p.1+(dV (Fw p.2 n 400)).acc.length,dV (Fw p.2 n 400))else none
 | .two m k l,n=>(coF k n).bind fun p=>(coF l n).bind fun q=>
  if isB m GD∧p.2.T=q.2.T∧p.2.acc.length*q.2.acc.length≤400 then some (p.1+q.1+(dV (fS p.2 q.2 8)).acc.length,dV (fS p.2 q.2 8))else none
 |_,_=>none
theorem coF_ok:∀{t:Co} {n c:Nat} {A:Au},coF t n=some (c,A)→CoAu t n c A
 | .leaf m (.ofNat A) (.ofNat B) (.ofNat C) (.ofNat N),n,c,Z,h=>by
  rw[coF]at h;obtain⟨o,ho,h2⟩:=Option.bind_eq_some_iff.1 h;clear h;have u:=isB_eq (by simpa using List.find?_some ho);subst u;dsimp only at h2
  split at h2
  ·rename_i a
   obtain⟨f,b⟩:=Prod.mk.inj (Option.some.inj h2);subst f b;exact CoAu.leaf o A B C N n _ a.1 a.2.1 a.2.2.1 rfl a.2.2.2
  ·cases h2
 | .one m (.ofNat v) k,n,c,Z,h=>by
  rw[coF]at h
  split at h
  ·rename_i a
   obtain rfl:=isB_eq a.1;obtain rfl:=a.2;obtain⟨⟨d,B⟩,g,h2⟩:=Option.map_eq_some_iff.1 h;dsimp only at h2;obtain⟨f,b⟩:=Prod.mk.inj h2;subst f b;exact CoAu.not k n d B (dV (nv B)) (coF_ok g) rfl
  ·obtain⟨⟨d,B⟩,g,h2⟩:=Option.bind_eq_some_iff.1 h;clear h
   split at h2
   ·rename_i a
    obtain⟨h1,h0,p,j,i,r,q⟩:=a;subst h0;obtain rfl:=isB_eq h1;dsimp only at h2 j i r q;obtain⟨f,b⟩:=Prod.mk.inj (Option.some.inj h2);subst f b;exact CoAu.ex k v d B (dV (Fw B v 400)) p j (coF_ok g) i (by rw[bg];exact⟨r,q⟩) (congrArg dV (cw B v 400))
   ·cases h2
 | .two m k l,n,c,Z,h=>by
  rw[coF]at h;obtain⟨⟨d,A⟩,g,h1⟩:=Option.bind_eq_some_iff.1 h;obtain⟨⟨e,B⟩,s,h2⟩:=Option.bind_eq_some_iff.1 h1;clear h h1
  split at h2
  ·rename_i a
   obtain⟨p,j,i⟩:=a;obtain rfl:=isB_eq p;dsimp only at h2 j i;obtain⟨f,b⟩:=Prod.mk.inj (Option.some.inj h2);subst f b;exact CoAu.and k l n d e A B (dV (fS A B 8)) (coF_ok g) (coF_ok s) j i rfl
  ·cases h2
 | .leaf _ (.negSucc _) _ _ _,_,_,_,h=>by simp[coF]at h
 | .leaf _ (.ofNat _) (.negSucc _) _ _,_,_,_,h=>by simp[coF]at h
 | .leaf _ (.ofNat _) (.ofNat _) (.negSucc _) _,_,_,_,h=>by simp[coF]at h
 | .leaf _ (.ofNat _) (.ofNat _) (.ofNat _) (.negSucc _),_,_,_,h=>by simp[coF]at h
 | .one _ (.negSucc _) _,_,_,_,h=>by simp[coF]at h
theorem coF_le {t:Co} {n:Nat} {A:Au} (h:(coF t n).any (fun p=>decide (p.1≤200∧p.2=A))=true):∃c,CoAu t n c A∧c≤200:=by
 cases a:coF t n with
 |none=>rw[a]at h;cases h
 |some p=>
  obtain⟨c,B⟩:=p;rw[a]at h;have h:c≤200∧B=A:=of_decide_eq_true h;obtain⟨h1,rfl⟩:=h;exact⟨c,coF_ok a,h1⟩
def mT:Co:=(.one GJ 0 (.two GD (.leaf GE 0 1 0 0) (.one GJ 0 (.one GB 2 (.two GD (.leaf GH 2 0 0 3) (.leaf G4 0 2 0 0))))))
def lj:Co:=(.two GD (.leaf GU 0 0 0 0) (.leaf GP 0 0 0 0))
def jP:Au:=⟨2,[false,false,true,false,false,false],[[1,2,1,2],[3,2,3,2],[2,4,2,4],[5,2,5,2],[4,4,4,4],[5,2,5,4]]⟩
theorem qp:∃c,CoAu (Co.and lj mT) 2 c jP∧c≤200:=coF_le (by decide+kernel)
def lC:Au:=⟨2,[false,false,false,false,false,true],[[1,2,1,2],[3,2,3,2],[2,2,2,2],[4,2,4,2],[4,2,4,5],[5,2,5,2]]⟩
theorem sP:∃c,CoAu (Co.and lj (Co.not mT)) 2 c lC∧c≤200:=coF_le (by decide+kernel)
def mS:Co:=(.one GJ 0 (.two GD (.one GJ 0 (.leaf GE 0 1 0 0)) (.one GJ 0 (.leaf GE 1 0 0 0))))
def lh:Co:=(.leaf GU 0 0 0 0)
def jO:Au:=⟨2,[true,true,true,false],[[0,1,2,0],[1,1,3,1],[2,3,2,2],[3,3,3,3]]⟩
theorem qo:∃c,CoAu (Co.and lh mS) 2 c jO∧c≤200:=coF_le (by decide+kernel)
def lB:Au:=⟨2,[false,false,false,true],[[0,1,2,0],[1,1,3,1],[2,3,2,2],[3,3,3,3]]⟩
theorem sO:∃c,CoAu (Co.and lh (Co.not mS)) 2 c lB∧c≤200:=coF_le (by decide+kernel)
def mR:Co:=(.two GD (.one GJ 0 (.two GD (.leaf GV 0 0 0 0) (.one GJ 0 (.one GB 2 (.two GD (.leaf GH 2 0 0 2) (.two GD (.leaf GE 1 2 0 0) (.leaf GE 2 1 0 0))))))) (.one GJ 0 (.two GD (.one GB 2 (.two GD (.leaf GH 2 0 0 2) (.two GD (.leaf GE 1 2 0 0) (.leaf GE 2 1 0 0)))) (.one GJ 0 (.leaf GV 0 0 0 0)))))
def lf:Co:=(.two GD (.two GD (.leaf GU 0 0 0 0) (.one GB 2 (.two GD (.leaf GH 2 0 0 0) (.leaf GE 0 2 0 0)))) (.leaf GP 1 0 0 0))
def jN:Au:=⟨2,[false,false,false,true,false,false,false,false],[[1,2,3,4],[5,4,3,4],[6,4,4,4],[3,4,4,4],[4,4,4,4],[7,4,4,4],[4,4,3,4],[7,4,3,4]]⟩
theorem ql:∃c,CoAu (Co.and lf mR) 2 c jN∧c≤200:=coF_le (by decide+kernel)
def lA:Au:=⟨2,[false,false,false,false,true,false,false,false],[[1,2,3,4],[5,3,3,3],[6,3,4,3],[3,3,3,3],[4,3,3,3],[3,3,4,3],[7,3,3,3],[7,3,4,3]]⟩
theorem sN:∃c,CoAu (Co.and lf (Co.not mR)) 2 c lA∧c≤200:=coF_le (by decide+kernel)
def mQ:Co:=(.one GB 1 (.two GD (.leaf GP 1 0 0 0) (.leaf G4 1 0 0 0)))
def kZ:Co:=(.two GD (.leaf GU 0 0 0 0) (.leaf GP 0 0 0 0))
def jM:Au:=⟨1,[false,false,false,true],[[1,2],[1,3],[2,2],[3,2]]⟩
theorem qj:∃c,CoAu (Co.and kZ mQ) 1 c jM∧c≤200:=coF_le (by decide+kernel)
def lz:Au:=⟨1,[false,false,true],[[1,2],[1,1],[2,1]]⟩
theorem sM:∃c,CoAu (Co.and kZ (Co.not mQ)) 1 c lz∧c≤200:=coF_le (by decide+kernel)
def mP:Co:=(.one GJ 0 (.one GB 0 (.two GD (.leaf GP 0 0 0 0) (.one GJ 0 (.one GB 1 (.two GD (.leaf GP 1 0 0 0) (.leaf G4 0 1 0 0)))))))
def kY:Co:=(.leaf GU 0 0 0 0)
def jL:Au:=⟨0,[true],[[0]]⟩
theorem qi:∃c,CoAu (Co.and kY mP) 0 c jL∧c≤200:=coF_le (by decide+kernel)
def lw:Au:=⟨0,[false],[[0]]⟩
theorem sL:∃c,CoAu (Co.and kY (Co.not mP)) 0 c lw∧c≤200:=coF_le (by decide+kernel)
def mO:Co:=(.one GB 0 (.two GD (.leaf GP 0 0 0 0) (.one GJ 0 (.one GB 1 (.two GD (.leaf GP 1 0 0 0) (.one GJ 0 (.one GJ 0 (.leaf G4 0 1 0 0))))))))
def pA:Co:=(.leaf GU 0 0 0 0)
def jK:Au:=⟨0,[false],[[0]]⟩
theorem qh:∃c,CoAu (Co.and pA mO) 0 c jK∧c≤200:=coF_le (by decide+kernel)
def lu:Au:=⟨0,[true],[[0]]⟩
theorem sK:∃c,CoAu (Co.and pA (Co.not mO)) 0 c lu∧c≤200:=coF_le (by decide+kernel)
end Go.Proofs.YtojegnbejmeehaaGreatDoor
