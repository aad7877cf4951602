/- Helpers of the proof of TopNames. -/
import Derived.Test.YtojegnbejmeehaaGreatDoorJAW
namespace Go.Proofs.YtojegnbejmeehaaGreatDoor
open Go.RowKit
set_option maxRecDepth 10000
set_option maxHeartbeats 16000000
set_option linter.all false
section
attribute [local irreducible] wpQuiet ax au aQ
variable {R:Ending→World→Prop} {w:World}
structure GoodP (D:List Dl) (t:Fm):Prop where
 decls:∀d∈D,vN d
 few:D.length≤100
 once:BT D
 form:GoodF t
 size:t.size≤100
 deep:t.deep≤30
 well:WellF D t
theorem kV {v:Value} {D:List Dl} {t:Fm} (hv:ProgR w v D t) (u:GoodP D t) (X:∀e U,e=.returned (.tuple (It 0 0))→Same w U→R e U):
 Calls Tryz.prog 35 #[v] w R:=by
 have HR:=ae X;clear X;obtain⟨M,ac,a,ka,kc,rfl,F,C,q1,q2,q3,q4,x⟩:=hv.open;have y:=ae x;have s:=sal w (Ik M D.length ac none 0 0 t.op t.name t.num a ka t.kids.length kc);have h:=ae s;have g:=ae (hv.same s);have d:=ae (F.same s);have c:=ae (C.same s);have f:=ae (ag w (Ik M D.length ac none 0 0 t.op t.name t.num a ka t.kids.length kc));obtain⟨p,o,n,m,l,k,j⟩:=xc7 f.o rfl rfl rfl rfl rfl rfl rfl;unfold maxLen at q2 q4;clear hv s F C f x;generalize t.op=t0 at g h d c p o n m l k j⊢;generalize t.name=t1 at g h d c p o n m l k j⊢;generalize t.num=t2 at g h d c p o n m l k j⊢;generalize t.kids.length=Z at g h d c q3 p o n m l k j⊢;generalize E:D.length=dl at g h y d c q1 p o n m l k j⊢;have aH:=ae E;clear E;go_enter Tryz.func35,Tryz.ntmps35;go_wp2_with fail;generalize w.alloc _=w1 at h d c g p o n m l k j⊢;refine Bg g.o u.decls u.form (Nat.le_trans u.size (by decide)) u.deep ?_;rintro e w2 rfl r;have h_:=xs7 r p o n m l k j;clear p o n m l k j;obtain⟨p,o,n,m,l,k,j⟩:=h_;have B:=ae (d.o.same r);have I:=ae (c.o.same r);have T:=ae (h.o.tr r);clear r;go_wp2_with fail;refine xd B.o (Nat.le_trans u.few (by decide)) u.once ?_;rintro e L rfl q;have h_:=xs7 q p o n m l k j;clear p o n m l k j;obtain⟨p,o,n,m,l,k,j⟩:=h_;have J:=ae (B.o.same q);have H:=ae (I.o.same q);have O:=ae (T.o.tr q);clear q;have b:=sal L (.cells #[IM] 123);have A:=ae (J.o.same b);have z:=ae (H.o.same b);have G:=ae (O.o.tr b);have h_:=xs7 b p o n m l k j;clear p o n m l k j;obtain⟨p,o,n,m,l,k,j⟩:=h_;clear b;go_wp2_with fail;generalize L.alloc _=Y at A z G p o n m l k j⊢
 go_loopw [29] (fun i wr=>i=.int .i64 0∧wr=Y) (fun _ _=>0)
 case atStart=>exact⟨rfl,rfl⟩
 case round=>
  obtain⟨rfl,rfl⟩:=hrel;go_wp2_with fail;refine se _ u.well (by have :=u.few;have :=u.deep;omega) _ _ _ _ z.o ⟨A.o,y.o,Nat.le_trans u.few (by decide)⟩ ?_;rintro e w5 rfl V;have N:=ae (G.o.tr V);clear V;go_wp2_with fail;exact HR.o _ _ rfl N.o
theorem B6:(Tryz.prog.info? 27).map (fun i=>(i.zero,i.size,i.bytes))=some (some (.agg #[GA,GA,IU,IU,IM]),5,72):=by kernel_rfl
def DY (G:Nat→Prop) (w:World) (bl off:Nat) (k:Fm):Prop:=
 ∃(a:Int) (ka:Option Addr) (kc:Nat),aK a∧k.kids.length≤kc∧kc≤maxLen∧w.cell? ⟨bl,off,none⟩=some (.string k.op)∧w.cell? ⟨bl,off+1,none⟩=some (.string k.name)∧w.cell? ⟨bl,off+2,none⟩=some (.int .i64 k.num)∧w.cell? ⟨bl,off+3,none⟩=some (.int .i64 a)∧w.cell? ⟨bl,off+4,none⟩=some (.slice ka k.kids.length kc)∧
  FmIn G w (Hw k.op k.name k.num a ka k.kids.length kc) k
theorem CC {G:Nat→Prop} {c off:Nat} {k:Fm} (h:KidAt w c off (fun x=>FmIn G w x k)):DY G w c off k:=by
 obtain⟨q,p,o,n,m,l,j,i,g,f,b⟩:=h;obtain⟨a,ka,kc,e,d,h1,h2⟩:=b.shape;simp only[Value.agg.injEq,Array.mk.injEq,List.cons.injEq,and_true]at e;obtain⟨rfl,rfl,rfl,rfl,rfl⟩:=e;exact⟨a,ka,kc,d,h1,h2,l,j,i,g,f,b⟩
theorem FmIn.openG {G:Nat→Prop} {v:Value} {t:Fm} (h:FmIn G w v t):∃(a:Int) (ka:Option Addr) (kc:Nat),v=(Hw t.op t.name t.num a ka t.kids.length kc)∧aK a∧t.kids.length≤kc∧kc≤maxLen∧
 ∀i (c:i<t.kids.length),∃b off,ka=some ⟨b,off,none⟩∧G b∧DY G w b (off+i*5) t.kids[i]:=by
 cases t with
 |leaf op nm n=>
  obtain⟨a,ka,kc,rfl,h1,h2⟩:=h;exact⟨a,ka,kc,rfl,h1,Nat.zero_le _,h2,fun i c=>absurd c (Nat.not_lt_zero _)⟩
 |one op nm n k=>
  obtain⟨a,b,off,kc,rfl,⟨h1,h2,g⟩,e,f⟩:=h;refine⟨a,_,kc,rfl,h1,h2,g,fun i c=>⟨b,off,rfl,e,?_⟩⟩;have :i=0:=by simp[Fm.kids]at c;omega
  subst this
  show DY G w b (off+0*5) k
  rw[Nat.zero_mul,Nat.add_zero];exact CC f
 |two op nm n k l=>
  obtain⟨a,b,off,kc,rfl,⟨h1,h2,g⟩,e,f,j⟩:=h;refine⟨a,_,kc,rfl,h1,h2,g,fun i c=>⟨b,off,rfl,e,?_⟩⟩;have d:i<2:=c
  match i,d with
  |0,_=>show DY G w b (off+0*5) k;rw[Nat.zero_mul,Nat.add_zero];exact CC f
  |1,_=>show DY G w b (off+1*5) l;rw[Nat.one_mul];exact CC j
def Fm.calm:Fm→Prop
 | .leaf o _ _=>o≠G3
 | .one o _ _ k=>o≠G3∧k.calm
 | .two o _ _ a b=>o≠G3∧a.calm∧b.calm
theorem Fo {t:Fm} (h:t.calm):t.op≠G3:=by
 cases t with
 |leaf=>exact h
 |one=>exact h.1
 |two=>exact h.1
theorem DN {t k:Fm} (h:t.calm) (a:k∈t.kids):k.calm:=by
 cases t with
 |leaf=>cases a
 |one=>simp[Fm.kids]at a;subst a;exact h.2
 |two=>simp[Fm.kids]at a;rcases a with rfl|rfl;exact h.2.1;exact h.2.2
theorem DM {t:Fm} (h:GoodT t):t.calm:=by
 cases h with
 |vr=>show(GG:ByteArray)≠G3;decide
 |nm=>show(GH:ByteArray)≠G3;decide
theorem DO {t:Fm} (h:GoodF t):t.calm:=by
 induction h with
 |bin op a b ho _ _ iha ihb=>exact⟨by rcases ho with rfl|rfl|rfl<;>decide,iha,ihb⟩
 |qu op l k ho _ _ ih=>exact⟨by rcases ho with rfl|rfl<;>decide,ih⟩
 |isv l _=>show(GI:ByteArray)≠G3;decide
 |rel op a b ho ha hb=>exact⟨by rcases ho with rfl|rfl|rfl|rfl|rfl<;>decide,DM ha,DM hb⟩
def iE (w:World) (X:Nat) (left:Int):Prop:=w.heap[X]?=some (.cells #[IM,left] 128)
structure OwnKids (w:World) (B:Nat) (u:Value) (l:List Fm):Prop where
 own:∃vs:List (List Value),vs.length=l.length∧w.ownsRow B 27 5 u l.length vs.flatten∧∀(j:Nat) (x:List Value) (k:Fm),vs[j]?=some x→l[j]?=some k→∃x0 x1 x2 x3 x4,x=[x0,x1,x2,x3,x4]∧FmIn (fun b=>B≤b∧u.ownBlock≠some b) w (.agg #[x0,x1,x2,x3,x4]) k
theorem OwnKids.nil (w:World) (B:Nat):OwnKids w B IM []:=⟨[],rfl,⟨by simp,.inl ⟨rfl,rfl⟩⟩,fun j x k h=>by simp at h⟩
theorem OwnKids.keep {B:Nat} {u:Value} {l:List Fm} {S:Nat→Prop} {c:World} (h:OwnKids w B u l) (k:Keeps S w c) (hs:∀b,B≤b→S b):OwnKids c B u l:=by
 obtain⟨vs,h1,h2,q⟩:=h.own;refine⟨vs,h1,ar h2 k (fun b a=>hs b (ah h2 a).1),fun j x n hx o=>?_⟩;obtain⟨m,i,g,f,d,e,p⟩:=q j x n hx o;exact⟨m,i,g,f,d,e,p.kept k fun b a=>hs b a.1⟩
theorem OwnKids.push {B:Nat} {u:Value} {l:List Fm} (h:OwnKids w B u l) (O:B≤w.heap.size) {n m i f d:Value} {k:Fm} (L:FmIn (fun b=>B≤b∧u.ownBlock≠some b) w (.agg #[n,m,i,f,d]) k) (N:∀y∈[n,m,i,f,d],y.oneCell'=true) (X:l.length≤5000):
 ∃g cap o,(Builtin.append_ #[25,25] 25 #[u,.slice (IQ w.heap.size 0) 1 1]).run Tryz.prog (w.alloc (.cells #[n,m,i,f,d] 27))=.ok (.slice (IQ g 0) (l.length+1) cap) o∧
  OwnKids o B (.slice (IQ g 0) (l.length+1) cap) (l++[k])∧Keeps (·<B) w o:=by
 obtain⟨vs,h1,h2,U⟩:=h.own;obtain⟨g,cap,o,J,q,r,t,M⟩:=cF (P:=Tryz.prog) (k:=5) (by decide) w 25 25 27 Tryz.underlying25 B6 rfl h2 O [n,m,i,f,d] rfl N (by omega) (by decide);have c:∀{v:Value} {p:Fm},FmIn (fun b=>B≤b∧u.ownBlock≠some b) w v p→FmIn (fun b=>B≤b∧(Value.slice (IQ g 0) (l.length+1) cap).ownBlock≠some b) o v p:=fun{v p} C=>by
  have T:FmIn (fun b=>(B≤b∧u.ownBlock≠some b)∧g≠b) w v p:=bH (fun b D s=>⟨s,fun e=>by
   rcases t with t|t
   ·exact s.2 (by rw[t,e])
   ·omega⟩) C
  exact bH (fun b _ s=>⟨s.1.1,fun e=>s.2 (by simpa [Value.ownBlock]using e)⟩) (T.kept r fun b D=>D.1.2)
 refine⟨g,cap,o,J,⟨vs++[[n,m,i,f,d]],by simp[h1],by simpa using q,fun j x p hx a=>?_⟩,r.mono fun y _ V e=>?_⟩
 ·rcases Nat.lt_or_ge j vs.length with A|A
  ·rw[List.getElem?_append_left A]at hx;rw[List.getElem?_append_left (by omega)]at a;obtain⟨I,H,G,F,E,e,C⟩:=U j x p hx a;exact⟨I,H,G,F,E,e,c C⟩
  ·rw[List.getElem?_append_right A]at hx;rw[List.getElem?_append_right (by omega)]at a;have z:j -vs.length=0:=by
    rcases Nat.eq_zero_or_pos (j -vs.length)with h|h
    ·exact h
    ·rw[List.getElem?_eq_none (by simp;omega)]at hx;cases hx
   rw[z]at hx;rw[show j -l.length=0 by omega]at a;simp at hx a;subst hx a;exact⟨n,m,i,f,d,rfl,c L⟩
 ·have :=(ah h2 e).1;omega
theorem OwnKids.fm {B B':Nat} {u:Value} {t:Fm} {a:Int} (h:OwnKids w B u t.kids) (M:B'≤B) (C:aK a):FmAt B' w (.agg #[t.op,t.name,t.num,a,u]) t:=by
 obtain⟨vs,h1,h2,G⟩:=h.own;have Y:∀x∈vs,x.length=5:=fun x hx=>by
  obtain⟨j,J⟩:=List.mem_iff_getElem?.1 hx;have T:=(List.getElem?_eq_some_iff.1 J).1;obtain⟨y,v,r,q,p,rfl,_⟩:=G j x _ J (List.getElem?_eq_getElem (by omega));rfl
 have hs:StrAt 5 w u vs:=dg Y (by rw[h1];exact h2);obtain⟨s,c,rfl,o,z,H⟩:=hs.open;have D:∀i (L:i<t.kids.length),∃d off,s=some ⟨d,off,none⟩∧B'≤d∧KidAt w d (off+i*5) (fun x=>FmAt B' w x t.kids[i]):=fun i L=>by
  obtain⟨d,off,rfl,O,m⟩:=H i (by omega);have A:B≤d:=(ah h2 (by
   rcases h2.2 with⟨e,_⟩|⟨g,cap,Z,e,_⟩
   ·simp at e
   ·simp at e;simp[Value.ownBlock,e.1.2])).1
  have f:i<vs.length:=by omega
  obtain⟨y,v,r,q,p,e,U⟩:=G i _ _ (List.getElem?_eq_getElem f) (List.getElem?_eq_getElem L);have hx:vs[i]?=some [y,v,r,q,p]:=by rw[List.getElem?_eq_getElem f,e]
  exact⟨d,off,rfl,Nat.le_trans M A,y,v,r,q,p,m i _ hx 0 _ rfl,m i _ hx 1 _ rfl,m i _ hx 2 _ rfl,m i _ hx 3 _ rfl,m i _ hx 4 _ rfl,bH (fun b _ V=>Nat.le_trans M V.1) U⟩
 clear h2 G H hs
 cases t with
 |leaf op nm n=>
  simp only[Fm.kids,List.length_nil]at h1;rw[h1];exact⟨a,s,c,rfl,C,z⟩
 |one op nm n k=>
  obtain⟨d,off,rfl,F,E⟩:=D 0 (by simp[Fm.kids]);simp only[Fm.kids,List.length_cons,List.length_nil]at h1;rw[h1]at o⊢;refine⟨a,d,off,c,rfl,⟨C,o,z⟩,F,?_⟩
  simpa [Fm.kids]using E
 |two op nm n k l=>
  obtain⟨d,off,rfl,F,E⟩:=D 0 (by simp[Fm.kids]);obtain⟨aH,I,N,_,X⟩:=D 1 (by simp[Fm.kids]);simp at N;obtain⟨rfl,rfl⟩:=N;simp only[Fm.kids,List.length_cons,List.length_nil]at h1;rw[h1]at o⊢;refine⟨a,d,off,c,rfl,⟨C,o,z⟩,F,?_,?_⟩
  ·simpa [Fm.kids]using E
  ·simpa [Fm.kids]using X
theorem uE (t:Fm):t.kids.length≤2:=by cases t<;>simp[Fm.kids]
theorem z8:∀(h:Nat) (t:Fm) (w:World) (v:Value) (X:Nat) (left:Int) (R:Ending→World→Prop),t.size≤h→h≤2000→FmIn (·≠X) w v t→t.calm→iE w X left→(t.size:Int)≤left→left≤3000→
 (∀e w' u,e=.returned (.tuple (Id u true))→FmAt w.heap.size w' u t→iE w' X (left -t.size)→Keeps (·≠X) w w'→R e w')→Calls Tryz.prog 95 #[.pointer (IQ X 0),v] w R:=by
 intro h
 induction h with
 |zero=>intro t w v X left R ht;have :=oC t;omega
 |succ h ih=>
  intro t w v X left R ht h2 hv q hx Jr Js hR;have HR:=ae hR;have IH:=ae ih;clear hR ih;obtain⟨a,ka,kc,rfl,ha,Jl,gH,f⟩:=hv.openG;have Ju:X<w.heap.size:=am hx;have cE:=ae f;have Ji:Hid (∀k∈t.kids,k.calm∧k.size<t.size):=ae (fun k hk=>⟨DN q hk,uG hk⟩);have Jk:=uF t;have Jt:=uE t;have dZ:(t.op.toList==[99,97,108,108])=false:=mC (decide_eq_false (Fo q));have q1:(w.alloc (Ht t.op t.name t.num a ka t.kids.length kc)).heap.size=w.heap.size+1:=by simp
  have M:=aw (ag w (Ht t.op t.name t.num a ka t.kids.length kc)) Ho;have ce:=ag (w.alloc (Ht t.op t.name t.num a ka t.kids.length kc)) Ho;rw[q1]at ce;have kk:Same w ((w.alloc (Ht t.op t.name t.num a ka t.kids.length kc)).alloc Ho):=((af _ w).alloc _).alloc _;have d:=ae M;have c:=ae ce;have C:=ae kk;have z:=ae (kk.at hx trivial);have J:=ai M 0;have x1:=ai (kk.at hx trivial) 1;have H:=ao (kk.at hx trivial) 1;have I:=ai M 4;simp only[List.getElem?_toArray,List.getElem?_cons_zero,List.getElem?_cons_succ]at J x1 I;have hp:=oC t;have Jn:IntKind.i64.wrap (left -1)=left -1:=by rw[IntKind.wrap_i64];omega
  have n0:X≠w.heap.size:=by omega
  have n1:X≠w.heap.size+1:=by omega
  unfold maxLen at gH;clear M ce kk q1 f hv q hx;generalize fd:t.op=t0 at d C z c J I x1 H dZ⊢;generalize fw:t.name=t1 at d C z c J I x1 H⊢;generalize fu:t.num=t2 at d C z c J I x1 H⊢;have Ja:=ae fd;have Jf:=ae fw;have Je:=ae fu;clear fd fw fu;go_enter Tryz.func95,Tryz.ntmps95
  iterate 7 (first|go_skip|go_guarded|go_step|go_upon|go_back|go_simp)
  generalize(w.alloc (Ht t0 t1 t2 a ka t.kids.length kc)).alloc Ho=w1 at d c C z J I x1 H⊢;have Jo:w.heap.size+1<w1.heap.size:=am c.o;have kx:=(af (·≠X) w1).but 1 (IP (left -1));have x:Hid (iE (w1.setCell ⟨X,1,none⟩ (IP (left -1))) X (left -1)):=ae (by
   show(w1.setCell ⟨X,1,none⟩ (IP (left -1))).heap[X]?=_
   rw[aj z.o];simp)
  have m:=ae (kx.at d.o n0.symm);have j:=ae (kx.at c.o n1.symm);have B:=ae ((C.o.bar X).tr kx);have IR:=ae kx.size;clear kx;go_wp2_with fail;generalize w1.setCell ⟨X,1,none⟩ (IP (left -1))=w2 at x m j B IR⊢;clear J I x1 H d c C z
  go_loopw [6,8,9,10,48] (fun kv _ _ _ i wr=>∃k:Nat,i=.int .i64 (k:Int)∧k≤t.kids.length∧Hid (OwnKids wr (w.heap.size+2) kv (t.kids.take k))∧Hid (iE wr X (left -1 -(((t.kids.map Fm.size).take k).sum:Nat)))∧Hid (Keeps (·≠X) w wr)∧
   Hid (wr.heap[w.heap.size]?=(Ih t0 t1 t2 a ka t.kids.length kc))∧Hid (wr.heap[w.heap.size+1]?=(Ih GA GA 0 0 none 0 0))) (fun _ _ _ _ i _=>t.kids.length -(intOf i).toNat)
  case atStart=>exact⟨0,rfl,Nat.zero_le _,ae (OwnKids.nil _ _),ae (by simpa using x.o),B,m,j⟩
  case round=>
   obtain⟨k,rfl,hk,HO,HX,N,d,c⟩:=hrel;clear x B m j IR;have bL:(t.kids.take k).length=k:=by rw[List.length_take];omega
   obtain⟨Jm,_,a8,_⟩:=HO.o.own;rw[bL]at a8;obtain⟨s0,n,rfl⟩:=av a8;clear a8;have Jb:Hid (∀b,(Value.slice s0 k n).ownBlock=some b→b<wr.heap.size):=ae (fun b U=>by
    obtain⟨vs,_,h2,_⟩:=HO.o.own;obtain⟨_,Jv,hc⟩:=ah h2 U;exact am hc)
   have T:w.heap.size+2≤wr.heap.size:=am c.o;by_cases E:k<t.kids.length
   ·obtain⟨bl,off,rfl,G,a',I3,I2,_,_,_,c0,c1,c2,c3,c4,f⟩:=cE.o k E;have h_:=xk5 N.o c0 c1 c2 c3 c4 G G G G G;clear c0 c1 c2 c3 c4;obtain⟨c0,c1,c2,c3,c4⟩:=h_;obtain⟨gI,I5⟩:=Ji.o _ (List.getElem_mem E);have L:=lF (l:=t.kids.map Fm.size) (k:=k) (by simpa using E);rw[List.getElem_map]at L;have Jp:=nU (t.kids.map Fm.size) (k+1);have p:t.kids.take (k+1)=t.kids.take k++[t.kids[k]]:=by rw[List.take_succ_eq_append_getElem E]
    generalize t.kids[k]=D at c0 c1 c2 c3 c4 f gI I5 L p;have I9:=ae p;have I8:=ae L;have IW:Hid ((D.size:Int)≤left -1 -(((t.kids.map Fm.size).take k).sum:Nat)∧left -1 -(((t.kids.map Fm.size).take k).sum:Nat)≤3000):=ae (by omega);have o:=sal wr (Ht D.op D.name D.num a' I3 D.kids.length I2);have V:=ae ((f.kept N.o fun b U=>U).same o);have IT:=ae (HO.o.keep o fun _ _=>trivial);have x:=ae (o.at HX.o trivial:iE _ X _);have B:=ae (N.o.tr_same o);have m:=ae (o.at d.o trivial);have j:=ae (o.at c.o trivial);have dE:=Nat.le_trans T o.size;clear f o HO HX N d c p L;go_wp2_with fail;refine IH.o D _ _ X _ _ (by omega) (by omega) V.o gI x.o IW.o.1 IW.o.2 ?_;rintro e w4 u rfl hu dp k4;obtain⟨a5,aL,aH,rfl,_,_,_⟩:=hu.shape;have A:=ae (bH (G':=fun b=>w.heap.size+2≤b∧(Value.slice s0 k n).ownBlock≠some b) (fun b _ U=>by
     have h1:wr.heap.size+1≤b:=by simpa using U
     exact⟨by omega,fun e=>by have :=Jb.o b e;omega⟩) hu)
    have IS:=ae (IT.o.keep k4 fun b U=>by omega);have If:=ae dp;have IZ:=ae (B.o.tr k4);have Z:=ae (k4.at m.o n0.symm);have Y:=ae (k4.at j.o n1.symm);have Jj:=Nat.le_trans dE k4.size;clear hu dp k4 IT x B m j V;generalize D.op=y0 at A⊢;generalize D.name=y1 at A⊢;generalize D.num=y2 at A⊢;generalize D.kids.length=y3 at A⊢;have r:=sal w4 (Ht y0 y1 y2 a5 aL y3 aH);have hz:=ag w4 (Ht y0 y1 y2 a5 aL y3 aH);obtain⟨J,z1,z2,z3,I⟩:=xc5 hz rfl rfl rfl rfl rfl;have O:(w4.alloc (Ht y0 y1 y2 a5 aL y3 aH)).heap.size=w4.heap.size+1:=by simp
    obtain⟨g,cap,w6,hr,ch,F⟩:=(IS.o.keep r fun _ _=>trivial).push (by omega) (A.o.same r) (by simp[Value.oneCell']) (by omega);rw[bL,O]at hr;rw[bL,←I9.o]at ch;have Jc:=ae ch;have I6:=ae (F.at (r.at If.o trivial) (show X<w.heap.size+2 by omega):iE _ X _);have gJ:Hid (iE w6 X (left -1 -(((t.kids.map Fm.size).take (k+1)).sum:Nat))):=ae (by
     rw[I8.o];have e:left -1 -(((t.kids.map Fm.size).take k).sum:Nat) -(D.size:Nat)=left -1 -((((t.kids.map Fm.size).take k).sum+D.size:Nat):Int):=by omega
     rw[←e];exact I6.o)
    have Jg:Hid (Keeps (·≠X) w w6):=ae ((IZ.o.tr_same r).trans F fun y hy hS=>⟨hS,by omega⟩);have I1:=ae (F.at (r.at Z.o trivial) (show w.heap.size<w.heap.size+2 by omega));have I0:=ae (F.at (r.at Y.o trivial) (show w.heap.size+1<w.heap.size+2 by omega));clear r hz ch F O IS If IZ Z Y A
    go_wp2_with (at_builtin;refine ap rfl _ _ _ rfl rfl rfl hr ?_;clear hr)
    go_roundw
    case rel=>exact⟨k+1,by go_num,E,Jc,gJ,Jg,I1,I0⟩
    case measure=>simp[intOf];omega
   ·obtain rfl:k=t.kids.length:=by omega
    have I4:w.heap.size+2≤wr.heap.size:=T;obtain⟨J,z1,z2,z3,I⟩:=xc5 d.o rfl rfl rfl rfl rfl;obtain⟨d0,d1,d2,d3,d4⟩:=xc5 c.o rfl rfl rfl rfl rfl;have f4:=ao d.o 4;obtain⟨g0,g1,g2,g3,g4⟩:=xf5 c.o;rw[List.take_length]at HO;have cH:left -1 -(((t.kids.map Fm.size).take t.kids.length).sum:Nat)=left -(t.size:Nat):=by
     rw[List.take_of_length_le (by simp)];omega
    rw[cH]at HX;have Jq:w.heap.size≠w.heap.size+1:=by omega
    clear cH;have kz:Keeps (·≠w.heap.size) wr (wr.setCell ⟨w.heap.size,4,none⟩ (.slice s0 t.kids.length n)):=(af _ _).setCell (by simp) _;have hd:=kz.at c.o (show w.heap.size+1≠w.heap.size by omega);have s:=bT hd (.string t0) (.string t1) (IP t2) (IP a) (.slice s0 t.kids.length n);obtain⟨e0,e1,e2,e3,e4⟩:=xc5 s rfl rfl rfl rfl rfl;have k5:=bq (wr.setCell ⟨w.heap.size,4,none⟩ (.slice s0 t.kids.length n)) (w.heap.size+1) (.string t0) (.string t1) (IP t2) (IP a) (.slice s0 t.kids.length n);have Jd:=ae ((HO.o.keep kz fun b U=>by omega).keep k5 fun b U=>by omega);have I7:=ae (k5.at (kz.at HX.o n0) n1:iE _ X _);have Jh:=ae ((N.o.new (Nat.le_refl _) 4 (.slice s0 t.kids.length n)).box5 (Nat.le_succ _) (.string t0) (.string t1) (IP t2) (IP a) (.slice s0 t.kids.length n));clear kz hd s k5;go_wp2_with fail;refine bodyPost_ret (v:=.tuple (Id (Hw t0 t1 t2 a s0 t.kids.length n) true)) (by simp[results,Tryz.results95,go_sem,e0,e1,e2,e3,e4]) rfl ?_;refine HR.o _ _ _ rfl ?_ I7.o Jh.o;have :=Jd.o.fm (B':=w.heap.size) (a:=a) (by omega) ha;rw[Ja.o,Jf.o,Je.o]at this;exact this
theorem wP {t:Fm} {v:Value} {X:Nat} {left:Int} (hv:FmIn (·≠X) w v t) (hc:t.calm) (hx:iE w X left) (hs:t.size≤2000)
 (hR:∀e O u,e=.returned (.tuple (Id u true))→FmAt w.heap.size O u t→iE O X (2000 -t.size)→Keeps (·≠X) w O→R e O):Calls Tryz.prog 59 #[.pointer (IQ X 0),v] w R:=by
 have HR:=ae hR;clear hR;obtain⟨a,ka,kc,rfl,ha,C,B⟩:=hv.shape;have fd:X<w.heap.size:=am hx;have HC:=ae hc;have q1:(w.alloc (Ht t.op t.name t.num a ka t.kids.length kc)).heap.size=w.heap.size+1:=by simp
 have h:=aw (ag w (Ht t.op t.name t.num a ka t.kids.length kc)) Ho;have f:=ag (w.alloc (Ht t.op t.name t.num a ka t.kids.length kc)) Ho;rw[q1]at f;have o:Same w ((w.alloc (Ht t.op t.name t.num a ka t.kids.length kc)).alloc Ho):=((af _ w).alloc _).alloc _;have n0:w.heap.size≠X:=by omega
 have Y:w.heap.size+1≠X:=by omega
 have d:=o.at hx trivial;have y:=ai d 1;have k:=ao d 1;have i:=ae (hv.same o);unfold maxLen at B;clear q1 hv hc hx;generalize a8:t.op=t0 at i h f o d y k⊢;generalize bL:t.name=t1 at i h f o d y k⊢;generalize aL:t.num=t2 at i h f o d y k⊢;generalize ce:t.kids.length=tl at i h f o d y k C⊢;clear a8 bL aL ce;have j:=ae h;have x:=ae f;have I:=ae o;have E:=ae d;simp only[List.getElem?_toArray,List.getElem?_cons_zero,List.getElem?_cons_succ]at y;clear h f o d;go_enter Tryz.func59,Tryz.ntmps59
 iterate 7 (first|go_skip|go_guarded|go_step|go_upon|go_back|go_simp)
 generalize(w.alloc (Ht t0 t1 t2 a ka tl kc)).alloc Ho=r at E j x I i y k⊢;obtain⟨z0,z1,z2,z3,z4⟩:=xc5 j.o rfl rfl rfl rfl rfl;have z:Keeps (·≠X) r (r.setCell ⟨X,1,none⟩ (IP 2000)):=(af _ r).setCell (by simp) _;have D:Hid (iE (r.setCell ⟨X,1,none⟩ (IP 2000)) X 2000):=ae (by
  show(r.setCell ⟨X,1,none⟩ (IP 2000)).heap[X]?=_
  rw[aj E.o];simp)
 have q:=ae (z.at x.o Y);have H:=ae ((I.o.bar X).tr z);have G:=ae (i.o.kept z fun b p=>p);have F:Hid (w.heap.size+2≤r.heap.size):=ae (am x.o);have s:=ae z.size;clear z;go_wp2_with fail;generalize r.setCell ⟨X,1,none⟩ (IP 2000)=w2 at D q H G s⊢;refine z8 _ _ _ _ X 2000 _ (Nat.le_refl _) hs G.o HC.o D.o (by omega) (by decide) ?_;rintro e V u rfl T A k3;have aH:FmAt w.heap.size V u t:=bH (fun b _ p=>by have :=F.o;have :=s.o;show w.heap.size≤b;have h3:w2.heap.size≤b:=p;omega) T;obtain⟨U,n,m,rfl,_,_,_⟩:=T.shape;have c:=k3.at q.o Y;obtain⟨d0,d1,d2,d3,d4⟩:=xc5 c rfl rfl rfl rfl rfl;obtain⟨g0,g1,g2,g3,g4⟩:=xf5 c;have l:Hid (FmIn (fun b=>w.heap.size+2≤b) V _ t):=ae (bH (fun b _ p=>by have :=F.o;have :=s.o;have h3:w2.heap.size≤b:=p;omega) T);have cE:=ae A;have dZ:=ae c;have dE:=ae (H.o.tr k3);clear T aH A c k3;generalize t.op=N at l⊢;generalize t.name=M at l⊢;generalize t.num=L at l⊢;generalize t.kids.length=J at l⊢;have g:=bT dZ.o (.string N) (.string M) (IP L) (IP U) (.slice n J m);obtain⟨e0,e1,e2,e3,e4⟩:=xc5 g rfl rfl rfl rfl rfl;have Z:=bq V (w.heap.size+1) (.string N) (.string M) (IP L) (IP U) (.slice n J m);have cH:=ae (l.o.kept Z fun b p=>by omega);have ch:=ae (Z.at cE.o Y.symm:iE _ X _);have dp:=ae (dE.o.box5 (Nat.le_succ _) (.string N) (.string M) (IP L) (IP U) (.slice n J m));clear g Z;go_wp2_with fail;refine bodyPost_ret (v:=.tuple (Id (Hw N M L U n J m) true)) (by simp[results,Tryz.results59,go_sem,e0,e1,e2,e3,e4]) rfl ?_;exact HR.o _ _ _ rfl (bH (fun b _ p=>by show w.heap.size≤b;have h3:w.heap.size+2≤b:=p;omega) cH.o) ch.o dp.o
theorem Ew {a:World} {D:List Dl} {t:Fm} {b:Option Addr} {ac:Nat} {g f e d c:Value} (h1:DeclsAt a (.slice b D.length ac) D) (h2:FmR a (.agg #[g,f,e,d,c]) t) (h:D=[]→Value.slice b D.length ac=.slice none 0 0):ProgR a (.agg #[.slice b D.length ac,IM,g,f,e,d,c]) D t:=
 ⟨_,_,_,_,_,_,rfl,h,h1,h2⟩
theorem yI {v:Value} {t:Fm} (h:FmR w v t):FmIn (fun b=>b<w.heap.size) w v t:=bH (fun _ h _=>h) h
theorem um {v:Value} {D:List Dl} {t:Fm} (hv:ProgR w v D t) (hg:GoodP D t) (hR:∀e w' u,e=.returned (.tuple (Ia u 0))→FmAt w.heap.size w' u t→Same w w'→R e w'):
 Calls Tryz.prog 36 #[v] w R:=by
 have HR:=ae hR;clear hR;obtain⟨aa,ac,a,ka,kc,rfl,dZ,dE,q1,q2,q3,q4,Y⟩:=hv.open;have aH:=ae Y;have J:=sal w (Ik aa D.length ac none 0 0 t.op t.name t.num a ka t.kids.length kc);have n:=ae J;have g:=ae (dZ.same J);have f:=ae (dE.same J);have m:=ae (ag w (Ik aa D.length ac none 0 0 t.op t.name t.num a ka t.kids.length kc));obtain⟨z,x,s,r,q,p,o⟩:=xc7 m.o rfl rfl rfl rfl rfl rfl rfl;unfold maxLen at q2 q4;clear J dZ dE m Y;generalize t.op=t0 at n g f z x s r q p o⊢;generalize t.name=t1 at n g f z x s r q p o⊢;generalize t.num=t2 at n g f z x s r q p o⊢;generalize t.kids.length=tl at n g f q3 z x s r q p o⊢;generalize L:D.length=dl at n aH g f q1 z x s r q p o⊢;have If:=ae L;clear L;go_enter Tryz.func36,Tryz.ntmps36
 iterate 7 (first|go_skip|go_guarded|go_step|go_upon|go_back|go_simp)
 have q5:(w.alloc (Ik aa dl ac none 0 0 t0 t1 t2 a ka tl kc)).heap.size=w.heap.size+1:=by simp
 have a8:=ag (w.alloc (Ik aa dl ac none 0 0 t0 t1 t2 a ka tl kc)) Ho;rw[q5]at a8;have N:=ae a8;clear a8 q5;generalize w.alloc _=w0 at n g f N z x s r q p o⊢;have c:=sal w0 Ho;have h_:=xs7 c z x s r q p o;clear z x s r q p o;obtain⟨z,x,s,r,q,p,o⟩:=h_;have H:=ae (g.o.same c);have B:=ae (f.o.same c);have cE:=ae (n.o.tr c);clear c g f n;generalize w0.alloc _=w1 at cE H B N z x s r q p o⊢;have L:=If.o;subst L;have fd:=ae (Ew H.o B.o aH.o);go_wp2_with fail;refine kV fd.o hg ?_;rintro e I rfl F;have h_:=xs7 F z x s r q p o;clear z x s r q p o;obtain⟨z,x,s,r,q,p,o⟩:=h_;have aL:=ae (B.o.same F);have fw:=ae (cE.o.tr F);have E:=ae (F.at N.o trivial);have M:Hid (w.heap.size+2≤I.heap.size):=ae (am E.o);have dp:=ag I (.cells #[IM,IU] 128);have c:=sal I (.cells #[IM,IU] 128);have h_:=xs7 c z x s r q p o;clear z x s r q p o;obtain⟨z,x,s,r,q,p,o⟩:=h_;have G:Hid (iE _ I.heap.size 0):=ae dp;have A:Hid (FmIn (fun b=>b<I.heap.size) _ _ _):=ae ((yI aL.o).same c);have ch:=ae (fw.o.tr c);have cH:=ae (c.at E.o trivial);clear F c dp fd H B cE N aL fw E;go_wp2_with fail;generalize I.alloc _=w4 at G A ch cH z x s r q p o⊢;generalize hX:I.heap.size=X at G A M⊢
 go_loopw [26] (fun i wr=>i=.int .i64 0∧wr=w4) (fun _ _=>0)
 case atStart=>exact⟨rfl,rfl⟩
 case round=>
  obtain⟨rfl,rfl⟩:=hrel;go_wp2_with fail;refine wP (bH (fun b _ hb=>by show b≠X;have h3:b<X:=hb;omega) A.o) (DO hg.form) G.o (Nat.le_trans hg.size (by decide)) ?_;rintro e w5 u rfl hu IR k5;obtain⟨Z,l,k,rfl,_,_,_⟩:=hu.shape;have n1:w.heap.size+1≠X:=by have :=M.o;omega
  have h:=k5.at cH.o n1;obtain⟨d0,d1,d2,d3,d4⟩:=xc5 h rfl rfl rfl rfl rfl;obtain⟨g0,g1,g2,g3,g4⟩:=xf5 h;have gH:=ae (am G.o);have C:Hid (FmIn (fun b=>w.heap.size+2≤b) w5 _ t):=ae (bH (fun b _ hb=>by have h3:=M.o;have h4:=Nat.lt_of_lt_of_le gH.o hb;omega) hu);have E:=ae h;have fu:Hid (Same w w5):=ae (ch.o.trans k5 fun y hy _=>⟨trivial,by have :=M.o;omega⟩);clear hu h k5 A G cH ch z x s r q p o;generalize t.op=V at C⊢;generalize t.name=U at C⊢;generalize t.num=T at C⊢;generalize t.kids.length=O at C⊢;have j:=bT E.o (.string V) (.string U) (IP T) (IP Z) (.slice l O k);have k5:=bq w5 (w.heap.size+1) (.string V) (.string U) (IP T) (IP Z) (.slice l O k);have bL:=ae (C.o.kept k5 fun b hb=>by omega);have d:=ae j;have ce:=ae (fu.o.box5 (Nat.le_succ _) (.string V) (.string U) (IP T) (IP Z) (.slice l O k));clear j k5 C E fu
  iterate 14 (first|go_skip|go_guarded|go_step|go_upon|go_back|go_simp)
  generalize((((w5.setCell ⟨w.heap.size+1,0,none⟩ (.string V)).setCell ⟨w.heap.size+1,1,none⟩ (.string U)).setCell ⟨w.heap.size+1,2,none⟩ (IP T)).setCell ⟨w.heap.size+1,3,none⟩ (IP Z)).setCell ⟨w.heap.size+1,4,none⟩ (.slice l O k)=w6 at bL d ce⊢;clear d0 d1 d2 d3 d4 g0 g1 g2 g3 g4;obtain⟨d0,d1,d2,d3,d4⟩:=xc5 d.o rfl rfl rfl rfl rfl;obtain⟨g0,g1,g2,g3,g4⟩:=xf5 d.o;have j:=bT d.o (.string V) (.string U) (IP T) (IP Z) (.slice l O k);obtain⟨e0,e1,e2,e3,e4⟩:=xc5 j rfl rfl rfl rfl rfl;have k6:=bq w6 (w.heap.size+1) (.string V) (.string U) (IP T) (IP Z) (.slice l O k);have gI:=ae (bL.o.kept k6 fun b hb=>by omega);have gJ:=ae (ce.o.box5 (Nat.le_succ _) (.string V) (.string U) (IP T) (IP Z) (.slice l O k));clear j k6 bL d ce;go_wp2_with fail;refine bodyPost_ret (v:=.tuple (Ia (Hw V U T Z l O k) 0)) (by simp[results,Tryz.results36,go_sem,e0,e1,e2,e3,e4]) rfl ?_;exact HR.o _ _ _ rfl (bH (fun b _ hb=>by show w.heap.size≤b;have h3:w.heap.size+2≤b:=hb;omega) gI.o) gJ.o
inductive Co where
 |leaf (op:ByteArray) (a b c n:Int)
 |one (op:ByteArray) (a:Int) (k:Co)
 |two (op:ByteArray) (k l:Co)
def Co.op:Co→ByteArray
 | .leaf o _ _ _ _=>o
 | .one o _ _=>o
 | .two o _ _=>o
def Co.va:Co→Int
 | .leaf _ a _ _ _=>a
 | .one _ a _=>a
 | .two _ _ _=>0
def Co.vb:Co→Int
 | .leaf _ _ b _ _=>b
 | .one _ _ _=>0
 | .two _ _ _=>0
def Co.vc:Co→Int
 | .leaf _ _ _ c _=>c
 | .one _ _ _=>0
 | .two _ _ _=>0
def Co.vn:Co→Int
 | .leaf _ _ _ _ n=>n
 | .one _ _ _=>0
 | .two _ _ _=>0
def Co.kids:Co→List Co
 | .leaf _ _ _ _ _=>[]
 | .one _ _ k=>[k]
 | .two _ k l=>[k,l]
def KidCo (w:World) (bl off:Nat) (P:Value→Prop):Prop:=
 ∃x0 x1 x2 x3 x4 x5,w.cell? ⟨bl,off,none⟩=some x0∧w.cell? ⟨bl,off+1,none⟩=some x1∧w.cell? ⟨bl,off+2,none⟩=some x2∧w.cell? ⟨bl,off+3,none⟩=some x3∧w.cell? ⟨bl,off+4,none⟩=some x4∧w.cell? ⟨bl,off+5,none⟩=some x5∧P (.agg #[x0,x1,x2,x3,x4,x5])
def CoIn (G:Nat→Prop) (w:World):Value→Co→Prop
 |v,.leaf op a b c n=>∃(ka:Option Addr) (kc:Nat),v=(Ib op a b c n ka 0 kc)∧kc≤maxLen
 |v,.one op a k=>∃(bl off:Nat) (kc:Nat),v=(Ib op a 0 0 0 (IQ bl off) 1 kc)∧(1≤kc∧kc≤maxLen)∧G bl∧KidCo w bl off (fun x=>CoIn G w x k)
 |v,.two op k l=>∃(bl off:Nat) (kc:Nat),v=(Ib op 0 0 0 0 (IQ bl off) 2 kc)∧(2≤kc∧kc≤maxLen)∧G bl∧KidCo w bl off (fun x=>CoIn G w x k)∧KidCo w bl (off+6) (fun x=>CoIn G w x l)
theorem CoIn.shape {G:Nat→Prop} {v:Value} {t:Co} (h:CoIn G w v t):∃(ka:Option Addr) (kc:Nat),v=(Ib t.op t.va t.vb t.vc t.vn ka t.kids.length kc)∧t.kids.length≤kc∧kc≤maxLen:=by
 cases t with
 |leaf=>obtain⟨ka,kc,rfl,h2⟩:=h;exact⟨ka,kc,rfl,Nat.zero_le _,h2⟩
 |one=>obtain⟨b,off,kc,rfl,⟨h2,a⟩,_⟩:=h;exact⟨_,kc,rfl,h2,a⟩
 |two=>obtain⟨b,off,kc,rfl,⟨h2,a⟩,_⟩:=h;exact⟨_,kc,rfl,h2,a⟩
theorem KidCo.kept {b:World} {S:Nat→Prop} {a off:Nat} {P Q:Value→Prop} (h:KidCo w a off P) (k:Keeps S w b) (hs:S a) (l:∀x,P x→Q x):KidCo b a off Q:=by
 obtain⟨i,g,f,e,d,c,r,q,p,o,n,m,j⟩:=h;exact⟨i,g,f,e,d,c,k.cell r hs,k.cell q hs,k.cell p hs,k.cell o hs,k.cell n hs,k.cell m hs,l _ j⟩
theorem KidCo.lt {a off:Nat} {P:Value→Prop} (h:KidCo w a off P):a<w.heap.size:=by
 obtain⟨i,g,f,e,d,c,b,_⟩:=h;exact World.block_lt_of_cell? w ⟨a,off,none⟩ b
theorem CoIn.kept {G:Nat→Prop} {c:World} {S:Nat→Prop} (k:Keeps S w c) (a:∀b,G b→S b):∀{t:Co} {v:Value},CoIn G w v t→CoIn G c v t
 | .leaf _ _ _ _ _,_,h=>h
 | .one _ _ _,_,⟨bl,off,kc,e,q,hb,h1⟩=>⟨bl,off,kc,e,q,hb,h1.kept k (a _ hb) fun _ hx=>CoIn.kept k a hx⟩
 | .two _ _ _,_,⟨bl,off,kc,e,q,hb,h1,h2⟩=>⟨bl,off,kc,e,q,hb,h1.kept k (a _ hb) fun _ hx=>CoIn.kept k a hx,h2.kept k (a _ hb) fun _ hx=>CoIn.kept k a hx⟩
theorem CoIn.same {G:Nat→Prop} {a:World} {t:Co} {v:Value} (h:CoIn G w v t) (k:Same w a):CoIn G a v t:=h.kept k fun _ _=>trivial
theorem KidCo.imp {a off:Nat} {P Q:Value→Prop} (h:KidCo w a off P) (b:∀x,P x→Q x):KidCo w a off Q:=h.kept (af (fun _=>True) w) trivial b
theorem CoIn.mono {G G':Nat→Prop} (a:∀b,b<w.heap.size→G b→G' b):∀{t:Co} {v:Value},CoIn G w v t→CoIn G' w v t
 | .leaf _ _ _ _ _,_,h=>h
 | .one _ _ _,_,⟨bl,off,kc,e,q,hb,h1⟩=>⟨bl,off,kc,e,q,a _ h1.lt hb,h1.imp fun _ hx=>CoIn.mono a hx⟩
 | .two _ _ _,_,⟨bl,off,kc,e,q,hb,h1,h2⟩=>⟨bl,off,kc,e,q,a _ h1.lt hb,h1.imp fun _ hx=>CoIn.mono a hx,h2.imp fun _ hx=>CoIn.mono a hx⟩
def em:=@CoIn.mono
theorem cg {j off:Nat} {a:Array Value} {e:TypeId} {o:Nat×Nat} {P:Value→Prop} (h:w.heap[j]?=some (.cells a e o)) {i g f d c b:Value} (h0:a[off]?=some i) (h1:a[off+1]?=some g) (h2:a[off+2]?=some f) (n:a[off+3]?=some d) (m:a[off+4]?=some c) (l:a[off+5]?=some b) (k:P (.agg #[i,g,f,d,c,b])):KidCo w j off P:=
 ⟨i,g,f,d,c,b,by rw[ai h];exact h0,by rw[ai h];exact h1,by rw[ai h];exact h2,by rw[ai h];exact n,by rw[ai h];exact m,by rw[ai h];exact l,k⟩
def Co.not (k:Co):Co:=.one GJ 0 k
def Co.and (k l:Co):Co:=.two GD k l
def Co.sub (a b:Int):Co:=.leaf GE a b 0 0
def Co.less (a b:Int):Co:=.leaf G4 a b 0 0
def Co.ex (v:Int) (k:Co):Co:=.one GB v k
def Co.bound (v:Int) (d f:Co):Co:=.ex v (.and d f)
def Co.imp (a b:Co):Co:=.not (.and a (.not b))
theorem jo {c:Value} {k:Co} {G:Nat→Prop} (o:CoIn G w c k) (t:∀b,w.heap.size≤b→G b) (r:∀e n v,e=.returned v→CoIn G n v k.not→Same w n→R e n):
 Calls Tryz.prog 98 #[c] w R:=by
 have u:=ae r;clear r;obtain⟨d,a,rfl,_,_⟩:=o.shape;have m:=ae o;clear o;generalize k.op=l at m⊢;generalize k.va=j at m⊢;generalize k.vb=i at m⊢;generalize k.vc=h at m⊢;generalize k.vn=g at m⊢;generalize k.kids.length=f at m⊢;go_enter Tryz.func98,Tryz.ntmps98;go_wp2_with fail;refine bodyPost_ret (v:=(Ib GJ 0 0 0 0 (some ⟨w.heap.size+1+1,0,none⟩) 1 1)) (by simp[results,Tryz.results98,go_sem]) rfl ?_;have p:Same w _:=(((af (fun _=>True) w).alloc (Hu l j i h g d f a)).alloc (Hu GJ 0 0 0 0 (some ⟨w.heap.size+1+1,0,none⟩) 1 1)).alloc (Hu l j i h g d f a);have q:=ag ((w.alloc (Hu l j i h g d f a)).alloc (Hu GJ 0 0 0 0 (some ⟨w.heap.size+1+1,0,none⟩) 1 1)) (Hu l j i h g d f a);have s:((w.alloc (Hu l j i h g d f a)).alloc (Hu GJ 0 0 0 0 (some ⟨w.heap.size+1+1,0,none⟩) 1 1)).heap.size=w.heap.size+1+1:=by simp
 rw[s]at q;exact u.o _ _ _ rfl ⟨w.heap.size+1+1,0,1,rfl,⟨Nat.le_refl _,by unfold maxLen;omega⟩,t _ (by omega),cg q rfl rfl rfl rfl rfl rfl (m.o.same p)⟩ p
theorem Gi {a:Int} {c:Value} {k:Co} {G:Nat→Prop} (p:CoIn G w c k) (u:∀b,w.heap.size≤b→G b) (s:∀e o v,e=.returned v→CoIn G o v (.ex a k)→Same w o→R e o):
 Calls Tryz.prog 146 #[IP a,c] w R:=by
 have x:=ae s;clear s;obtain⟨f,d,rfl,_,_⟩:=p.shape;have n:=ae p;clear p;generalize k.op=m at n⊢;generalize k.va=l at n⊢;generalize k.vb=j at n⊢;generalize k.vc=i at n⊢;generalize k.vn=h at n⊢;generalize k.kids.length=g at n⊢;go_enter Tryz.func146,Tryz.ntmps146;go_wp2_with fail;refine bodyPost_ret (v:=(Ib GB a 0 0 0 (some ⟨w.heap.size+1+1,0,none⟩) 1 1)) (by simp[results,Tryz.results146,go_sem]) rfl ?_;have q:Same w _:=(((af (fun _=>True) w).alloc (Hu m l j i h f g d)).alloc (Hu GB a 0 0 0 (some ⟨w.heap.size+1+1,0,none⟩) 1 1)).alloc (Hu m l j i h f g d);have r:=ag ((w.alloc (Hu m l j i h f g d)).alloc (Hu GB a 0 0 0 (some ⟨w.heap.size+1+1,0,none⟩) 1 1)) (Hu m l j i h f g d);have t:((w.alloc (Hu m l j i h f g d)).alloc (Hu GB a 0 0 0 (some ⟨w.heap.size+1+1,0,none⟩) 1 1)).heap.size=w.heap.size+1+1:=by simp
 rw[t]at r;exact x.o _ _ _ rfl ⟨w.heap.size+1+1,0,1,rfl,⟨Nat.le_refl _,by unfold maxLen;omega⟩,u _ (by omega),cg r rfl rfl rfl rfl rfl rfl (n.o.same q)⟩ q
theorem rY {a b:Int} (d:∀e c v,e=.returned v→(∀G,CoIn G c v (Co.sub a b))→Same w c→R e c):
 Calls Tryz.prog 147 (It a b) w R:=by
 have f:=ae d;clear d;go_enter Tryz.func147,Tryz.ntmps147;go_wp2_with fail;refine bodyPost_ret (v:=(Ib GE a b 0 0 none 0 0)) (by simp[results,Tryz.results147,go_sem]) rfl ?_;exact f.o _ _ _ rfl (fun G=>⟨none,0,rfl,Nat.zero_le _⟩) ((af (fun _=>True) w).alloc _)
theorem yD {a b:Int} (d:∀e c v,e=.returned v→(∀G,CoIn G c v (Co.less a b))→Same w c→R e c):
 Calls Tryz.prog 200 (It a b) w R:=by
 have f:=ae d;clear d;go_enter Tryz.func200,Tryz.ntmps200;go_wp2_with fail;refine bodyPost_ret (v:=(Ib G4 a b 0 0 none 0 0)) (by simp[results,Tryz.results200,go_sem]) rfl ?_;exact f.o _ _ _ rfl (fun G=>⟨none,0,rfl,Nat.zero_le _⟩) ((af (fun _=>True) w).alloc _)
theorem pi {c d:Value} {k l:Co} {G:Nat→Prop} (D:CoIn G w c k) (C:CoIn G w d l) (I:∀b,w.heap.size≤b→G b) (F:∀e A v,e=.returned v→CoIn G A v (.and k l)→Same w A→R e A):
 Calls Tryz.prog 99 #[c,d] w R:=by
 have J:=ae F;clear F;obtain⟨h,f,rfl,_,_⟩:=D.shape;have z:=ae D;clear D;generalize k.op=x at z⊢;generalize k.va=u at z⊢;generalize k.vb=t at z⊢;generalize k.vc=s at z⊢;generalize k.vn=r at z⊢;generalize k.kids.length=q at z⊢;obtain⟨g,a,rfl,_,_⟩:=C.shape;have y:=ae C;clear C;generalize l.op=p at y⊢;generalize l.va=o at y⊢;generalize l.vb=n at y⊢;generalize l.vc=m at y⊢;generalize l.vn=j at y⊢;generalize l.kids.length=i at y⊢;go_enter Tryz.func99,Tryz.ntmps99;go_wp2_with fail;refine bodyPost_ret (v:=(Ib GD 0 0 0 0 (some ⟨w.heap.size+1+1+1,0,none⟩) 2 2)) (by simp[results,Tryz.results99,go_sem]) rfl ?_;have B:Same w _:=((((af (fun _=>True) w).alloc (Hu x u t s r h q f)).alloc (Hu p o n m j g i a)).alloc (Hu GD 0 0 0 0 (some ⟨w.heap.size+1+1+1,0,none⟩) 2 2)).alloc (IK x u t s r h q f p o n m j g i a);have E:=ag (((w.alloc (Hu x u t s r h q f)).alloc (Hu p o n m j g i a)).alloc (Hu GD 0 0 0 0 (some ⟨w.heap.size+1+1+1,0,none⟩) 2 2)) (IK x u t s r h q f p o n m j g i a);have H:(((w.alloc (Hu x u t s r h q f)).alloc (Hu p o n m j g i a)).alloc (Hu GD 0 0 0 0 (some ⟨w.heap.size+1+1+1,0,none⟩) 2 2)).heap.size=w.heap.size+1+1+1:=by simp
 rw[H]at E;exact J.o _ _ _ rfl ⟨w.heap.size+1+1+1,0,2,rfl,⟨Nat.le_refl _,by unfold maxLen;omega⟩,I _ (by omega),cg E rfl rfl rfl rfl rfl rfl (z.o.same B),cg E rfl rfl rfl rfl rfl rfl (y.o.same B)⟩ B
theorem mY (a:Array Value) (w:World):(callFunc 60 a).run Tryz.prog w=.ok (.enter 60 a) w:=by kernel_rfl
theorem jp {t:Fm} (c:t.op≠G3) (u:∀k∈t.kids,qw 60 #[] false (fun _=>True) k):qw 60 #[] false (fun _=>True) t:=by
 intro w v R _ hv x;have z:=ae x;have y:=ae u;have j:(t.op.toList==[99,97,108,108])=false:=mC (decide_eq_false c);clear x u c;obtain⟨a,ka,kc,rfl,D,m,f,d⟩:=hv.open;have n:=sal w (Ht t.op t.name t.num a ka t.kids.length kc);have b:=ae n;have g:=ae (ag w (Ht t.op t.name t.num a ka t.kids.length kc));have q:Hid (KidsAt w (.slice ka t.kids.length kc) t.kids):=ae ⟨ka,kc,rfl,m,f,d⟩;unfold maxLen at f;have i:=xc1 g.o 0 rfl;have h:=xc1 g.o 4 rfl;clear hv n d;generalize c:t.op=t0 at b i h j⊢;generalize p:t.name=C at b i h⊢;generalize o:t.num=B at b i h⊢;clear c p o g;go_enter Tryz.func60,Tryz.ntmps60;go_wp2_with fail;refine gO (l:=t.kids) (Q:=fun _=>True) mY (fun _ _ _ _=>trivial) trivial (q.o.same b.o) y.o ?_;rintro e A rfl s;have r:=ae (b.o.tr s);clear s i h;go_wp2_with fail;exact z.o _ _ rfl r.o
theorem wR (t:Fm):t.calm→qw 60 #[] false (fun _=>True) t:=by
 induction t with
 |leaf o x n=>intro h;exact jp h (fun k c=>by cases c)
 |one o x n k ih=>
  intro h;refine jp h.1 (fun d c=>?_);simp only[Fm.kids,List.mem_cons,List.not_mem_nil,or_false]at c;rw[c];exact ih h.2
 |two o x n a b ih1 ih2=>
  intro h;refine jp h.1 (fun d c=>?_);simp only[Fm.kids,List.mem_cons,List.not_mem_nil,or_false]at c;rcases c with rfl|rfl
  ·exact ih1 h.2.1
  ·exact ih2 h.2.2
end
end Go.Proofs.YtojegnbejmeehaaGreatDoor
