/- Helpers of the proof of TopNames. -/
import Derived.RangeFuncNested
import Derived.RangeFuncBound
import Derived.RangeFuncCalls
import Derived.RangeFuncLeaves
import Derived.RangeFuncBox
import Derived.Shelf.Abstract
import Derived.Shelf.RegionOpen
import Derived.OwnWalkIn
import Derived.TacticsInMore
import Derived.LoopNIn
import Derived.LoopIn
import Derived.Test.YtojegnbejmeehaaGreatDoorJAU
namespace Go.Proofs.YtojegnbejmeehaaGreatDoor
open Go.RowKit
set_option maxRecDepth 10000
set_option maxHeartbeats 16000000
set_option linter.all false
section
attribute [local irreducible] wpQuiet ax au aQ
variable {R:Ending→World→Prop} {w:World}
theorem NameR.gk {l:List Nat} (h:NameR l):∀r∈l,Gk r:=by
 obtain⟨⟨c,r,rfl,h1,h2,_⟩,_⟩:=h;intro x hx;rcases List.mem_cons.1 hx with rfl|hx
 ·exact Cx h1
 ·exact yy (h2 x hx)
theorem NameR.size {l:List Nat} (h:NameR l):(enc l).size≤24:=by
 obtain⟨⟨c,r,rfl,_,_,a⟩,_⟩:=h;have :=Ds (c::r);simp at this;omega
theorem NameR.lone {l:List Nat} (h:NameR l):bG 2 l=some [.name (enc l),.fin]:=by
 have :=h.lex (l:=[]) (fun d a e=>by cases e) 1;rw[List.append_nil]at this;rw[this];rfl
theorem Be {L:List Qk} {a b:Tk} (h:L.map Qk.tk=[a,b]):∃c d,L=[c,d]∧c.tk=a:=by
 rcases L with _|⟨c,_|⟨d,_|⟨e,L⟩⟩⟩
 ·cases h
 ·simp at h
 ·simp at h;exact⟨c,d,rfl,h.1⟩
 ·simp at h
theorem gp {l:List Nat} (h:NameR l) (t:∀e m,e=.returned (.bool true)→Same w m→R e m):
 Calls Tryz.prog 87 #[.string (enc l)] w R:=by
 have x:=ae t;clear t;have f:=h.size;go_enter Tryz.func87,Tryz.ntmps87;go_wp2_with fail;refine q9 h.gk (by omega) h.lone ?_;rintro e y u L rfl o v _ n;obtain⟨A,z,rfl,h0⟩:=Be v;obtain⟨q,p⟩:=fv h0;obtain⟨a,c,rfl,i,g,r⟩:=o.toks.open;obtain⟨b,off,rfl,k,d,_⟩:=r 0 (by simp);simp only[List.getElem_cons_zero,Nat.zero_mul,Nat.add_zero]at k d;rw[q]at k;rw[p]at d;have j:=ae n;unfold maxLen at g;simp only[List.length_cons,List.length_nil]at i⊢;clear o v r n q p h0;generalize enc l=s at d f⊢;go_wp2_with fail;exact x.o _ _ (by simp) j.o
def KidsAt (w:World) (u:Value) (l:List Fm):Prop:=∃ka kc,u=.slice ka l.length kc∧l.length≤kc∧kc≤maxLen∧∀i (hi:i<l.length),∃bl off,ka=some ⟨bl,off,none⟩∧KidC w bl (off+i*5) l[i]
theorem KidsAt.same {a:World} {u:Value} {l:List Fm} (h:KidsAt w u l) (k:Same w a):KidsAt a u l:=by
 obtain⟨ka,kc,e,h1,h2,d⟩:=h;refine⟨ka,kc,e,h1,h2,fun i c=>?_⟩;obtain⟨g,off,f,b⟩:=d i c;exact⟨g,off,f,b.same k⟩
def qw (F:Nat) (caps:Array Value) (b:Bool) (Q:World→Prop) (k:Fm):Prop:=
 ∀(w:World) (v:Value) (R:Ending→World→Prop),Q w→FmR w v k→(∀e w',e=.returned (.bool b)→Same w w'→R e w')→Calls Tryz.prog F (#[v]++caps) w R
theorem oQ {F:Nat} {caps:Array Value} {l:List Fm} {u:Value} {Q:World→Prop} (D:∀c w,(callFunc F c).run Tryz.prog w=.ok (.enter F c) w) (z:∀w d,Q w→Same w d→Q d) (v:Q w) (C:KidsAt w u l) (x:∀k∈l,qw F caps false Q k)
 (y:∀e d,e=.returned (IP (-1))→Same w d→R e d):
 Calls Tryz.prog 144 #[u,.func (.func F) #[] caps] w R:=by
 have G:=ae y;clear y;obtain⟨ka,kc,rfl,E,q,a⟩:=C;have L:=ae a;have I:=ae x;have H:=ae z;have r:=ae v;unfold maxLen at q;clear a x z v;go_enter Tryz.func144,Tryz.ntmps144;go_wp2_with fail
 go_loopw [8] (fun i wr=>∃k:Nat,i=.int .i64 (k:Int)∧k≤l.length∧Hid (Same w wr)) (fun i _=>l.length -(intOf i).toNat)
 case atStart=>exact⟨0,rfl,Nat.zero_le _,ae (af _ _)⟩
 case round=>
  obtain⟨k,rfl,O,b⟩:=hrel;by_cases f:k<l.length
  ·obtain⟨T,off,rfl,U,B,A,_,_,_,o,n,m,j,h,a⟩:=L.o k f;have h_:=xs5 b.o o n m j h;clear o n m j h;obtain⟨o,n,m,j,h⟩:=h_;have p:=I.o _ (List.getElem_mem f);generalize l[k]=N at o n m j h a p;have g:=ae (a.same b.o);have J:=ae p;clear a p;go_wp2_with fail;refine J.o _ _ _ (H.o _ _ r.o b.o) g.o ?_;rintro e M rfl t;have s:=ae (b.o.tr t);clear t o n m j h;go_wp2_with fail;go_roundw
   case rel=>exact⟨k+1,by go_num,by omega,s⟩
   case measure=>simp[intOf];omega
  ·go_wp2_with fail;exact G.o _ _ rfl b.o
theorem gO {F:Nat} {caps:Array Value} {l:List Fm} {u:Value} {Q:World→Prop} (d:∀a w,(callFunc F a).run Tryz.prog w=.ok (.enter F a) w) (p:∀w b,Q w→Same w b→Q b) (j:Q w) (h:KidsAt w u l) (m:∀k∈l,qw F caps false Q k)
 (i:∀e b,e=.returned (.bool false)→Same w b→R e b):
 Calls Tryz.prog 96 #[u,.func (.func F) #[] caps] w R:=by
 have q:=ae i;clear i;obtain⟨ka,kc,rfl,o,n,c⟩:=id h;clear c;go_enter Tryz.func96,Tryz.ntmps96;go_wp2_with fail;refine oQ d p j h m ?_;rintro e r rfl g;have f:=ae g;clear g;go_wp2_with fail;exact q.o _ _ rfl f.o
theorem qs (a:Array Value) (w:World):(callFunc 186 a).run Tryz.prog w=.ok (.enter 186 a) w:=by kernel_rfl
theorem c8 (a:Array Value) (w:World):(callFunc 89 a).run Tryz.prog w=.ok (.enter 89 a) w:=by kernel_rfl
theorem dK (a:Array Value) (w:World):(callFunc 138 a).run Tryz.prog w=.ok (.enter 138 a) w:=by kernel_rfl
theorem Bh {F q:Nat} {k:Fm} (r:∀d w,(callFunc F d).run Tryz.prog w=.ok (.enter F d) w) (p:qw F #[] true (fun _=>True) k):
 qw 186 #[.pointer (IQ q 0)] false (fun w=>w.cell? ⟨q,0,none⟩=some (.func (.func F) #[] #[])) k:=by
 intro w v R m hv o;have s:=ae o;have t:=ae p;clear o p;obtain⟨a,ka,kc,rfl,A,h,n,g⟩:=hv.open;have c:=sal w (Ht k.op k.name k.num a ka k.kids.length kc);have b:=ae c;have i:=ae (hv.same c);have f:=ak c m trivial;clear hv c g m;generalize k.op=t0 at b i f⊢;generalize k.name=z at b i f⊢;generalize k.num=y at b i f⊢;generalize k.kids.length=x at b i h f⊢;go_enter Tryz.func186,Tryz.ntmps186;go_wp2_with fail;clear f;refine t.o _ _ _ trivial i.o ?_;rintro e u rfl l;have j:=ae (b.o.tr l);clear l;go_wp2_with fail;exact s.o _ _ rfl j.o
theorem fx {F:Nat} {t:Fm} {v:Value} (n:∀c w,(callFunc F c).run Tryz.prog w=.ok (.enter F c) w) (x:∀k∈t.kids,qw F #[] true (fun _=>True) k) (hv:FmR w v t)
 (u:∀e i,e=.returned (.bool true)→Same w i→R e i):
 Calls Tryz.prog 137 #[v,.func (.func F) #[] #[]] w R:=by
 have A:=ae u;have B:=ae x;clear u x;obtain⟨a,ka,kc,rfl,D,f,d,b⟩:=hv.open;have o:Hid (KidsAt w (.slice ka t.kids.length kc) t.kids):=ae ⟨ka,kc,rfl,f,d,b⟩;clear hv b;generalize t.op=t0;generalize t.name=l;generalize t.num=j;have s:=sal w (Ht t0 l j a ka t.kids.length kc);have q:(w.alloc (Ht t0 l j a ka t.kids.length kc)).heap.size=w.heap.size+1:=by simp
 have m:=ag (w.alloc (Ht t0 l j a ka t.kids.length kc)) (.cells #[.func (.func F) #[] #[]] 119);rw[q]at m;have g:=ae (s.alloc (.cells #[.func (.func F) #[] #[]] 119));have z:=ae m;clear m q s;go_enter Tryz.func137,Tryz.ntmps137;go_wp2_with fail;refine gO qs (fun w i h k=>ak k h trivial) (by rw[ai z.o];rfl) (o.o.same g.o) (fun k y=>Bh n (B.o k y)) ?_;rintro e C rfl r;have p:=ae (g.o.tr r);clear r;go_wp2_with fail;exact A.o _ _ rfl p.o
inductive GoodT:Fm→Prop where
 |vr (l:List Nat) (h:NameR l):GoodT (.leaf GG (enc l) 0)
 |nm (n:Int) (h0:0≤n) (h:n≤20):GoodT (.leaf GH GA n)
inductive GoodF:Fm→Prop where
 |bin (op:ByteArray) (a b:Fm) (ho:op=GL∨op=GO∨op=GF) (ha:GoodF a) (hb:GoodF b):GoodF (.two op GA 0 a b)
 |qu (op:ByteArray) (l:List Nat) (k:Fm) (ho:op=GB∨op=GC) (hl:NameR l) (hk:GoodF k):GoodF (.one op (enc l) 1 k)
 |isv (l:List Nat) (hl:NameR l):GoodF (.leaf GI (enc l) 0)
 |rel (op:ByteArray) (a b:Fm) (ho:op=GN∨op=GK∨op=GE∨op=GQ∨op=GR) (ha:GoodT a) (hb:GoodT b):GoodF (.two op GA 0 a b)
theorem ot {t:Fm} (r:GoodT t):qw 138 #[] true (fun _=>True) t:=by
 intro w v R _ hv p;have q:=ae p;clear p
 cases r with
 |vr l hl=>
  obtain⟨a,ka,kc,rfl,s,f⟩:=hv;unfold maxLen at f;have c:=sal w (Ht GG (enc l) 0 a ka 0 kc);have g:=ae c;have b:=ae (ag w (Ht GG (enc l) 0 a ka 0 kc));obtain⟨m,k,j,i,h⟩:=xc5 b.o rfl rfl rfl rfl rfl;clear c;go_enter Tryz.func138,Tryz.ntmps138;go_wp2_with fail;refine gp hl ?_;rintro e u rfl d;have h_:=xs5 d j h k m i;clear j h k m i;obtain⟨j,h,k,m,i⟩:=h_;have o:=ae (g.o.tr d);clear d;go_wp2_with fail;exact q.o _ _ rfl o.o
 |nm n h0 h1=>
  obtain⟨a,ka,kc,rfl,s,f⟩:=hv;unfold maxLen at f;have h2:n≤99:=by omega
  have c:=sal w (Ht GH GA n a ka 0 kc);have g:=ae c;have b:=ae (ag w (Ht GH GA n a ka 0 kc));obtain⟨m,k,j,i,h⟩:=xc5 b.o rfl rfl rfl rfl rfl;clear c;go_enter Tryz.func138,Tryz.ntmps138;go_wp2_with fail;exact q.o _ _ (by simp[h2]) g.o
theorem fC {d:ByteArray} {a:Int} {ka:Option Addr} {n kc:Nat} (h:n≤kc) (f:∀e c,e=.returned (.bool true)→Same w c→R e c):
 Calls Tryz.prog 136 (Ia (Hw d GA 0 a ka n kc) n) w R:=by
 have g:=ae f;clear f;have b:=ae ((af (fun _=>True) w).alloc (Ht d GA 0 a ka n kc));go_enter Tryz.func136,Tryz.ntmps136;go_wp2_with fail;exact g.o _ _ (by simp) b.o
theorem pV {t:Fm} (M:GoodF t):qw 89 #[] true (fun _=>True) t:=by
 induction M with
 |bin op a b ho _ _ iha ihb=>
  have E:=ae iha;have H:=ae ihb;clear iha ihb;intro w v R _ hv y;have D:=ae y;clear y;obtain⟨c,ka,kc,rfl,J,h,j,i⟩:=hv.open;have g:=sal w (Ht op GA 0 c ka 2 kc);have x:=ae g;have m:=ae (hv.same g);have d:=ae (ag w (Ht op GA 0 c ka 2 kc));obtain⟨s,r,q,p,o⟩:=xc5 d.o rfl rfl rfl rfl rfl;simp only[Fm.op,Fm.name,Fm.num,Fm.kids,List.length_cons,List.length_nil]at h m⊢;unfold maxLen at j;clear g i hv;rcases ho with rfl|rfl|rfl
  all_goals
   go_enter Tryz.func89,Tryz.ntmps89;go_wp2_with fail;refine fC (n:=2) h ?_;rintro e F rfl f;have h_:=xs5 f q o r s p;clear q o r s p;obtain⟨q,o,r,s,p⟩:=h_;have u:=ae (x.o.tr f);have z:=ae (m.o.same f);clear f;go_wp2_with fail;refine fx (t:=.two _ _ _ a b) c8 (fun k C=>?_) z.o ?_
   ·simp only[Fm.kids,List.mem_cons,List.not_mem_nil,or_false]at C;rcases C with rfl|rfl
    ·exact E.o
    ·exact H.o
   rintro e I rfl B;have A:=ae (u.o.tr B);clear B;go_wp2_with fail;exact D.o _ _ rfl A.o
 |qu op l k ho hl _ ihk=>
  have E:=ae ihk;clear ihk;intro w v R _ hv y;have D:=ae y;clear y;obtain⟨c,ka,kc,rfl,J,h,j,i⟩:=hv.open;have g:=sal w (Ht op (enc l) 1 c ka 1 kc);have x:=ae g;have m:=ae (hv.same g);have d:=ae (ag w (Ht op (enc l) 1 c ka 1 kc));obtain⟨s,r,q,p,o⟩:=xc5 d.o rfl rfl rfl rfl rfl;simp only[Fm.op,Fm.name,Fm.num,Fm.kids,List.length_cons,List.length_nil]at h m⊢;unfold maxLen at j;clear g i hv;rcases ho with rfl|rfl
  all_goals
   go_enter Tryz.func89,Tryz.ntmps89;go_wp2_with fail;refine gp hl ?_;rintro e F rfl f;have h_:=xs5 f q o r s p;clear q o r s p;obtain⟨q,o,r,s,p⟩:=h_;have u:=ae (x.o.tr f);have z:=ae (m.o.same f);clear f;go_wp2_with fail;refine fx (t:=.one _ _ _ k) c8 (fun N C=>?_) z.o ?_
   ·simp only[Fm.kids,List.mem_cons,List.not_mem_nil,or_false]at C;rw[C];exact E.o
   rintro e I rfl B;have A:=ae (u.o.tr B);clear B;go_wp2_with fail;exact D.o _ _ rfl A.o
 |isv l hl=>
  intro w v R _ hv y;have D:=ae y;clear y;obtain⟨a,ka,kc,rfl,L,G⟩:=hv;unfold maxLen at G;have g:=sal w (Ht GI (enc l) 0 a ka 0 kc);have x:=ae g;have d:=ae (ag w (Ht GI (enc l) 0 a ka 0 kc));obtain⟨s,r,q,p,o⟩:=xc5 d.o rfl rfl rfl rfl rfl;clear g;go_enter Tryz.func89,Tryz.ntmps89;go_wp2_with fail;refine gp hl ?_;rintro e F rfl f;have h_:=xs5 f q o r s p;clear q o r s p;obtain⟨q,o,r,s,p⟩:=h_;have u:=ae (x.o.tr f);clear f;go_wp2_with fail;exact D.o _ _ rfl u.o
 |rel op a b ho L hb=>
  have E:=ae (ot L);have H:=ae (ot hb);intro w v R _ hv y;have D:=ae y;clear y;obtain⟨c,ka,kc,rfl,J,h,j,i⟩:=hv.open;have g:=sal w (Ht op GA 0 c ka 2 kc);have x:=ae g;have m:=ae (hv.same g);have d:=ae (ag w (Ht op GA 0 c ka 2 kc));obtain⟨s,r,q,p,o⟩:=xc5 d.o rfl rfl rfl rfl rfl;simp only[Fm.op,Fm.name,Fm.num,Fm.kids,List.length_cons,List.length_nil]at h m⊢;unfold maxLen at j;clear g i hv;rcases ho with rfl|rfl|rfl|rfl|rfl
  all_goals
   go_enter Tryz.func89,Tryz.ntmps89;go_wp2_with fail;refine fC (n:=2) h ?_;rintro e F rfl f;have h_:=xs5 f q o r s p;clear q o r s p;obtain⟨q,o,r,s,p⟩:=h_;have u:=ae (x.o.tr f);have z:=ae (m.o.same f);clear f;go_wp2_with fail;refine fx (t:=.two _ _ _ a b) dK (fun k C=>?_) z.o ?_
   ·simp only[Fm.kids,List.mem_cons,List.not_mem_nil,or_false]at C;rcases C with rfl|rfl
    ·exact E.o
    ·exact H.o
   rintro e I rfl B;have A:=ae (u.o.tr B);clear B;go_wp2_with fail;exact D.o _ _ rfl A.o
def vN (d:Dl):Prop:=∃l,d.name=enc l∧NameR l∧0≤d.ord∧d.ord<3
def yT (F:Nat) (caps:Array Value) (b:Bool) (d:Dl):Prop:=
 ∀(w:World) (R:Ending→World→Prop),(∀e w',e=.returned (.bool b)→Same w w'→R e w')→Calls Tryz.prog F (#[.agg #[d.name,d.ord,d.spot]]++caps) w R
theorem vS {d:Dl} (h:vN d):yT 85 #[] true d:=by
 intro w R m;have o:=ae m;clear m;obtain⟨l,h1,h2,q,n⟩:=h;obtain⟨nm,i,g⟩:=d;dsimp only at *;subst h1;have j:=sal w (In (enc l) i g);have k:=ag w (In (enc l) i g);have a:=xc1 k 1 rfl;have f:=ae j;clear j k;go_enter Tryz.func85,Tryz.ntmps85;go_wp2_with fail;refine gp h2 ?_;rintro e p rfl b;replace a:=ak b a trivial;have c:=ae (f.o.tr b);clear b;go_wp2_with fail;exact o.o _ _ (by simp[n]) c.o
theorem pW {d:Dl} (h:vN d):yT 84 #[] false d:=by
 intro w R f;have g:=ae f;clear f;have b:=ae ((af (fun _=>True) w).alloc (In d.name d.ord d.spot));have i:=ae (vS h);go_enter Tryz.func84,Tryz.ntmps84;go_wp2_with fail;refine i.o _ _ ?_;rintro e j rfl c;have a:=ae (b.o.tr c);clear c;go_wp2_with fail;exact g.o _ _ rfl a.o
theorem pG {F:Nat} {caps:Array Value} {D:List Dl} {u:Value} (v:∀b w,(callFunc F b).run Tryz.prog w=.ok (.enter F b) w) (r:DeclsAt w u D) (s:∀d∈D,yT F caps false d)
 (t:∀e p,e=.returned (IP (-1))→Same w p→R e p):
 Calls Tryz.prog 133 #[u,.func (.func F) #[] caps] w R:=by
 have y:=ae t;clear t;obtain⟨ka,kc,rfl,x,n,a⟩:=r.open;have B:=ae a;have z:=ae s;unfold maxLen at n;clear a s r;go_enter Tryz.func133,Tryz.ntmps133;go_wp2_with fail
 go_loopw [8] (fun i wr=>∃k:Nat,i=.int .i64 (k:Int)∧k≤D.length∧Hid (Same w wr)) (fun i _=>D.length -(intOf i).toNat)
 case atStart=>exact⟨0,rfl,Nat.zero_le _,ae (af _ _)⟩
 case round=>
  obtain⟨k,rfl,E,g⟩:=hrel;by_cases c:k<D.length
  ·obtain⟨G,off,rfl,_,f⟩:=B.o k c;obtain⟨l,j,h⟩:=f k c;have h_:=xs3 g.o l j h;clear l j h;obtain⟨l,j,h⟩:=h_;have m:=z.o _ (List.getElem_mem c);clear f;generalize D[k]=d at l j h m;have A:=ae m;clear m;go_wp2_with fail;refine A.o _ _ ?_;rintro e C rfl q;have o:=ae (g.o.tr q);clear q l j h;go_wp2_with fail;go_roundw
   case rel=>exact⟨k+1,by go_num,by omega,o⟩
   case measure=>simp[intOf];omega
  ·go_wp2_with fail;exact y.o _ _ rfl g.o
theorem mi {F:Nat} {caps:Array Value} {D:List Dl} {u:Value} (c:∀a w,(callFunc F a).run Tryz.prog w=.ok (.enter F a) w) (i:DeclsAt w u D) (k:∀d∈D,yT F caps false d)
 (j:∀e g,e=.returned (.bool false)→Same w g→R e g):
 Calls Tryz.prog 83 #[u,.func (.func F) #[] caps] w R:=by
 have n:=ae j;clear j;obtain⟨ka,kc,rfl,m,l,b⟩:=i.open;clear b;go_enter Tryz.func83,Tryz.ntmps83;go_wp2_with fail;refine pG c i k ?_;rintro e o rfl h;have f:=ae h;clear h;go_wp2_with fail;exact n.o _ _ rfl f.o
theorem lm (a:Array Value) (w:World):(callFunc 84 a).run Tryz.prog w=.ok (.enter 84 a) w:=by kernel_rfl
theorem rJ {D:List Dl} {u:Value} (g:DeclsAt w u D) (j:∀d∈D,vN d) (i:∀e c,e=.returned (.bool true)→Same w c→R e c):
 Calls Tryz.prog 51 #[u] w R:=by
 have m:=ae i;clear i;obtain⟨ka,kc,rfl,l,k,a⟩:=g.open;clear a;go_enter Tryz.func51,Tryz.ntmps51;go_wp2_with fail;refine mi lm g (fun d h=>pW (j d h)) ?_;rintro e n rfl f;have b:=ae f;clear f;go_wp2_with fail;exact m.o _ _ rfl b.o
theorem jd {t:Fm} {v:Value} (hv:FmR w v t) (G:GoodF t) (hs:t.size≤2000) (H:t.deep≤30) (B:∀e z,e=.returned (.bool true)→Same w z→R e z):
 Calls Tryz.prog 55 #[v] w R:=by
 have I:=ae B;clear B;obtain⟨a,ka,kc,rfl,T,p,o,l⟩:=hv.open;have m:=sal w (Ht t.op t.name t.num a ka t.kids.length kc);have c:=ae m;have b:=ae (ag w (Ht t.op t.name t.num a ka t.kids.length kc));have J:Hid (∀i (O:i<t.kids.length),∃C off,ka=some ⟨C,off,none⟩∧KidC w C (off+i*5) t.kids[i]):=ae l;unfold maxLen at o;have n:=ae (hv.same m);obtain⟨j,h,g,f,d⟩:=xc5 b.o rfl rfl rfl rfl rfl;clear hv m l J b;generalize q:t.op=t0 at c n j h g f d⊢;generalize s:t.name=F at c n j h g f d⊢;generalize r:t.num=E at c n j h g f d⊢;generalize t.kids.length=D at c n p j h g f d⊢;clear q s r;go_enter Tryz.func55,Tryz.ntmps55;go_wp2_with fail;generalize w.alloc _=N at c n j h g f d⊢;refine Ec n.o hs H ?_;rintro e M rfl k;have h_:=xs5 k j h g f d;clear j h g f d;obtain⟨j,h,g,f,d⟩:=h_;have u:=ae (n.o.same k);have y:=ae (c.o.tr k);clear k;go_wp2_with fail;refine pV G _ _ _ trivial u.o ?_;rintro e L rfl A;have x:=ae (y.o.tr A);clear A;go_wp2_with fail;exact I.o _ _ rfl x.o
theorem zv {F:Nat} {caps:Array Value} (b:∀e a,e=.returned (.bool false)→Same w a→R e a):
 Calls Tryz.prog 52 #[IM,.func (.func F) #[] caps] w R:=by
 have c:=ae b;clear b;have g:∀(w:World) (R:Ending→World→Prop),(∀e a,e=.returned (IP (-1))→Same w a→R e a)→Calls Tryz.prog 86 #[IM,.func (.func F) #[] caps] w R:=by
  intro w R b;have c:=ae b;clear b;go_enter Tryz.func86,Tryz.ntmps86;go_wp2_with fail
  go_loopw [8] (fun i wr=>i=.int .i64 0∧Hid (Same w wr)) (fun _ _=>0)
  case atStart=>exact⟨rfl,ae (af _ _)⟩
  case round=>
   obtain⟨rfl,h⟩:=hrel;go_wp2_with fail;exact c.o _ _ rfl h.o
 have j:=ae g;clear g;go_enter Tryz.func52,Tryz.ntmps52;go_wp2_with fail;refine j.o _ _ ?_;rintro e k rfl f;have d:=ae f;clear f;go_wp2_with fail;exact c.o _ _ rfl d.o
def ProgR (w:World) (v:Value) (D:List Dl) (t:Fm):Prop:=∃va x0 x1 x2 x3 x4,v=.agg #[va,IM,x0,x1,x2,x3,x4]∧(D=[]→va=.slice none 0 0)∧DeclsAt w va D∧FmR w (.agg #[x0,x1,x2,x3,x4]) t
theorem ProgR.same {a:World} {v:Value} {D:List Dl} {t:Fm} (h:ProgR w v D t) (k:Same w a):ProgR a v D t:=by
 obtain⟨i,g,f,d,c,b,e,h0,h1,h2⟩:=h;exact⟨i,g,f,d,c,b,e,h0,h1.same k,h2.same k⟩
theorem ProgR.open {v:Value} {D:List Dl} {t:Fm} (h:ProgR w v D t):∃b ac a ka kc,v=(Ip b D.length ac none 0 0 t.op t.name t.num a ka t.kids.length kc)∧DeclsAt w (.slice b D.length ac) D∧FmR w (Hw t.op t.name t.num a ka t.kids.length kc) t∧D.length≤ac∧ac≤maxLen∧t.kids.length≤kc∧kc≤maxLen∧(D=[]→(Value.slice b D.length ac)=.slice none 0 0):=by
 obtain⟨n,m,l,k,j,i,rfl,h0,h1,h2⟩:=h;obtain⟨b,ac,rfl,g,f,_⟩:=h1.open;obtain⟨a,ka,kc,e,_,d,c⟩:=h2.shape;simp only[Value.agg.injEq,Array.mk.injEq,List.cons.injEq,and_true]at e;obtain⟨rfl,rfl,rfl,rfl,rfl⟩:=e;exact⟨b,ac,a,ka,kc,rfl,h1,h2,g,f,d,c,h0⟩
theorem Bg {v:Value} {D:List Dl} {t:Fm} (hv:ProgR w v D t) (U:∀d∈D,vN d) (T:GoodF t) (hs:t.size≤2000) (B:t.deep≤30) (I:∀e G,e=.returned (.bool true)→Same w G→R e G):
 Calls Tryz.prog 34 #[v] w R:=by
 have V:=ae I;clear I;obtain⟨J,ac,a,ka,kc,rfl,x,s,O,N,M,L,r⟩:=hv.open;have y:=ae r;have q:=sal w (Ik J D.length ac none 0 0 t.op t.name t.num a ka t.kids.length kc);have g:=ae q;have c:=ae (x.same q);have b:=ae (s.same q);have f:=ae (ag w (Ik J D.length ac none 0 0 t.op t.name t.num a ka t.kids.length kc));obtain⟨n,m,l,k,j,i,h⟩:=xc7 f.o rfl rfl rfl rfl rfl rfl rfl;unfold maxLen at N L;clear hv q x s f r;generalize t.op=t0 at g c b n m l k j i h⊢;generalize t.name=t1 at g c b n m l k j i h⊢;generalize t.num=t2 at g c b n m l k j i h⊢;generalize t.kids.length=tl at g c b M n m l k j i h⊢;generalize u:D.length=dl at g y c b O n m l k j i h⊢;have X:=ae u;clear u;go_enter Tryz.func34,Tryz.ntmps34;go_wp2_with fail;refine rJ c.o U ?_;rintro e w2 rfl p;have h_:=xs7 p n m l k j i h;clear n m l k j i h;obtain⟨n,m,l,k,j,i,h⟩:=h_;have A:=ae (b.o.same p);have F:=ae (g.o.tr p);clear p;go_wp2_with fail;refine zv ?_;rintro e Z rfl o;have h_:=xs7 o n m l k j i h;clear n m l k j i h;obtain⟨n,m,l,k,j,i,h⟩:=h_;have z:=ae (A.o.same o);have E:=ae (F.o.tr o);clear o;go_wp2_with fail;refine jd z.o T hs B ?_;rintro e Y rfl H;have C:=ae (E.o.tr H);clear H;go_wp2_with fail;exact V.o _ _ rfl C.o
end
section
open Go.RowKit Go.Shelf
attribute [local go_sem] Oper.semAt_some
variable {R:Ending→World→Prop} {w:World}
def dl0:Dl:=⟨GA,0,0⟩
def bwL {α:Type} (z:α) (D:List α) (k:Nat):List (Nat×α):=(List.range k).map fun j=>(D.length -1 -j,D.getD (D.length -1 -j) z)
theorem DQ {α:Type} (z:α) (D:List α) (k:Nat):bwL z D (k+1)=bwL z D k++[(D.length -1 -k,D.getD (D.length -1 -k) z)]:=by simp[bwL,List.range_succ]
theorem lp {α:Type} (z:α) (D:List α) (k:Nat):(bwL z D k).length=k:=by simp[bwL]
theorem pO {α:Type} (z:α) (D:List α) {m:Nat} (a:m<D.length):bwL z D (D.length -m)=bwL z D (D.length -1 -m)++[(m,D[m])]:=by
 have e:D.length -m=D.length -1 -m+1:=by omega
 rw[e,DQ];have b:D.length -1 -(D.length -1 -m)=m:=by omega
 rw[b,List.getD_eq_getElem?_getD,List.getElem?_eq_getElem a,Option.getD_some]
def Two (B b:Nat) (W W':World):Prop:=W'.heap[B]?=W.heap[B]?∧W'.heap[b]?=W.heap[b]?
theorem Two.refl (B b:Nat) (W:World):Two B b W W:=⟨rfl,rfl⟩
theorem Two.trans {B b:Nat} {U V W:World} (h:Two B b U V) (k:Two B b V W):Two B b U W:=⟨k.1.trans h.1,k.2.trans h.2⟩
theorem Two.c1 {B b:Nat} {U V:World} (h:Two B b U V) (o:Nat):V.cell? ⟨B,o,none⟩=U.cell? ⟨B,o,none⟩:=by simp[World.cell?,h.1]
theorem Two.c2 {B b:Nat} {U V:World} (h:Two B b U V) (o:Nat):V.cell? ⟨b,o,none⟩=U.cell? ⟨b,o,none⟩:=by simp[World.cell?,h.2]
theorem Two.of {B b:Nat} {S:Nat→Prop} {U V:World} (h:Keeps S U V) (h1:B<U.heap.size) (h2:b<U.heap.size) (c:S B) (a:S b):Two B b U V:=⟨h.block B h1 c,h.block b h2 a⟩
theorem dq {w a:World} (h:Below w.heap.size w a):Same w a:=⟨h.os,h.tape,h.output,h.size,fun k b _=>h.block k b⟩
theorem jJ {S:Nat→Prop} {n:Nat} {U V:World} (h:Keeps S U V) (c:n≤U.heap.size) (hs:∀b,b<n→S b):Below n U V:=⟨h.os,h.tape,h.output,h.size,fun k a=>h.block k (by omega) (hs k a)⟩
theorem gN {X Y:World} {row:Option Nat} {B N:Nat} {o:Obj} (h:X.heap[B]?=some o) (b:X.grownBy Y row) (a:∀r,row=some r→N≤r∧∃o:Obj,X.heap[r]?=some o∧o.isCells=false) (c:B<N):Y.heap[B]?=some o:=
 (b.block B (am h) (fun e=>by have :=(a B e.symm).1;omega)).trans h
theorem eX {X Y:World} {row:Option Nat} {B N:Nat} {cs:Array Value} {t:TypeId} {a:Nat×Nat} (h:X.heap[B]?=some (.cells cs t a)) (c:X.grownBy Y row) (b:∀r,row=some r→N≤r∧∃o:Obj,X.heap[r]?=some o∧o.isCells=false):Y.heap[B]?=some (.cells cs t a):=
 (c.block B (am h) (fun e=>by obtain⟨_,o,ho,d⟩:=b B e.symm;rw[h]at ho;cases ho;cases d)).trans h
def Fa (x:Nat×Dl):Array Value:=#[IP x.1,.agg #[x.2.name,x.2.ord,x.2.spot]]
theorem Gr (n:Nat) (O:1≤n) (l q b off cap:Nat) (D:List Dl) (U:D.length≤100000) (F:D.length≤cap) (J H:List (Nat×Dl)→World→Prop)
 (M:∀a x W,J a W→a.length<D.length→YieldAt Fence.wide (n -1) Tryz.prog l (Fa x) W fun e o=>
  (e=.returned (.bool true)∧J (a++[x]) o∧Two q b W o)∨(e=.returned (.bool false)∧H (a++[x]) o))
 (W:World) (t:W.cell? ⟨q,0,none⟩=some (.slice (IQ b off) D.length cap))
 (L:∀j (T:j<D.length),W.cell? ⟨b,off+j*3,none⟩=some (.string D[j].name)∧W.cell? ⟨b,off+j*3+1,none⟩=some (.int .i64 D[j].ord)∧W.cell? ⟨b,off+j*3+2,none⟩=some (.int .i64 D[j].spot)) (h0:J [] W):
 CallsIn Fence.wide n Tryz.prog 189 #[.func (.yield l) #[] #[],.pointer (IQ q 0)] W fun e o=>(∃v,e=.returned v)∧
  ((∃A,A=bwL dl0 D D.length∧J A o)∨(∃a,(∃k,k≤D.length∧a=bwL dl0 D k)∧H a o)):=by
 refine callsIn_of_wp Tryz.func189 rfl trivial ?_ rfl;simp only[Tryz.ntmps189,List.size_toArray,List.length_cons,List.length_nil,Nat.reduceAdd,Nat.reduceSub,Array.replicate_succ,Array.replicate_zero,List.push_toArray,List.append_toArray,List.nil_append,List.cons_append]
 gi_wp2
 gi_loopw [3] (fun i wr=>Two q b W wr∧((∃m:Nat,m<D.length∧i=.int .i64 (m:Int)∧J (bwL dl0 D (D.length -1 -m)) wr)∨(i=.int .i64 (-1)∧J (bwL dl0 D D.length) wr)))
  (fun i _=>(intOf i+1).toNat)
 case atStart=>
  refine⟨Two.refl _ _ _,?_⟩;by_cases C:D.length=0
  ·exact .inr ⟨by rw[C];rfl,by rw[C];exact h0⟩
  ·exact .inl ⟨D.length -1,by omega,by congr 1;omega,by rw[Nat.sub_self];exact h0⟩
 case round=>
  obtain⟨f,⟨m,E,rfl,g⟩|⟨rfl,g⟩⟩:=hrel
  ·obtain⟨z,y,u⟩:=L m E;replace z:=(f.c2 _).trans z;replace y:=(f.c2 _).trans y;replace u:=(f.c2 _).trans u;have G:=(f.c1 _).trans t;have c:=pO dl0 D E;generalize D[m]=d at z y u c;obtain⟨V,B,assign,body,I,N⟩:=M _ (m,d) wr g (by rw[lp];omega);simp only[Fa]at I
   gi_wp2
   refine N.mono ?_;rintro e X (⟨rfl,h,s⟩|⟨rfl,p⟩)
   ·rw[←c]at h
    gi_wp2
    go_roundw
    case rel=>
     refine⟨f.trans s,?_⟩;by_cases r:m=0
     ·subst r;exact .inr ⟨rfl,by rwa [Nat.sub_zero]at h⟩
     ·refine .inl ⟨m -1,by omega,by congr 1;omega,?_⟩;have :D.length -1 -(m -1)=D.length -m:=by omega
      rw[this];exact h
    case measure=>simp[intOf]
   ·gi_wp2
    refine bodyPost_ret (results_none rfl _ _ _) rfl ?_;exact⟨⟨_,rfl⟩,.inr ⟨_,⟨D.length -m,by omega,c.symm⟩,p⟩⟩
  ·gi_wp2
   go_end0;exact⟨⟨_,rfl⟩,.inl ⟨_,rfl,g⟩⟩
theorem xL (n:Nat) (i:1≤n) (a b off cap:Nat) (D:List Dl) (r:D.length≤100000) (c:D.length≤cap) (w:World) (f:a<w.heap.size) (o:b<w.heap.size)
 (s:w.cell? ⟨a,0,none⟩=some (.slice (IQ b off) D.length cap))
 (m:∀j (g:j<D.length),w.cell? ⟨b,off+j*3,none⟩=some (.string D[j].name)∧w.cell? ⟨b,off+j*3+1,none⟩=some (.int .i64 D[j].ord)∧w.cell? ⟨b,off+j*3+2,none⟩=some (.int .i64 D[j].spot)):
 SeqStopsK Fence.wide n Tryz.prog 189 #[.pointer (IQ a 0)] Fa (Two a b) (fun h=>h=bwL dl0 D D.length) (fun e=>∃k,k≤D.length∧e=bwL dl0 D k) D.length w:=fun l J x W q _ _ p h0=>by
 have d:Two a b w W:=Two.of (dq q) f o trivial trivial;exact Gr n i l a b off cap D r c J x p W ((d.c1 _).trans s) (fun j g=>by
  obtain⟨v,u,t⟩:=m j g;exact⟨(d.c2 _).trans v,(d.c2 _).trans u,(d.c2 _).trans t⟩) h0
theorem Gz {a:Option Addr} {b cap:Nat} {w:World}:Calls Tryz.prog 139 #[.slice a b cap] w fun e c=>e=.returned (.func (.func 189) #[] #[.pointer (IQ w.heap.size 0)])∧c=w.alloc (.cells #[.slice a b cap] 23):=by
 go_enter Tryz.func139,Tryz.ntmps139;go_wp2_with fail
 go_ret
 exact⟨rfl,rfl⟩
def eo (D:List Dl) (x:ByteArray):Int:=match D.reverse.find? (fun d=>decide (d.name=x))with |some d=>d.ord|none=>-1
theorem yL {α:Type} (z:α) (D:List α) {k:Nat} (a:k≤D.length):(bwL z D k).map Prod.snd=D.reverse.take k:=by
 apply List.ext_getElem
 ·simp[bwL,a]
 ·intro i h1 h2;have b:i<D.length:=by simp[bwL]at h1;omega
  simp[bwL,List.getElem_reverse,List.getD_eq_getElem?_getD,List.getElem?_eq_getElem (show D.length -1 -i<D.length by omega)]
theorem BQ {D:List Dl} {x:ByteArray} (h:∀p∈bwL dl0 D D.length,p.2.name≠x):eo D x=-1:=by
 unfold eo;have :D.reverse.find? (fun d=>decide (d.name=x))=none:=by
  rw[List.find?_eq_none];intro d a;have e:=yL dl0 D (Nat.le_refl D.length);rw[List.take_of_length_le (by simp)]at e;rw[←e]at a;obtain⟨p,b,rfl⟩:=List.mem_map.1 a
  simpa using h p b
 rw[this]
theorem BP {D:List Dl} {x:ByteArray} {k:Nat} {a:List (Nat×Dl)} {last:Nat×Dl} (g:k≤D.length) (e:bwL dl0 D k=a++[last]) (h:∀p∈a,p.2.name≠x) (f:last.2.name=x):eo D x=last.2.ord:=by
 unfold eo;have b:=yL dl0 D g;rw[e,List.map_append]at b;have :D.reverse.find? (fun d=>decide (d.name=x))=some last.2:=by
  rw[←List.take_append_drop k D.reverse,←b,List.find?_append,List.find?_append];have h1:(a.map Prod.snd).find? (fun d=>decide (d.name=x))=none:=by
   rw[List.find?_eq_none];intro d i;obtain⟨p,c,rfl⟩:=List.mem_map.1 i
   simpa using h p c
  rw[h1];simp[f]
 rw[this]
theorem py {b off cap:Nat} {D:List Dl} {x:ByteArray} (hD:D.length≤100000) (L:D.length≤cap) (hb:b<w.heap.size)
 (hc:∀j (hj:j<D.length),w.cell? ⟨b,off+j*3,none⟩=some (.string D[j].name)∧w.cell? ⟨b,off+j*3+1,none⟩=some (.int .i64 D[j].ord)∧w.cell? ⟨b,off+j*3+2,none⟩=some (.int .i64 D[j].spot))
 (hR:∀e V,e=.returned (IP (eo D x))→Same w V→R e V):
 Calls Tryz.prog 90 #[.slice (IQ b off) D.length cap,.string x] w R:=by
 refine(callsIn_wide (n:=4)).1 ?_;have HR:=ae hR;clear hR;refine callsIn_of_wp_marks Tryz.func90 rfl trivial ?_ rfl;simp only[Tryz.ntmps90,List.size_toArray,List.length_cons,List.length_nil,Nat.reduceAdd,Nat.reduceSub,Array.replicate_succ,Array.replicate_zero,List.push_toArray,List.append_toArray,List.nil_append,List.cons_append]
 gi_wp2_with (refine⟨trivial,?_⟩;gi_at_call 139;refine(callsIn_wide.2 Gz).mono ?_;rintro e V ⟨rfl,rfl⟩)
 have b0:=aw (aw (ag w (Iu x)) Hn) (.cells #[.slice (IQ b off) D.length cap] 23);have b1:=aw (ag (w.alloc (Iu x)) Hn) (.cells #[.slice (IQ b off) D.length cap] 23);have T:=ag ((w.alloc (Iu x)).alloc Hn) (.cells #[.slice (IQ b off) D.length cap] 23);have g:Same w (((w.alloc (Iu x)).alloc Hn).alloc (.cells #[.slice (IQ b off) D.length cap] 23)):=(((af _ w).alloc _).alloc _).alloc _;have a8:(((w.alloc (Iu x)).alloc Hn).alloc (.cells #[.slice (IQ b off) D.length cap] 23)).heap.size=w.heap.size+3:=by simp
 simp only[World.size_alloc]at b1 T;obtain⟨U,M⟩:∃U,((w.alloc (Iu x)).alloc Hn).alloc (.cells #[.slice (IQ b off) D.length cap] 23)=U:=⟨_,rfl⟩;rw[M]at b0 b1 T g a8⊢;clear M;have cE:Below w.heap.size w U:=⟨g.os,g.tape,g.output,g.size,fun k h=>g.block k h trivial⟩;refine wpIn_rangeFunc_ownH rfl (by omega) (gf:=189) (lb:=#[.pointer (some ⟨w.heap.size+1+1,0,none⟩)]) rfl trivial (enters_of Tryz.func189 (by kernel_rfl) rfl)
  (xL 3 (by omega) (w.heap.size+1+1) b off cap D hD L U (by omega) (by omega) (by rw[ai T];rfl) (fun j hj=>by
   obtain⟨c0,c1,c2⟩:=hc j hj;exact⟨g.cell c0 trivial,g.cell c1 trivial,g.cell c2 trivial⟩)) Two.trans (fun W l o o' hl _ _ _=>⟨by rw[World.putObj_heap_other (by omega)],by rw[World.putObj_heap_other (by omega)]⟩) (Below.refl _ _) (fun _=>rfl)
  (fun d W=>((∀p∈d,p.2.name≠x)∧W.heap[w.heap.size]?=some (.cells #[x] 9)∧W.heap[w.heap.size+1]?=(ID 0)∧W.heap[w.heap.size+1+1]?=some (.cells #[.slice (IQ b off) D.length cap] 23))∧Below w.heap.size w W)
  (fun c d W=>(c=.ret∧∃f last,d=f++[last]∧(∀p∈f,p.2.name≠x)∧last.2.name=x∧W.heap[w.heap.size+1]?=(ID last.2.ord))∧Below w.heap.size w W)
  (OwnFrom.and (fun s A B row hs C z=>⟨hs.1,gN hs.2.1 C z (by omega),gN hs.2.2.1 C z (by omega),gN hs.2.2.2 C z (by omega)⟩) (ownFrom_below (Nat.le_refl _) (by omega)))
  (fun c=>OwnFrom.and (fun s A B row hs C z=>by obtain⟨hc,f,last,e1,e2,e3,e4⟩:=hs;exact⟨hc,f,last,e1,e2,e3,gN e4 C z (by omega)⟩) (ownFrom_below (Nat.le_refl _) (by omega)))
  ⟨⟨by simp,b0,b1,T⟩,cE⟩
  (fun p a' W=>∃I,w.heap.size+2<I∧W.heap[I]?=some (.cells #[p.2.name,p.2.ord,p.2.spot] 33)∧a'={tmps:=#[.slice (IQ b off) D.length cap,.string x,undef,.pointer (IQ w.heap.size 0),.pointer (some ⟨w.heap.size+1,0,none⟩),undef,.pointer (IQ I 0),.slice (IQ b off) D.length cap,.func (.func 189) #[] #[.pointer (some ⟨w.heap.size+1+1,0,none⟩)],IP p.1,.agg #[p.2.name,p.2.ord,p.2.spot],undef,undef,undef,undef,undef,undef],defers:=[]})
  (fun p a' _ X Y row hs C z=>by obtain⟨I,h1,h2,h3⟩:=hs;exact⟨I,h1,eX h2 C z,h3⟩)
  ?assign ?body ?done ?stop
 case assign=>
  rintro l d ⟨m,⟨nm,od,sp⟩⟩ W K ⟨⟨O,q,a,t⟩,v⟩ G;have aL:w.heap.size+1+1<W.heap.size:=am t;have aH:=v.size;simp only[Fa]
  gi_wp2
  have ka:=sal W (In nm od sp);exact G _ _ ((KeepsOthers.alloc _ _).from _) (Two.of ka aL (by omega) trivial trivial) ⟨⟨O,aw q _,aw a _,aw t _⟩,v.trans (jJ ka aH fun _ _=>trivial)⟩ ⟨W.heap.size,by omega,ag W _,rfl⟩
 case body=>
  rintro l d ⟨m,⟨nm,od,sp⟩⟩ a' W hl ⟨r,z⟩ ⟨⟨O,q,a,t⟩,v⟩ ⟨I,dp,bX,rfl⟩ cH;dsimp only at bX⊢;obtain⟨z0,z1⟩:=xc2 bX rfl rfl;have n0:=xc1 q 0 rfl;have Z:=xc1 a 0 rfl;have f0:=ao a 0;by_cases hn:nm=x
  ·subst hn
   gi_wp2
   have kr:Keeps (·≠w.heap.size+1) W (W.setCell ⟨w.heap.size+1,0,none⟩ (IP od)):=(af _ W).but 0 _;exact⟨(KeepsOthers.setCell _ _ _).from _,⟨rfl,d,_,rfl,O,rfl,by rw[aj a];simp⟩,v.trans (jJ kr v.size fun y hy=>by omega)⟩
  ·have J:(nm.toList==x.toList)=false:=by rw[eP];exact decide_eq_false hn
   gi_wp2
   exact⟨KeepsFrom.refl _ _,Two.refl _ _ _,⟨fun p bL=>(List.mem_append.1 bL).elim (O p) (fun e=>by simp at e;subst e;exact hn),q,a,t⟩,v⟩
 case done=>
  rintro H ys W ch rfl ⟨⟨J,q,a,t⟩,v⟩ G;have Z:=xc1 a 0 rfl;have f0:=ao a 0
  gi_wp2
  have F:=(KeepsOthers.setCell W ⟨w.heap.size+1,0,none⟩ (IP (-1))).same H _ G rfl;refine⟨by simp,.inl ⟨_,_,rfl,run_takeDeferred F,?_⟩⟩;have ce:(W.setCell ⟨w.heap.size+1,0,none⟩ (IP (-1))).heap[w.heap.size+1]?=(ID (-1)):=by rw[aj a];simp
  have E:=eX ce (grownBy_putObj' _ H (.deferred none)) (N:=0) (fun r e=>by cases e;exact⟨Nat.zero_le _,_,F,rfl⟩);have i:=xc1 E 0 rfl;have kr:Keeps (·≠w.heap.size+1) W (W.setCell ⟨w.heap.size+1,0,none⟩ (IP (-1))):=(af _ W).but 0 _;have u:=(v.trans (jJ kr v.size fun y hy=>by omega)).trans (belowK_b (w:=w) (Nat.le_refl _) _ H _ (.deferred none) (by omega) F rfl rfl);refine⟨.int .i64 (-1),?_,HR.o _ _ (by rw[BQ J]) (dq u)⟩;simp[results,Tryz.f90,go_sem,i]
 case stop=>
  rintro H c d W ch ⟨k,g,rfl⟩ ⟨⟨rfl,f,last,e1,e2,e3,a⟩,v⟩ G
  gi_wp2
  refine⟨by simp,.inl ⟨_,_,rfl,run_takeDeferred G,?_⟩⟩;have E:=eX a (grownBy_putObj' _ H (.deferred none)) (N:=0) (fun r e=>by cases e;exact⟨Nat.zero_le _,_,G,rfl⟩);have i:=xc1 E 0 rfl;have u:=v.trans (belowK_b (w:=w) (Nat.le_refl _) W H _ (.deferred none) (by omega) G rfl rfl);refine⟨.int .i64 last.2.ord,?_,HR.o _ _ (by rw[BP g e1 e2 e3]) (dq u)⟩;simp[results,Tryz.f90,go_sem,i]
end
end Go.Proofs.YtojegnbejmeehaaGreatDoor
