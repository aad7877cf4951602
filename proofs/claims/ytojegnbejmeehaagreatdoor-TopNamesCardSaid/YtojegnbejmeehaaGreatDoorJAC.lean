/- Helpers of the proof of TopNames. -/
import Derived.OrdersHeld
import Derived.Still
import Derived.Deep.Quiet
import Derived.Tactics
import Derived.Tactics2
import Derived.Test.YtojegnbejmeehaaGreatDoorChecked
import Derived.Test.YtojegnbejmeehaaGreatDoorJAA
namespace Go.Proofs.YtojegnbejmeehaaGreatDoor
open Go.RowKit
set_option maxRecDepth 10000
set_option maxHeartbeats 16000000
set_option linter.all false
section
section
variable {P:Program} {ops:Array Oper} {Q:Exit→Act→World→Prop}
def dM (v:Value) (w:World):Result Next→Prop
 | .ok (.value u) w'=>w'=w∧u=v
 |_=>False
theorem gK {S S':World→Prop} (c:∀x,S' x→S x):∀(fuel:Nat) (b:Array Bool) (a:Act) (w:World),wpAnyH P .any ops Q S' fuel b a w→wpAnyH P .any ops Q S fuel b a w
 |0,_,_,_,h=>h
 |fuel+1,_,_,_,h=>⟨h.1,fun i f=>wpOp_mono (fun g e d=>⟨c _ d.1,gK c fuel _ g e d.2⟩) (h.2 i f)⟩
def NP (Q:Exit→Act→World→Prop):Exit→Act→World→Prop
 | .panic _,_,_=>False
 |e,a,w=>Q e a w
theorem NP.imp {Q:Exit→Act→World→Prop}:∀(e:Exit) (a:Act) (w:World),NP Q e a w→Q e a w:=fun e a w h=>by
 cases e<;>first|exact h|exact(h:False).elim
end
theorem aq {P:Program} {id:Nat} {Q:Exit→Act→World→Prop} {a:Act} {w:World} {l:List Oper} (c:P.follows .mixedOrders=true) (d:Region.lexB .any l.toArray=true)
 (h:wpQuiet P l.toArray (fun b=>Same w b) (fun e=>∀b,Same w b→Q .normal e b) l a):(Code.region id l.toArray true).wp P Q a w:=
 wp_region_quiet (C:=fun b=>Same w b) c d (al (af _ w)) (by simpa using h)
theorem aJ {P:Program} {o:Oper} {a:Act} {C:World→Prop} {K:Act→Prop} {v:Value} {E:Prop} {y:Nat→Option Bool} (hw:Region.wanted o y=true) (h:∀b,C b→o.quietAt P a C b v) (c:K (a.put o.dst v)):
 if Region.wanted o y then o.quiet P a C K else E:=by
 rw[hw,if_pos rfl];exact⟨v,h,c⟩
theorem aA {P:Program} {o:Oper} {a:Act} {C:World→Prop} {K:Act→Prop} {E:Prop} {y:Nat→Option Bool} (hw:Region.wanted o y=false) (b:E):
 if Region.wanted o y then o.quiet P a C K else E:=by
 rw[hw];exact b
attribute [go_sem] dM
end
theorem jS (a:Nat) (b:a<9223372036854775808):(BitVec.ofInt 64 (a:Int)).toNat=a:=by
 rw[BitVec.ofInt_natCast,BitVec.toNat_ofNat];exact Nat.mod_eq_of_lt (by omega)
theorem nD (a b:Nat) (d:a<9223372036854775808) (c:b<9223372036854775808):bits .and .i64 (a:Int) (b:Int)=((a&&&b:Nat):Int):=by
 have hx:a&&&b<2^63:=Nat.and_lt_two_pow _ (by omega)
 show IntKind.i64.wrap ((BitVec.ofInt 64 (a:Int)&&&BitVec.ofInt 64 (b:Int)).toNat:Int)=_
 rw[BitVec.toNat_and,jS a d,jS b c,IntKind.wrap_i64];omega
theorem iO (a b:Nat) (d:a<9223372036854775808) (c:b<9223372036854775808):bits .or .i64 (a:Int) (b:Int)=((a|||b:Nat):Int):=by
 have hx:a|||b<2^63:=Nat.or_lt_two_pow (by omega) (by omega)
 show IntKind.i64.wrap ((BitVec.ofInt 64 (a:Int)|||BitVec.ofInt 64 (b:Int)).toNat:Int)=_
 rw[BitVec.toNat_or,jS a d,jS b c,IntKind.wrap_i64];omega
theorem np (c t:Nat):c.testBit t=decide (c/2^t%2=1):=by
 rw[Nat.testBit_eq_decide_div_mod_eq]
theorem Fq (c t:Nat) (a:c<9223372036854775808):bits .and .i64 ((c:Int)/2^t) 1=if c.testBit t then 1 else 0:=by
 have h1:((c:Int)/2^t)=((c/2^t:Nat):Int):=by simp
 have h2:c/2^t<9223372036854775808:=Nat.lt_of_le_of_lt (Nat.div_le_self _ _) a;rw[h1];have :=nD (c/2^t) 1 h2 (by decide);rw[show((1:Nat):Int)=1 from rfl]at this;rw[this,Nat.and_one_is_mod,np];by_cases h:c/2^t%2=1
 ·simp[h]
 ·simp[h];omega
theorem gE (c t:Nat) (a:c<9223372036854775808):(bits .and .i64 ((c:Int)/2^t) 1==1)=c.testBit t:=by
 rw[Fq c t a]
 cases c.testBit t<;>rfl
def RowsAt (w:World) (v:Value) (ls:List (List Int)):Prop:=
 ∃vs:List Value,SliceAt w v vs∧vs.length=ls.length∧∀(i:Nat) (u:Value) (l:List Int),vs[i]?=some u→ls[i]?=some l→IntsAt w u l
theorem IntsAt.old {w a:World} {v:Value} {l:List Int} (h:IntsAt w v l) (k:Keeps (·<w.heap.size) w a):IntsAt a v l:=h.keep k h.lt
theorem RowsAt.old {w a:World} {v:Value} {b:List (List Int)} (h:RowsAt w v b) (k:Keeps (·<w.heap.size) w a):RowsAt a v b:=by
 obtain⟨vs,h1,h2,e⟩:=h;exact⟨vs,h1.keep k h1.lt,h2,fun i u l c d=>(e i u l c d).old k⟩
theorem RowsAt.same {w a:World} {v:Value} {b:List (List Int)} (h:RowsAt w v b) (k:Same w a):RowsAt a v b:=h.old (k.mono fun _ _ _=>trivial)
theorem RowsAt.open {w:World} {v:Value} {d:List (List Int)} (h:RowsAt w v d):∃a c,v=.slice a d.length c∧d.length≤c∧c≤maxLen∧
 (∀k (_:k<d.length),∃b off,a=some ⟨b,off,none⟩∧b<w.heap.size∧∀i (g:i<d.length),∃u,w.cell? ⟨b,off+i,none⟩=some u∧IntsAt w u d[i]):=by
 obtain⟨vs,⟨a,c,rfl,h1,h2,o⟩,l,n⟩:=h;refine⟨a,c,by rw[l],by omega,h2,fun k q=>?_⟩;rcases o with rfl|⟨b,off,p,e,r,rfl,j,m⟩
 ·simp at l;omega
 ·refine⟨b,off,rfl,am j,fun i g=>?_⟩;obtain⟨u,f⟩:∃u,vs[i]?=some u:=⟨_,List.getElem?_eq_getElem (by omega)⟩;exact⟨u,(ai j _).trans (m i u f),n i u _ f (List.getElem?_eq_getElem g)⟩
def BoolsAt (w:World) (v:Value) (l:List Bool):Prop:=SliceAt w v (l.map Value.bool)
theorem BoolsAt.same {w a:World} {v:Value} {l:List Bool} (h:BoolsAt w v l) (k:Same w a):BoolsAt a v l:=SliceAt.same h k
theorem BoolsAt.open {w:World} {v:Value} {l:List Bool} (h:BoolsAt w v l):∃a c,v=.slice a l.length c∧l.length≤c∧c≤maxLen∧
 (∀k (_:k<l.length),∃b off,a=some ⟨b,off,none⟩∧b<w.heap.size∧∀i (f:i<l.length),w.cell? ⟨b,off+i,none⟩=some (.bool (l[i]))):=by
 obtain⟨a,c,rfl,h1,h2,d⟩:=h;simp only[List.length_map]at *;refine⟨a,c,rfl,h1,h2,fun k j=>?_⟩;rcases d with d|⟨b,off,n,e,o,rfl,g,m⟩
 ·simp at d;subst d;simp at j
 ·refine⟨b,off,rfl,am g,fun i f=>?_⟩;rw[ai g];exact m i _ (by simp[f])
section
variable {R:Ending→World→Prop} {w:World}
theorem nq {a b:List Int} {k:Nat} (c:a.length=b.length) (h:∀i,i<k→a.getD i 0=b.getD i 0) (d:a.length≤k):a=b:=by
 apply List.ext_getElem c;intro i h1 h2;have :=h i (by omega)
 simpa [List.getD,List.getElem?_eq_getElem h1,List.getElem?_eq_getElem h2]using this
theorem tL {v u:Value} {a b:List Int} (hv:IntsAt w v a) (G:IntsAt w u b) (I:∀e E,e=.returned (.bool (decide (a=b)))→Same w E→R e E):
 Calls Tryz.prog 7 #[v,u] w R:=by
 have D:=ae I;clear I;obtain⟨va,Z,rfl,U,B,h⟩:=hv.open;obtain⟨ua,uc,rfl,T,z,g⟩:=G.open;have Y:=ae h;have X:=ae g;clear h g hv G;unfold maxLen at B z;by_cases c:a.length=b.length
 ·have r:=ae c;have l:(((a.length:Nat):Int) !=((b.length:Nat):Int))=false:=by rw[c];simp
  clear c;go_enter Tryz.func7,Tryz.ntmps7;go_wp2_with fail
  try rw[l]
  clear l
  go_loopw [5] (fun i wr=>∃k:Nat,i=.int .i64 k∧k≤a.length∧Hid (∀i,i<k→a.getD i 0=b.getD i 0)∧Same w wr) (fun i _=>a.length -(intOf i).toNat)
  case atStart=>exact⟨0,rfl,Nat.zero_le _,ae (fun i H=>absurd H (Nat.not_lt_zero _)),af _ _⟩
  case round=>
   obtain⟨k,rfl,hk,n,q⟩:=hrel;by_cases j:k<a.length
   ·have f:k<b.length:=by rw[←r.o];exact j
    obtain⟨bl,off,rfl,V,p⟩:=Y.o k j;obtain⟨ul,F,rfl,O,o⟩:=X.o k f;have A:=ak q (p k j) trivial;have t:=ak q (o k f) trivial;clear p o;obtain⟨x,hx⟩:∃x,x=a[k]:=⟨_,rfl⟩;obtain⟨y,s⟩:∃y,y=b[k]:=⟨_,rfl⟩;rw[←hx]at A;rw[←s]at t;have L:a.getD k 0=x:=by rw[hx];simp[List.getD,List.getElem?_eq_getElem j]
    have J:b.getD k 0=y:=by rw[s];simp[List.getD,List.getElem?_eq_getElem f]
    have N:=ae L;have M:=ae J;clear hx s L J;go_wp2_with fail
    go_quiet (fail)
    by_cases d:x=y
    ·have C:(x !=y)=false:=by simp[d]
     have m:=ae d;clear d;go_wp2_with fail;go_roundw
     case rel=>
      refine⟨k+1,by go_num,by omega,ae (fun i H=>?_),q.drewN _⟩;by_cases e:i=k
      ·subst e;rw[N.o,M.o,m.o]
      ·exact n.o i (by omega)
     case measure=>simp[intOf];omega
    ·have C:(x !=y)=true:=by simp[d]
     have m:=ae d;clear d;go_wp2_with fail;refine D.o _ _ (be ?_) (q.drewN _)
     symm
     rw[decide_eq_false_iff_not];intro e;exact m.o (by rw[←N.o,←M.o,e])
   ·go_wp2_with fail;refine D.o _ _ (be ?_) q
    symm
    rw[decide_eq_true_iff];exact nq r.o n.o (by omega)
 ·have l:(((a.length:Nat):Int) !=((b.length:Nat):Int))=true:=by rw[bne_iff_ne];intro e;exact c (by exact_mod_cast e)
  have r:=ae c;clear c;go_enter Tryz.func7,Tryz.ntmps7;go_wp2_with fail;refine D.o _ _ (be ?_) (af _ _)
  symm
  rw[decide_eq_false_iff_not];intro e;exact r.o (by rw[e])
def vO (F:Nat) (caps:Array Value) (p:List Int→Bool) (ls:List (List Int)) (w:World):Prop:=
 ∀u l,l∈ls→IntsAt w u l→∀w' R,Same w w'→(∀e w'',e=.returned (.bool (p l))→Same w' w''→R e w'')→Calls Tryz.prog F (#[u]++caps) w' R
def xj {α:Type} (p:α→Bool) (l:List α):Int:=match l.findIdx? p with |some i=>(i:Int)|none=>-1
theorem CL {α:Type} {p:α→Bool} {l:List α} {k:Nat} (a:k<l.length) (c:p l[k]=true) (d:∀i x,i<k→l[i]?=some x→p x=false):xj p l=k:=by
 unfold xj;have :l.findIdx? p=some k:=by
  rw[List.findIdx?_eq_some_iff_getElem];refine⟨a,c,fun j b=>?_⟩;have :=d j _ b (List.getElem?_eq_getElem (Nat.lt_trans b a))
  simpa using this
 rw[this]
theorem AB {α:Type} {p:α→Bool} {l:List α} (b:∀i x,i<l.length→l[i]?=some x→p x=false):xj p l=-1:=by
 unfold xj;have :l.findIdx? p=none:=by
  rw[List.findIdx?_eq_none_iff];intro x hx;obtain⟨i,a⟩:=List.getElem?_of_mem hx;exact b i x (List.getElem?_eq_some_iff.1 a).1 a
 rw[this]
theorem CM {α:Type} (p:α→Bool) (l:List α):decide (0≤xj p l)=l.any p:=by
 unfold xj
 cases h:l.findIdx? p with
 |none=>
  have :=List.findIdx?_eq_none_iff.1 h;simp only[];rw[show decide ((0:Int)≤-1)=false by decide]
  symm;rw[List.any_eq_false];intro x hx;simp[this x hx]
 |some i=>
  have :=(List.findIdx?_eq_some_iff_getElem.1 h);obtain⟨b,a,_⟩:=this;simp only[];rw[show decide ((0:Int)≤(i:Int))=true by simp]
  symm;rw[List.any_eq_true];exact⟨_,List.getElem_mem b,a⟩
theorem xg {F:Nat} {caps:Array Value} {p:List Int→Bool} {g:List (List Int)} {v:Value} (J:∀j w,(callFunc F j).run Tryz.prog w=.ok (.enter F j) w) (hv:RowsAt w v g) (C:vO F caps p g w)
 (E:∀e z,e=.returned (IP (xj p g))→Same w z→R e z):
 Calls Tryz.prog 275 #[v,.func (.func F) #[] caps] w R:=by
 have G:=ae E;clear E;obtain⟨a,c,rfl,L,y,f⟩:=hv.open;have N:=ae f;have M:=ae C;clear f hv C;unfold maxLen at y;go_enter Tryz.func275,Tryz.ntmps275;go_wp2_with fail
 go_loopw [8] (fun i wr=>∃k:Nat,i=.int .i64 k∧k≤g.length∧Hid (∀i x,i<k→g[i]?=some x→p x=false)∧Same w wr) (fun i _=>g.length -(intOf i).toNat)
 case atStart=>exact⟨0,rfl,Nat.zero_le _,ae (fun i x D=>absurd D (Nat.not_lt_zero _)),af _ _⟩
 case round=>
  obtain⟨k,rfl,V,m,r⟩:=hrel;by_cases d:k<g.length
  ·obtain⟨b,off,rfl,X,q⟩:=N.o k d;obtain⟨u,B,n⟩:=q k d;have t:=ak r B trivial;obtain⟨U,T,rfl,_⟩:=n.open;have s:=ae n;have H:=ae (List.getElem_mem d);have I:=ae (List.getElem?_eq_getElem d);have l:=ae (fun h1 h2=>CL (p:=p) d h1 h2);clear q n B;generalize g[k]=row at H I l s t;go_wp2_with fail;refine M.o _ row H.o s.o _ _ r ?_;rintro e O rfl A
   cases h:p row with
   |true=>
    have o:=ae h;clear h;go_wp2_with fail;exact G.o _ _ (cQ (l.o o.o m.o).symm) (r.tr A)
   |false=>
    have o:=ae h;clear h;go_wp2_with fail;go_roundw
    case rel=>
     refine⟨k+1,by go_num,by omega,ae (fun i x D hx=>?_),r.tr A⟩;by_cases e:i=k
     ·subst e;rw[I.o]at hx;obtain rfl:=Option.some.inj hx;exact o.o
     ·exact m.o i x (by omega) hx
    case measure=>simp[intOf];omega
  ·go_wp2_with fail;refine G.o _ _ (cQ ?_) r;obtain rfl:k=g.length:=by omega
   exact(AB m.o).symm
theorem qf {F:Nat} {caps:Array Value} {p:List Int→Bool} {b:List (List Int)} {v:Value} (c:∀a w,(callFunc F a).run Tryz.prog w=.ok (.enter F a) w) (hv:RowsAt w v b) (h:vO F caps p b w)
 (f:∀e d,e=.returned (.bool (b.any p))→Same w d→R e d):
 Calls Tryz.prog 253 #[v,.func (.func F) #[] caps] w R:=by
 have i:=ae f;clear f;go_enter Tryz.func253,Tryz.ntmps253;go_wp2_with fail;refine xg c hv h ?_;rintro e j rfl g;go_wp2_with fail;exact i.o _ _ (be (CM p b)) g
end
section
inductive Plan where
 |done
 |take (i:Nat) (r:Plan)
 |one (i:Nat) (r:Plan)
 |two (i j:Nat) (r s:Plan)
def Plan.len:Plan→Nat
 | .done=>0
 | .take _ r=>r.len+1
 | .one _ r=>r.len+1
 | .two _ _ r _=>r.len+1
section
variable {P:Program} {ops:Array Oper} {Q:Exit→Act→World→Prop}
def aQ (P:Program) (ops:Array Oper) (Q:Exit→Act→World→Prop) (i:Nat) (N:(World→Prop)→Act→World→Prop) (S:World→Prop) (a:Act) (w:World):Prop:=
 ∀K:Act→World→Prop,(∀(S':World→Prop) a' w',S' w'→(∀x,S' x→S x)→N S' a' w'→K a' w')→wpOp P ops Q i K a w
def ax (P:Program) (ops:Array Oper) (Q:Exit→Act→World→Prop):Plan→(World→Prop)→Act→World→Prop
 | .done,_,a,w=>Q .normal a w
 | .take i r,S,a,w=>∃o v,ops[i]?=some o∧
  ((Region.wanted o (yielded ops a.tmps)=true∧∀w',S w'→dM v w' ((execOp a.eval o).run P w'))∨(Region.wanted o (yielded ops a.tmps)=false∧v=undef))∧
  ax P ops Q r S (a.put o.dst v) w
 | .one i r,S,a,w=>aQ P ops Q i (ax P ops Q r) S a w
 | .two i j r s,S,a,w=>aQ P ops Q i (ax P ops Q r) S a w∧aQ P ops Q j (ax P ops Q s) S a w
def kG (ops:Array Oper):Plan→Array Bool→Bool
 | .done,listed=>(Region.ready .any ops listed).isEmpty
 | .take i r,listed=>(Region.ready .any ops listed).contains i&&Region.free .any ops listed i&&kG ops r (listed.setIfInBounds i true)
 | .one i r,listed=>(Region.ready .any ops listed==[i])&&kG ops r (listed.setIfInBounds i true)
 | .two i j r s,listed=>(Region.ready .any ops listed==[i,j])&&(r.len==s.len)&&kG ops r (listed.setIfInBounds i true)&&kG ops s (listed.setIfInBounds j true)
theorem fB (hs:Region.noSelect ops=true) (m:∀c d v a w,Q (.panic c) (Act.put a d v) w→Q (.panic c) a w):
 ∀(π:Plan) (b:Array Bool) (S:World→Prop) (a:Act) (w:World),kG ops π b=true→S w→ax P ops Q π S a w→wpAnyH P .any ops Q S π.len b a w
 | .done,b,S,a,w,hB,_,h=>⟨by simpa [kG]using hB,h⟩
 | .take i r,b,S,a,w,hB,hS,h=>by
  obtain⟨o,v,ho,x,h⟩:=h;simp only[kG,Bool.and_eq_true]at hB;obtain⟨⟨l,z⟩,g⟩:=hB;refine wpAnyH_take ho hs z l (fun c a w=>m c _ _ a w) ?_ hS (fB hs m r _ S _ w g hS h);rcases x with⟨h1,h2⟩|h1
  ·refine .inl ⟨h1,fun e q=>?_⟩;have :=h2 e q;unfold dM at this
   split at this
   ·obtain⟨rfl,rfl⟩:=this;assumption
   ·exact this.elim
  ·exact .inr h1
 | .one i r,b,S,a,w,hB,hS,h=>by
  simp only[kG,Bool.and_eq_true,beq_iff_eq]at hB;obtain⟨l,g⟩:=hB;refine wpAnyH_all l (by simp) fun j f=>?_;simp only[List.mem_singleton]at f;subst f;exact h _ fun S' p e h1 h2 n=>⟨h2 _ h1,gK h2 _ _ _ _ (fB hs m r _ S' p e g h1 n)⟩
 | .two i k r s,b,S,a,w,hB,hS,h=>by
  simp only[kG,Bool.and_eq_true,beq_iff_eq]at hB;obtain⟨⟨⟨l,y⟩,u⟩,t⟩:=hB;refine wpAnyH_all l (by simp) fun j f=>?_;rcases List.mem_cons.1 f with rfl|f
  ·exact h.1 _ fun S' p e h1 h2 n=>⟨h2 _ h1,gK h2 _ _ _ _ (fB hs m r _ S' p e u h1 n)⟩
  ·simp only[List.mem_singleton]at f;subst f;refine h.2 _ fun S' p e h1 h2 n=>⟨h2 _ h1,?_⟩
   show wpAnyH P .any ops Q S r.len _ _ _
   rw[y];exact gK h2 _ _ _ _ (fB hs m s _ S' p e t h1 n)
theorem az {id:Nat} {a:Act} {w:World} (π:Plan) (S:World→Prop) (f:P.follows .mixedOrders=true)
 (b:(Region.noSelect ops&&(π.len==ops.size)&&kG ops π (Array.replicate ops.size false))=true) (g:S w.drew) (h:ax P ops (NP Q) π S a w.drew):(Code.region id ops true).wp P Q a w:=by
 refine Code.wp_mono NP.imp ?_;simp only[Bool.and_eq_true,beq_iff_eq]at b;obtain⟨⟨h1,h2⟩,e⟩:=b;refine wp_region_held (S:=S) f ?_;rw[←h2];rw[←h2]at e;exact fB h1 (fun c d v a w h=>h) π _ S a _ e g h
theorem aW {S:World→Prop} {a:Act} {w:World} (h:Q .normal a w):ax P ops (NP Q) .done S a w:=h
theorem aD {i:Nat} {r:Plan} {S:World→Prop} {a:Act} {w:World} {o:Oper} {v:Value} (ho:ops[i]?=some o) (hw:Region.wanted o (yielded ops a.tmps)=true)
 (hv:∀b,S b→dM v b ((execOp a.eval o).run P b)) (h:ax P ops Q r S (a.put o.dst v) w):ax P ops Q (.take i r) S a w:=⟨o,v,ho,.inl ⟨hw,hv⟩,h⟩
theorem aF {i:Nat} {r:Plan} {S:World→Prop} {a:Act} {w:World} {o:Oper} (ho:ops[i]?=some o) (hw:Region.wanted o (yielded ops a.tmps)=false)
 (h:ax P ops Q r S (a.put o.dst undef) w):ax P ops Q (.take i r) S a w:=⟨o,_,ho,.inr ⟨hw,rfl⟩,h⟩
theorem ay {i:Nat} {N:(World→Prop)→Act→World→Prop} {S:World→Prop} {a:Act} {w:World} {o:Oper} (ho:ops[i]?=some o) (hw:Region.wanted o (yielded ops a.tmps)=true)
 (h:∀K:Act→World→Prop,(∀(S':World→Prop) a' w',S' w'→(∀x,S' x→S x)→N S' a' w'→K a' w')→o.wp P a w K Q):aQ P ops Q i N S a w:=fun K b=>by
 unfold wpOp;simp only[ho,hw,if_true];exact .inl (h K b)
theorem aP {i:Nat} {r:Plan} {S:World→Prop} {a:Act} {w:World} (h:aQ P ops Q i (ax P ops Q r) S a w):ax P ops Q (.one i r) S a w:=h
theorem rT {i j:Nat} {r s:Plan} {S:World→Prop} {a:Act} {w:World} (h:aQ P ops Q i (ax P ops Q r) S a w) (b:aQ P ops Q j (ax P ops Q s) S a w):ax P ops Q (.two i j r s) S a w:=⟨h,b⟩
theorem bZ {i:Nat} {N:(World→Prop)→Act→World→Prop} {S:World→Prop} {a:Act} {w b:World} {o:Oper} {v f r:Value} (s x:Operand) (t:TypeId) (ho:ops[i]?=some o) (hw:Region.wanted o (yielded ops a.tmps)=true)
 (c:o.op=.call {callee:=.builtin .append,args:=#[s,x],argTypes:=#[t,t]}) (hs:a.eval s=v) (hx:a.eval x=f)
 (g:(Builtin.append_ #[t,t] o.type #[v,f]).run P w=.ok r b) (S':World→Prop) (e:S' b) (d:∀x,S' x→S x) (h:N S' (a.put o.dst r) b):aQ P ops Q i N S a w:=
 ay ho hw fun K j=>by
  unfold Oper.wp execOp;simp only[c,resolve,invoke,builtin,Sem.run_bind,Sem.run_pure,Result.andThen_ok,List.map_toArray,List.map_cons,List.map_nil,hs,hx,g];exact j S' _ _ e d h
end
end
section
section
variable {P:Program} {ops:Array Oper} {Q:Exit→Act→World→Prop} {md:Region.Mode} {S:World→Prop} {z:Nat}
def fQ (P:Program) (md:Region.Mode) (ops:Array Oper) (Q:Exit→Act→World→Prop) (S:World→Prop) (z:Nat):Nat→Array Bool→Act→World→Prop
 |0,listed,a,w=>Region.ready md ops listed=[]∧Q .normal a w
 |fuel+1,listed,a,w=>
  (Region.ready md ops listed=[]→Q .normal a w)∧
  ∀i∈Region.ready md ops listed,wpOp P ops Q i (fun a' w'=>(i≠z→S w')∧fQ P md ops Q S z fuel (listed.setIfInBounds i true) a' w') a w
theorem kN:∀(fuel:Nat) (b:Array Bool) (a:Act) (w:World),fQ P md ops Q S z fuel b a w→wpAny P md ops Q fuel b a w
 |0,_,_,_,h=>h
 |fuel+1,_,_,_,h=>⟨h.1,fun i d=>wpOp_mono (fun f c e=>kN fuel _ f c e.2) (h.2 i d)⟩
def Closed (md:Region.Mode) (ops:Array Oper) (listed:Array Bool):Prop:=
 ∀j oj,ops[j]?=some oj→listed.getD j false=true→∀e∈oj.after,Region.binds md e=true→listed.getD e.on false=true
theorem Closed.start (n:Nat):Closed md ops (Array.replicate n false):=fun j b _ a=>by
 rw[Array.getD_eq_getD_getElem?,Array.getElem?_replicate]at a
 split at a<;>simp at a
theorem Closed.set {a:Array Bool} (h:Closed md ops a) {i:Nat} (m:i∈Region.ready md ops a):Closed md ops (a.setIfInBounds i true):=by
 intro j l c d e f g;obtain⟨h0,o,ho,b⟩:=mem_ready.1 m;by_cases k:i=j
 ·subst k;rw[ho]at c;obtain rfl:=Option.some.inj c;exact getD_set_true (b e f g)
 ·rw[getD_set_ne false k]at d;exact getD_set_true (h j l c d e f g)
def FA (md:Region.Mode) (ops:Array Oper) (j i:Nat):Bool:=
 match ops[j]? with
 |some o=>o.after.any fun e=>Region.binds md e&&(e.on==i)
 |none=>false
def mZ (md:Region.Mode) (ops:Array Oper) (z:Nat):Nat→List Nat
 |0=>[z]
 |n+1=>(List.range ops.size).filter fun i=>(mZ md ops z n).contains i||(mZ md ops z n).any fun j=>FA md ops j i
theorem kM {a:Array Bool} (q:Closed md ops a) (p:z∈Region.ready md ops a):∀n,∀i∈mZ md ops z n,i=z∨a.getD i false=true
 |0,i,hi=>by simp[mZ]at hi;exact .inl hi
 |n+1,i,hi=>by
  have m:=kM q p n;unfold mZ at hi;obtain⟨_,b⟩:=List.mem_filter.1 hi;rw[Bool.or_eq_true]at b;rcases b with b|b
  ·exact m i (by simpa using b)
  ·obtain⟨j,t,c⟩:=List.any_eq_true.1 b;unfold FA at c
   split at c
   ·rename_i o ho
    obtain⟨k,s,l⟩:=Array.any_eq_true.1 c;have h:=Array.getElem_mem s;generalize o.after[k]=e at l h;rw[Bool.and_eq_true,beq_iff_eq]at l;obtain⟨f,rfl⟩:=l;right;rcases m j t with rfl|r
    ·obtain⟨_,u,d,g⟩:=mem_ready.1 p;rw[ho]at d;obtain rfl:=Option.some.inj d;exact g e h f
    ·exact q j o ho r e h f
   ·cases c
def rh (md:Region.Mode) (ops:Array Oper) (z:Nat):Bool:=(List.range ops.size).all fun i=>(mZ md ops z 8).contains i
theorem uD {a:Array Bool} (f:rh md ops z=true) (e:Closed md ops a) (c:z∈Region.ready md ops a) {i:Nat} (d:i<ops.size) (b:i≠z):a.getD i false=true:=by
 have :=List.all_eq_true.1 f i (List.mem_range.2 d);exact(kM e c 8 i (by simpa using this)).resolve_left b
theorem lD {i:Nat} {r:Oper} {v:Value} (Z:rh md ops z=true) (G:ops[i]?=some r) (m:∀(j:Nat) (o:Oper) cs b,ops[j]?=some o→o.op≠.select cs b) (M:i≠z)
 (Y:∀c a w,Q (.panic c) (a.put r.dst v) w→Q (.panic c) a w):
 ∀(fuel:Nat) (d:Array Bool) (a:Act) (w:World),Closed md ops d→
  (∀j q,ops[j]?=some q→j≠i→d.getD j true=false→(∀e∈q.after,Region.binds md e=true→e.on≠i)→r.apart ops q=true)→
  i∈Region.ready md ops d→YieldsIf P ops S r v a→S w→
  fQ P md ops Q S z fuel (d.setIfInBounds i true) (a.put r.dst v) w→fQ P md ops Q S z (fuel+1) d a w:=by
 intro fuel
 induction fuel with
 |zero=>
  intro d a w _ _ n F E H;refine⟨fun h=>(by rw[h]at n;cases n),fun j u=>?_⟩;by_cases f:j=i
  ·subst f;exact F.wpOp G E ⟨fun _=>E,H⟩
  ·have :=ready_mono u f;rw[H.1]at this
   cases this
 |succ fuel ih=>
  intro d a w O g n F E H;refine⟨fun h=>(by rw[h]at n;cases n),fun j u=>?_⟩;by_cases f:j=i
  ·subst f;exact F.wpOp G E ⟨fun _=>E,H⟩
  ·have B:j≠z:=by
    rintro rfl;have h1:=uD Z O u (Array.getElem?_eq_some_iff.1 G).1 M;have h0:=(mem_ready.1 n).1;rcases Nat.lt_or_ge i d.size with t|t
    ·simp[t]at h0 h1;rw[h0]at h1;cases h1
    ·simp[Array.getElem?_eq_none t]at h1
   have h1:=H.2 j (ready_mono u f);obtain⟨p,q,s,D⟩:=mem_ready.1 u;have A:∀e∈q.after,Region.binds md e=true→e.on≠i:=fun e V X N=>by
    have h1:=D e V X;have h0:=(mem_ready.1 n).1;rw[N]at h1;rcases Nat.lt_or_ge i d.size with t|t
    ·simp[t]at h0 h1;rw[h0]at h1;cases h1
    ·simp[Array.getElem?_eq_none t]at h1
   have h2:=wpOp_putIf s (g j q s f p A) (fun cs b=>m i r cs b G) (fun cs b=>m j q cs b s) Y F h1;have l:∀k x,ops[k]?=some x→k≠i→(d.setIfInBounds j true).getD k true=false→
    (∀e∈x.after,Region.binds md e=true→e.on≠i)→r.apart ops x=true:=fun k x U L y J=>by
    refine g k x U L ?_ J;by_cases C:j=k
    ·subst C;exact p
    ·rw[getD_set_ne true C]at y;exact y
   refine wpOp_mono (fun a' T I=>⟨fun _=>I.2.1 B,ih (d.setIfInBounds j true) a' T (O.set u) l (ready_mono n (Ne.symm f)) I.1 (I.2.1 B) ?_⟩) h2;rw[Array.setIfInBounds_comm _ _ f];exact I.2.2
theorem cW {S S':World→Prop} (c:∀x,S' x→S x):∀(fuel:Nat) (b:Array Bool) (a:Act) (w:World),fQ P .any ops Q S' z fuel b a w→fQ P .any ops Q S z fuel b a w
 |0,_,_,_,h=>h
 |fuel+1,_,_,_,h=>⟨h.1,fun i g=>wpOp_mono (fun j e d=>⟨fun f=>c _ (d.1 f),cW c fuel _ j e d.2⟩) (h.2 i g)⟩
inductive PlanZ where
 |done
 |last
 |take (i:Nat) (r:PlanZ)
 |one (i:Nat) (r:PlanZ)
 |two (i j:Nat) (r s:PlanZ)
def PlanZ.len:PlanZ→Nat
 | .done=>0
 | .last=>1
 | .take _ r=>r.len+1
 | .one _ r=>r.len+1
 | .two _ _ r _=>r.len+1
def au (P:Program) (ops:Array Oper) (Q:Exit→Act→World→Prop) (z:Nat):PlanZ→(World→Prop)→Act→World→Prop
 | .done,_,a,w=>Q .normal a w
 | .last,_,a,w=>∀K:Act→World→Prop,(∀a' w',Q .normal a' w'→K a' w')→wpOp P ops Q z K a w
 | .take i r,S,a,w=>∃o v,ops[i]?=some o∧
  ((Region.wanted o (yielded ops a.tmps)=true∧∀w',S w'→dM v w' ((execOp a.eval o).run P w'))∨(Region.wanted o (yielded ops a.tmps)=false∧v=undef))∧
  au P ops Q z r S (a.put o.dst v) w
 | .one i r,S,a,w=>aQ P ops Q i (au P ops Q z r) S a w
 | .two i j r s,S,a,w=>aQ P ops Q i (au P ops Q z r) S a w∧aQ P ops Q j (au P ops Q z s) S a w
def gu (ops:Array Oper) (z:Nat):PlanZ→Array Bool→Bool
 | .done,listed=>(Region.ready .any ops listed).isEmpty
 | .last,listed=>(Region.ready .any ops listed==[z])&&(Region.ready .any ops (listed.setIfInBounds z true)).isEmpty
 | .take i r,listed=>(Region.ready .any ops listed).contains i&&!(i==z)&&Region.free .any ops listed i&&gu ops z r (listed.setIfInBounds i true)
 | .one i r,listed=>(Region.ready .any ops listed==[i])&&gu ops z r (listed.setIfInBounds i true)
 | .two i j r s,listed=>(Region.ready .any ops listed==[i,j])&&(r.len==s.len)&&gu ops z r (listed.setIfInBounds i true)&&gu ops z s (listed.setIfInBounds j true)
theorem fA (u:rh .any ops z=true) (hs:Region.noSelect ops=true) (t:∀c d v a w,Q (.panic c) (Act.put a d v) w→Q (.panic c) a w):
 ∀(π:PlanZ) (b:Array Bool) (S:World→Prop) (a:Act) (w:World),Closed .any ops b→gu ops z π b=true→S w→au P ops Q z π S a w→fQ P .any ops Q S z π.len b a w
 | .done,b,S,a,w,_,hB,_,h=>⟨by simpa [gu]using hB,h⟩
 | .last,b,S,a,w,hc,hB,hS,h=>by
  simp only[gu,Bool.and_eq_true,beq_iff_eq]at hB;obtain⟨e,g⟩:=hB;refine⟨fun h0=>(by rw[h0]at e;cases e),fun j f=>?_⟩;rw[e]at f;simp only[List.mem_singleton]at f;subst f;exact h _ fun p l n=>⟨fun y=>absurd rfl y,by simpa using g,n⟩
 | .take i r,b,S,a,w,hc,hB,hS,h=>by
  obtain⟨o,v,ho,D,h⟩:=h;simp only[gu,Bool.and_eq_true]at hB;obtain⟨⟨⟨e,A⟩,F⟩,g⟩:=hB;have q:i∈Region.ready .any ops b:=by simpa using e
  refine lD u ho (Region.noSelect_spec hs) (by simpa using A) (fun c a w=>t c _ _ a w) _ _ _ _ hc (Region.free_spec ho F) q ?_ hS (fA u hs t r _ S _ w (hc.set q) g hS h);rcases D with⟨h1,h2⟩|h1
  ·refine .inl ⟨h1,fun l x=>?_⟩;have :=h2 l x;unfold dM at this
   split at this
   ·obtain⟨rfl,rfl⟩:=this;assumption
   ·exact this.elim
  ·exact .inr h1
 | .one i r,b,S,a,w,hc,hB,hS,h=>by
  simp only[gu,Bool.and_eq_true,beq_iff_eq]at hB;obtain⟨e,g⟩:=hB;refine⟨fun h0=>(by rw[h0]at e;cases e),fun j f=>?_⟩;have m:=hc.set f;rw[e]at f;simp only[List.mem_singleton]at f;subst f;exact h _ fun S' p l h1 h2 n=>⟨fun _=>h2 _ h1,cW h2 _ _ _ _ (fA u hs t r _ S' p l m g h1 n)⟩
 | .two i k r s,b,S,a,w,hc,hB,hS,h=>by
  simp only[gu,Bool.and_eq_true,beq_iff_eq]at hB;obtain⟨⟨⟨e,E⟩,C⟩,B⟩:=hB;refine⟨fun h0=>(by rw[h0]at e;cases e),fun j f=>?_⟩;have m:=hc.set f;rw[e]at f;simp only[List.mem_cons,List.not_mem_nil,or_false]at f;rcases f with rfl|rfl
  ·exact h.1 _ fun S' p l h1 h2 n=>⟨fun _=>h2 _ h1,cW h2 _ _ _ _ (fA u hs t r _ S' p l m C h1 n)⟩
  ·refine h.2 _ fun S' p l h1 h2 n=>⟨fun _=>h2 _ h1,cW h2 _ _ _ _ ?_⟩
   show fQ P .any ops Q S' z r.len _ p l
   rw[E];exact fA u hs t s _ S' p l m B h1 n
theorem zq0 {id:Nat} {a:Act} {w:World} (z:Nat) (π:PlanZ) (S:World→Prop) (e:P.follows .mixedOrders=true)
 (b:(Region.noSelect ops&&(π.len==ops.size)&&rh .any ops z&&gu ops z π (Array.replicate ops.size false))=true) (f:S w.drew) (h:au P ops (NP Q) z π S a w.drew):(Code.region id ops true).wp P Q a w:=by
 refine Code.wp_mono NP.imp ?_;simp only[Bool.and_eq_true,beq_iff_eq]at b;obtain⟨⟨⟨h1,h2⟩,g⟩,i⟩:=b;refine wp_region_any e (kN (S:=S) (z:=z) _ _ _ _ ?_);have :=fA g h1 (fun c d v a w h=>h) π (Array.replicate ops.size false) S a w.drew (Closed.start _) i f h;rw[h2]at this;exact this
theorem aB {i:Nat} {r:PlanZ} {S:World→Prop} {a:Act} {w:World} {o:Oper} {v:Value} (ho:ops[i]?=some o) (hw:Region.wanted o (yielded ops a.tmps)=true)
 (hv:∀b,S b→dM v b ((execOp a.eval o).run P b)) (h:au P ops Q z r S (a.put o.dst v) w):au P ops Q z (.take i r) S a w:=⟨o,v,ho,.inl ⟨hw,hv⟩,h⟩
theorem aI {i:Nat} {r:PlanZ} {S:World→Prop} {a:Act} {w:World} (h:aQ P ops Q i (au P ops Q z r) S a w):au P ops Q z (.one i r) S a w:=h
theorem kP {i j:Nat} {r s:PlanZ} {S:World→Prop} {a:Act} {w:World} (h:aQ P ops Q i (au P ops Q z r) S a w) (b:aQ P ops Q j (au P ops Q z s) S a w):au P ops Q z (.two i j r s) S a w:=⟨h,b⟩
theorem aO {S:World→Prop} {a:Act} {w:World} {o:Oper} (ho:ops[z]?=some o) (hw:Region.wanted o (yielded ops a.tmps)=true)
 (h:∀K:Act→World→Prop,(∀c b,Q .normal c b→K c b)→o.wp P a w K Q):au P ops Q z .last S a w:=fun K d=>by
 unfold wpOp;simp only[ho,hw,if_true];exact .inl (h K d)
end
end
end Go.Proofs.YtojegnbejmeehaaGreatDoor
