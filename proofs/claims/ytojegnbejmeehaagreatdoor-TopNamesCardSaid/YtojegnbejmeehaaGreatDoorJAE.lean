/- Helpers of the proof of TopNames. -/
import Derived.Test.YtojegnbejmeehaaGreatDoorJAA
namespace Go.Proofs.YtojegnbejmeehaaGreatDoor
open Go.RowKit
set_option maxRecDepth 10000
set_option maxHeartbeats 16000000
set_option linter.all false
inductive Nd where
 |leaf (v:Int)
 |fork (t lo hi:Nat)
 deriving DecidableEq
def Under (L:List Nd) (i t:Nat):Prop:=i<L.length∧∀u lo hi,L[i]?=some (.fork u lo hi)→t<u
def NdOk (T:Nat) (L:List Nd) (i:Nat):Nd→Prop
 | .leaf v=>0≤v∧v≤1099511627776
 | .fork t lo hi=>t<T∧lo<i∧hi<i∧lo≠hi∧Under L lo t∧Under L hi t
structure WF (T:Nat) (L:List Nd):Prop where
 six:T≤6
 ok:∀i n,L[i]?=some n→NdOk T L i n
 nodup:L.Nodup
theorem WF.nil {T:Nat} (h:T≤6):WF T []:=⟨h,by simp,by simp⟩
theorem Under.snoc {L:List Nd} {i t:Nat} (n:Nd) (h:Under L i t):Under (L++[n]) i t:=by
 refine⟨by have :=h.1;simp;omega,fun u a b e=>h.2 u a b ?_⟩
 rwa [List.getElem?_append_left h.1]at e
theorem NdOk.snoc {T:Nat} {L:List Nd} {i:Nat} {n:Nd} (m:Nd) (h:NdOk T L i n):NdOk T (L++[m]) i n:=by
 cases n with
 |leaf v=>exact h
 |fork t lo hi=>obtain⟨a,b,c,d,e,f⟩:=h;exact⟨a,b,c,d,e.snoc m,f.snoc m⟩
theorem WF.snoc {T:Nat} {L:List Nd} {n:Nd} (h:WF T L) (g:NdOk T L L.length n) (j:n∉L):WF T (L++[n]):=by
 refine⟨h.six,fun i m c=>?_,?_⟩
 ·by_cases d:i<L.length
  ·rw[List.getElem?_append_left d]at c;exact(h.ok i m c).snoc n
  ·have :i=L.length:=by
    have :=(List.getElem?_eq_some_iff.1 c).1;simp at this;omega
   subst this;simp at c;subst c;exact g.snoc n
 ·rw[List.nodup_append];refine⟨h.nodup,by simp,?_⟩;intro a k b f e;simp at f;subst f;subst e;exact j k
def fs (L:List Nd) (n:Nd):List Nd×Nat:=if n∈L then(L,L.idxOf n)else(L++[n],L.length)
theorem jx {L:List Nd} {n:Nd} (h:n∈L):fs L n=(L,L.idxOf n):=if_pos h
theorem jw {L:List Nd} {n:Nd} (h:n∉L):fs L n=(L++[n],L.length):=if_neg h
theorem il {L:List Nd} {n:Nd}:(fs L n).1[(fs L n).2]?=some n:=by
 by_cases h:n∈L
 ·rw[jx h];have :=List.idxOf_lt_length_of_mem h;simp[List.getElem?_eq_getElem this]
 ·rw[jw h];simp
theorem yH {L:List Nd} {n:Nd}:(fs L n).2<(fs L n).1.length:=(List.getElem?_eq_some_iff.1 il).1
theorem yG {T:Nat} {L:List Nd} {n:Nd} (h:WF T L) (b:NdOk T L L.length n):WF T (fs L n).1:=by
 by_cases a:n∈L
 ·rw[jx a];exact h
 ·rw[jw a];exact h.snoc b a
theorem uS {L:List Nd} {n:Nd}:L.length≤(fs L n).1.length∧(fs L n).1.length≤L.length+1:=by
 by_cases a:n∈L
 ·rw[jx a];simp
 ·rw[jw a];simp
theorem fL {L:List Nd} {n:Nd}:L<+:(fs L n).1:=by
 by_cases a:n∈L
 ·rw[jx a];exact List.prefix_rfl
 ·rw[jw a];exact List.prefix_append _ _
def ev (L:List Nd) (c:Nat):Nat→Nat→Int
 |0,_=>-1
 |f+1,i=>match L[i]? with
  |some (.leaf v)=>v
  |some (.fork t lo hi)=>ev L c f (if c.testBit t then hi else lo)
  |none=>-1
theorem rq {T:Nat} {L:List Nd} (h:WF T L) (c:Nat):∀(f g i:Nat),i<f→i<g→ev L c f i=ev L c g i
 |0,_,_,h1,_=>absurd h1 (Nat.not_lt_zero _)
 |_,0,_,_,h2=>absurd h2 (Nat.not_lt_zero _)
 |f+1,g+1,i,h1,h2=>by
  unfold ev
  cases b:L[i]? with
  |none=>rfl
  |some n=>cases n with
   |leaf v=>rfl
   |fork t lo hi'=>
    have a:=h.ok i _ b;have d:(if c.testBit t then hi' else lo)<i:=by split;exact a.2.2.1;exact a.2.1
    exact rq h c f g _ (by omega) (by omega)
def val (L:List Nd) (i c:Nat):Int:=ev L c (i+1) i
theorem bR {L:List Nd} {i c:Nat} {v:Int} (a:L[i]?=some (.leaf v)):val L i c=v:=by
 unfold val ev;rw[a]
theorem co {T:Nat} {L:List Nd} (h:WF T L) {i c t a b:Nat} (e:L[i]?=some (.fork t a b)):val L i c=val L (if c.testBit t then b else a) c:=by
 conv=>lhs;unfold val ev
 rw[e];have d:=h.ok i _ e;have f:(if c.testBit t then b else a)<i:=by split;exact d.2.2.1;exact d.2.1
 exact rq h c _ _ _ f (by omega)
def D3 (t c d:Nat):Prop:=∀b,t≤b→c.testBit b=d.testBit b
def From (L:List Nd) (i t:Nat):Prop:=∀u lo hi,L[i]?=some (.fork u lo hi)→t≤u
theorem Under.from {L:List Nd} {i t:Nat} (h:Under L i t):From L i (t+1):=fun u a b e=>h.2 u a b e
theorem bY {T:Nat} {L:List Nd} (h:WF T L):∀(i t c d:Nat),From L i t→D3 t c d→val L i c=val L i d:=by
 intro i
 induction i using Nat.strongRecOn with
 |ind i ih=>
  intro t c d k g
  cases a:L[i]? with
  |none=>unfold val ev;rw[a]
  |some n=>
   cases n with
   |leaf v=>rw[bR a,bR a]
   |fork u lo hi'=>
    have f:=h.ok i _ a;have j:=k u lo hi' a;rw[co h a,co h a,←g u j];have e:D3 (u+1) c d:=fun b l=>g b (by omega)
    split
    ·exact ih _ f.2.2.1 _ c d f.2.2.2.2.2.from e
    ·exact ih _ f.2.1 _ c d f.2.2.2.2.1.from e
def ie (c t:Nat) (b:Bool):Nat:=(c|||2^t)^^^(if b then 0 else 2^t)
theorem fy (c t:Nat) (b:Bool):(ie c t b).testBit t=b:=by
 unfold ie
 cases b<;>simp[Nat.testBit_xor,Nat.testBit_or,Nat.testBit_two_pow_self]
theorem Ek (c t:Nat) (b:Bool) {i:Nat} (h:i≠t):(ie c t b).testBit i=c.testBit i:=by
 unfold ie;have h1:(2^t).testBit i=false:=by rw[Nat.testBit_two_pow];simp;omega
 cases b<;>simp[Nat.testBit_xor,Nat.testBit_or,h1]
theorem bM (c t:Nat) (b:Bool):D3 (t+1) (ie c t b) c:=fun i a=>Ek c t b (by omega)
theorem fk {T:Nat} {L:List Nd} (h:WF T L) {i t e f:Nat} (d:L[i]?=some (.fork t e f)) (a:∀c b,val L i (ie c t b)=val L i c) (c:Nat):val L e c=val L f c:=by
 have g:=h.ok i _ d;have h1:=a c true;have h2:=a c false;rw[co h d,fy,if_pos rfl,bY h f _ _ c g.2.2.2.2.2.from (bM c t true)]at h1;rw[co h d,fy,if_neg (by decide),bY h e _ _ c g.2.2.2.2.1.from (bM c t false)]at h2;rw[h1,h2]
theorem zS {α:Type} {l:List α} (h:l.Nodup) {i j:Nat} (b:i<l.length) (a:j<l.length) (e:l[i]=l[j]):i=j:=by
 have :=List.pairwise_iff_getElem.1 h;rcases Nat.lt_trichotomy i j with h1|h1|h1
 ·exact absurd e (this i j b a h1)
 ·exact h1
 ·exact absurd e.symm (this j i a b h1)
theorem Gn {T:Nat} {L:List Nd} (h:WF T L):∀(n i j:Nat),i+j≤n→i<L.length→j<L.length→(∀c,val L i c=val L j c)→i=j:=by
 intro n
 induction n using Nat.strongRecOn with
 |ind n ih=>
  intro i j J F E hv;have G:∀x y:Nd,L[i]?=some x→L[j]?=some y→x=y→i=j:=by
   intro x y hx m e;subst e;have h1:=List.getElem?_eq_some_iff.1 hx;have h2:=List.getElem?_eq_some_iff.1 m;exact zS h.nodup F E (h1.2.trans h2.2.symm)
  obtain⟨x,hx⟩:∃x,L[i]?=some x:=⟨_,List.getElem?_eq_getElem F⟩;obtain⟨y,m⟩:∃y,L[j]?=some y:=⟨_,List.getElem?_eq_getElem E⟩;have r:∀k t l a,k≤n→L[k]?=some (.fork t l a)→(∀c b,val L k (ie c t b)=val L k c)→(l+a<n)→False:=by
   intro k t l a I H d C;have f:=h.ok k _ H;exact f.2.2.2.1 (ih (l+a) C l a (Nat.le_refl _) f.2.2.2.2.1.1 f.2.2.2.2.2.1 (fk h H d))
  cases x with
  |leaf v=>
   cases y with
   |leaf u=>
    have :=hv 0;rw[bR hx,bR m]at this;exact G _ _ hx m (by rw[this])
   |fork t l a=>
    exfalso
    have f:=h.ok j _ m;have D:∀c,val L j c=v:=fun c=>by rw[←hv c,bR hx]
    have d:∀c b,val L j (ie c t b)=val L j c:=fun c b=>by rw[D,D]
    by_cases C:l+a<n
    ·exact r j t l a (by omega) m d C
    ·
     have o:=fk h m d;have p:∀c,val L l c=v:=fun c=>by
      have :=D (ie c t false);rw[co h m,fy,if_neg (by decide),bY h l _ _ c f.2.2.2.2.1.from (bM c t false)]at this;exact this
     have q:∀c,val L a c=v:=fun c=>by rw[←o c];exact p c
     have A:=ih (i+l) (by have :=f.2.1;omega) i l (Nat.le_refl _) F f.2.2.2.2.1.1 (fun c=>by rw[p,bR hx]);have z:=ih (i+a) (by have :=f.2.2.1;omega) i a (Nat.le_refl _) F f.2.2.2.2.2.1 (fun c=>by rw[q,bR hx]);exact f.2.2.2.1 (A.symm.trans z)
  |fork t l a=>
   have f:=h.ok i _ hx
   cases y with
   |leaf u=>
    exfalso
    have D:∀c,val L i c=u:=fun c=>by rw[hv c,bR m]
    have d:∀c b,val L i (ie c t b)=val L i c:=fun c b=>by rw[D,D]
    have o:=fk h hx d;have p:∀c,val L l c=u:=fun c=>by
     have :=D (ie c t false);rw[co h hx,fy,if_neg (by decide),bY h l _ _ c f.2.2.2.2.1.from (bM c t false)]at this;exact this
    have q:∀c,val L a c=u:=fun c=>by rw[←o c];exact p c
    have A:=ih (l+j) (by have :=f.2.1;omega) l j (Nat.le_refl _) f.2.2.2.2.1.1 E (fun c=>by rw[p,bR m]);have z:=ih (a+j) (by have :=f.2.2.1;omega) a j (Nat.le_refl _) f.2.2.2.2.2.1 E (fun c=>by rw[q,bR m]);exact f.2.2.2.1 (A.trans z.symm)
   |fork s lo2 hi2=>
    have g:=h.ok j _ m;rcases Nat.lt_trichotomy t s with B|B|B
    ·
     exfalso
     have d:∀c b,val L i (ie c t b)=val L i c:=fun c b=>by
      rw[hv,hv];exact bY h j (t+1) _ _ (fun u _ _ e=>by rw[m]at e;cases e;omega) (bM c t b)
     have o:=fk h hx d;have p:∀c,val L l c=val L j c:=fun c=>by
      have :=hv (ie c t false);rw[co h hx,fy,if_neg (by decide),bY h l _ _ c f.2.2.2.2.1.from (bM c t false),
       bY h j (t+1) _ c (fun u _ _ e=>by rw[m]at e;cases e;omega) (bM c t false)]at this
      exact this
     have A:=ih (l+j) (by have :=f.2.1;omega) l j (Nat.le_refl _) f.2.2.2.2.1.1 E p;have z:=ih (a+j) (by have :=f.2.2.1;omega) a j (Nat.le_refl _) f.2.2.2.2.2.1 E (fun c=>by rw[←o c];exact p c);exact f.2.2.2.1 (A.trans z.symm)
    ·subst B;have p:∀c,val L l c=val L lo2 c:=fun c=>by
      have :=hv (ie c t false);rw[co h hx,co h m,fy,if_neg (by decide),if_neg (by decide),bY h l _ _ c f.2.2.2.2.1.from (bM c t false),bY h lo2 _ _ c g.2.2.2.2.1.from (bM c t false)]at this;exact this
     have q:∀c,val L a c=val L hi2 c:=fun c=>by
      have :=hv (ie c t true);rw[co h hx,co h m,fy,if_pos rfl,if_pos rfl,bY h a _ _ c f.2.2.2.2.2.from (bM c t true),bY h hi2 _ _ c g.2.2.2.2.2.from (bM c t true)]at this;exact this
     have A:=ih (l+lo2) (by have :=f.2.1;have :=g.2.1;omega) l lo2 (Nat.le_refl _) f.2.2.2.2.1.1 g.2.2.2.2.1.1 p;have z:=ih (a+hi2) (by have :=f.2.2.1;have :=g.2.2.1;omega) a hi2 (Nat.le_refl _) f.2.2.2.2.2.1 g.2.2.2.2.2.1 q;exact G _ _ hx m (by rw[A,z])
    ·exfalso
     have d:∀c b,val L j (ie c s b)=val L j c:=fun c b=>by
      rw[←hv,←hv];exact bY h i (s+1) _ _ (fun u _ _ e=>by rw[hx]at e;cases e;omega) (bM c s b)
     have o:=fk h m d;have p:∀c,val L lo2 c=val L i c:=fun c=>by
      have :=hv (ie c s false);rw[co h m,fy,if_neg (by decide),bY h lo2 _ _ c g.2.2.2.2.1.from (bM c s false),
       bY h i (s+1) _ c (fun u _ _ e=>by rw[hx]at e;cases e;omega) (bM c s false)]at this
      exact this.symm
     have A:=ih (i+lo2) (by have :=g.2.1;omega) i lo2 (Nat.le_refl _) F g.2.2.2.2.1.1 (fun c=>(p c).symm);have z:=ih (i+hi2) (by have :=g.2.2.1;omega) i hi2 (Nat.le_refl _) F g.2.2.2.2.2.1 (fun c=>by rw[←o c];exact(p c).symm);exact g.2.2.2.1 (A.symm.trans z)
theorem rI {T:Nat} {L:List Nd} (h:WF T L) (c:Nat):∀i,val L i (c%2^T)=val L i c:=by
 intro i
 induction i using Nat.strongRecOn with
 |ind i ih=>
  cases a:L[i]? with
  |none=>unfold val ev;rw[a]
  |some n=>
   cases n with
   |leaf v=>rw[bR a,bR a]
   |fork u lo hi'=>
    have b:=h.ok i _ a;rw[co h a,co h a,Nat.testBit_mod_two_pow];simp only[b.1,decide_true,Bool.true_and]
    split
    ·exact ih _ b.2.2.1
    ·exact ih _ b.2.1
theorem AZ {T:Nat} {L:List Nd} (h:WF T L) {i j:Nat} (b:i<L.length) (a:j<L.length) (hv:∀c,c<2^T→val L i c=val L j c):i=j:=
 Gn h _ i j (Nat.le_refl _) b a fun c=>by
  rw[←rI h c i,←rI h c j];exact hv _ (Nat.mod_lt _ (Nat.pow_pos (by decide)))
theorem bI {T:Nat} {L d:List Nd} (h:WF T L) (j:WF T d) (g:L<+:d) (c:Nat):∀i,i<L.length→val d i c=val L i c:=by
 intro i
 induction i using Nat.strongRecOn with
 |ind i ih=>
  intro e;have f:d[i]?=L[i]?:=by
   obtain⟨M,rfl⟩:=g;exact List.getElem?_append_left e
  cases a:L[i]? with
  |none=>rw[List.getElem?_eq_none_iff]at a;omega
  |some n=>
   rw[a]at f
   cases n with
   |leaf v=>rw[bR a,bR f]
   |fork u lo hi'=>
    have b:=h.ok i _ a;rw[co h a,co j f]
    split
    ·exact ih _ b.2.2.1 b.2.2.2.2.2.1
    ·exact ih _ b.2.1 b.2.2.2.2.1.1
end Go.Proofs.YtojegnbejmeehaaGreatDoor
