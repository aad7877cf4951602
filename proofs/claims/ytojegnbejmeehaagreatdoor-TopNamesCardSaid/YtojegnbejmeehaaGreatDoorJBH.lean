/- Helpers of the proof of TopNames. -/
import Derived.Sort.OwnSortedInts
import Derived.Shelf.Unicode.DecodeAny
import Derived.Test.YtojegnbejmeehaaGreatDoorJAH
import Derived.Test.YtojegnbejmeehaaGreatDoorJAJ
import Derived.Test.YtojegnbejmeehaaGreatDoorJBG
namespace Go.Proofs.YtojegnbejmeehaaGreatDoor
open Go.RowKit
set_option maxRecDepth 10000
set_option maxHeartbeats 16000000
set_option linter.all false
section
section
variable {α β:Type} [DecidableEq α] [DecidableEq β]
def nh (l:List α) (x:α):List α:=if x∈l then l else l++[x]
def nub (l:List α):List α:=l.foldl nh []
theorem fi (l:List α) (x:α):nub (l++[x])=nh (nub l) x:=by simp[nub,List.foldl_append]
theorem Cf {l:List α} {x y:α}:y∈nh l x↔y∈l∨y=x:=by
 unfold nh
 split
 ·rename_i h
  constructor
  ·exact .inl
  ·rintro(h1|rfl)
   ·exact h1
   ·exact h
 ·simp
theorem gq {α:Type} {p:List α→Prop} (h0:p []) (h1:∀l x,p l→p (l++[x])) (l:List α):p l:=by
 have :∀n (l:List α),l.length=n→p l:=by
  intro n
  induction n with
  |zero=>intro l a;rw[List.eq_nil_of_length_eq_zero a];exact h0
  |succ n ih=>
   intro l a;have b:l≠[]:=by intro e;rw[e]at a;simp at a
   rw[←List.dropLast_concat_getLast b];exact h1 _ _ (ih _ (by simp[a]))
 exact this _ l rfl
theorem eN (l:List α):∀y,y∈nub l↔y∈l:=by
 induction l using gq with
 |h0=>intro y;simp[nub]
 |h1 l x ih=>intro y;rw[fi,Cf,ih,List.mem_append,List.mem_singleton]
def dP (l:List α):List Nat:=l.map fun x=>(nub l).idxOf x
theorem dU (l:List α):(dP l).length=l.length:=by simp[dP]
theorem zP (l:List α) (x:α):dP (l++[x])=dP l++[(nh (nub l) x).idxOf x]:=by
 unfold dP;rw[List.map_append,fi]
 congr 1
 apply List.map_congr_left;intro y a;unfold nh
 split
 ·rfl
 ·rw[List.idxOf_append,if_pos ((eN l y).2 a)]
theorem t8 {l:List α} {i:Nat} (a:i<l.length):(dP l)[i]?=some ((nub l).idxOf l[i]):=by
 unfold dP;rw[List.getElem?_map,List.getElem?_eq_getElem a];rfl
theorem AA {l:List α} {x y:α} (hx:x∈l) (h:l.idxOf x=l.idxOf y):x=y:=by
 have h1:=List.idxOf_lt_length_of_mem hx;have h2:l[l.idxOf x]'h1=x:=List.getElem_idxOf h1;have a:l.idxOf y<l.length:=by omega
 have b:l[l.idxOf y]'a=y:=List.getElem_idxOf a;rw[←h2,←b]
 congr 1
theorem BY {l:List α} {i j:Nat} (a:i<l.length) (b:j<l.length):(dP l)[i]?=(dP l)[j]?↔l[i]=l[j]:=by
 rw[t8 a,t8 b];constructor
 ·intro h;exact AA ((eN l _).2 (List.getElem_mem a)) (Option.some.inj h)
 ·intro h;rw[h]
theorem rU {l:List α}:∀x∈dP l,x<(nub l).length:=by
 intro x hx;obtain⟨y,a,rfl⟩:=List.mem_map.1 hx;exact List.idxOf_lt_length_of_mem ((eN l y).2 a)
theorem wG (l:List α):(nub l).length≤l.length:=by
 induction l using gq with
 |h0=>simp[nub]
 |h1 l x ih=>rw[fi];unfold nh;split<;>simp <;>omega
theorem EJ {l:List α} (h:0<l.length):0<(nub l).length:=by
 have :l[0]∈nub l:=(eN l _).2 (List.getElem_mem h)
 exact List.length_pos_of_mem this
theorem EK (φ:α→β) (l:List α):(nub (l.map φ)).length≤(nub l).length∧((nub (l.map φ)).length=(nub l).length→∀x∈l,∀y∈l,φ x=φ y→x=y):=by
 induction l using gq with
 |h0=>simp[nub]
 |h1 l x ih=>
  rw[List.map_append,List.map_cons,List.map_nil,fi,fi];unfold nh;by_cases hx:x∈l
  ·have h1:x∈nub l:=(eN l x).2 hx;have h2:φ x∈nub (l.map φ):=(eN _ _).2 (List.mem_map_of_mem hx);rw[if_pos h1,if_pos h2];refine⟨ih.1,fun h a d b c=>ih.2 h a ?_ b ?_⟩
   ·rcases List.mem_append.1 d with h|h
    ·exact h
    ·simp at h;subst h;exact hx
   ·rcases List.mem_append.1 c with h|h
    ·exact h
    ·simp at h;subst h;exact hx
  ·have h1:x∉nub l:=fun h=>hx ((eN l x).1 h);rw[if_neg h1];by_cases h2:φ x∈nub (l.map φ)
   ·rw[if_pos h2];refine⟨by simp;have :=ih.1;omega,fun h=>?_⟩;simp at h;have :=ih.1;omega
   ·rw[if_neg h2];refine⟨by simp;exact ih.1,fun h=>?_⟩;simp at h;have g:=ih.2 h;have f:∀a∈l,φ a≠φ x:=fun a d e=>h2 ((eN _ _).2 (e▸List.mem_map_of_mem d));intro a d b c e;rcases List.mem_append.1 d with d|d
    ·rcases List.mem_append.1 c with c|c
     ·exact g a d b c e
     ·simp at c;rw[c]at e;exact absurd e (f a d)
    ·simp at d;subst d;rcases List.mem_append.1 c with c|c
     ·exact absurd e.symm (f b c)
     ·simp at c;exact c.symm
theorem mL (φ:α→β) {l:List α} {x:α} (h:∀y∈l,φ y=φ x→y=x):(l.map φ).idxOf (φ x)=l.idxOf x:=by
 induction l with
 |nil=>rfl
 |cons y l ih=>
  rw[List.map_cons,List.idxOf_cons,List.idxOf_cons];by_cases e:y=x
  ·subst e;simp
  ·have h1:(φ y==φ x)=false:=by rw[beq_eq_false_iff_ne];exact fun h2=>e (h y (by simp) h2)
   have h2:(y==x)=false:=by rw[beq_eq_false_iff_ne];exact e
   rw[h1,h2,ih fun z a=>h z (by simp[a])]
theorem jn (φ:α→β) (l:List α) (h:∀x∈l,∀y∈l,φ x=φ y→x=y):dP (l.map φ)=dP l∧nub (l.map φ)=(nub l).map φ:=by
 have f:∀l:List α,(∀x∈l,∀y∈l,φ x=φ y→x=y)→nub (l.map φ)=(nub l).map φ:=by
  intro l
  induction l using gq with
  |h0=>intro _;simp[nub]
  |h1 l x d=>
   intro h;have d:=d fun a j b i=>h a (by simp[j]) b (by simp[i]);rw[List.map_append,List.map_cons,List.map_nil,fi,fi,d];unfold nh;by_cases hx:x∈nub l
   ·rw[if_pos hx,if_pos (List.mem_map_of_mem hx)]
   ·rw[if_neg hx,if_neg,List.map_append]
    ·rfl
    ·intro g;obtain⟨y,c,e⟩:=List.mem_map.1 g;have :y=x:=h y (by simp[(eN l y).1 c]) x (by simp) e;subst this;exact hx c
 refine⟨?_,f l h⟩;unfold dP;rw[f l h,List.map_map];apply List.map_congr_left;intro x hx;exact mL φ fun y c e=>h y ((eN l y).1 c) x hx e
theorem qR {l:List α} {m:List β} (a:l.length=m.length) (h:∀i (b:i<l.length) j (c:j<l.length),l[i]=l[j]↔m[i]'(a▸b)=m[j]'(a▸c)):dP l=dP m∧(nub l).length=(nub m).length:=by
 have p:(l.zip m).map Prod.fst=l:=by rw[List.map_fst_zip];omega
 have o:(l.zip m).map Prod.snd=m:=by rw[List.map_snd_zip];omega
 have d:∀x∈l.zip m,∃i,∃(b:i<l.length),x=(l[i],m[i]'(a▸b)):=fun x hx=>by
  obtain⟨i,b,rfl⟩:=List.getElem_of_mem hx;have g:i<l.length:=by simp at b;omega
  exact⟨i,g,by simp⟩
 have n:=jn Prod.fst (l.zip m) (fun x hx y f e=>by
  obtain⟨i,b,rfl⟩:=d x hx;obtain⟨j,c,rfl⟩:=d y f;simp only at e;exact Prod.ext e ((h i b j c).1 e))
 have k:=jn Prod.snd (l.zip m) (fun x hx y f e=>by
  obtain⟨i,b,rfl⟩:=d x hx;obtain⟨j,c,rfl⟩:=d y f;simp only at e;exact Prod.ext ((h i b j c).2 e) e)
 rw[p]at n;rw[o]at k;refine⟨n.1.trans k.1.symm,?_⟩;rw[n.2,k.2,List.length_map,List.length_map]
theorem zQ {l:List α} {m:List β} (a:l.length=m.length) (h:∀i (b:i<l.length) j (c:j<l.length),l[i]=l[j]→m[i]'(a▸b)=m[j]'(a▸c)):
 (nub m).length≤(nub l).length∧((nub m).length=(nub l).length→dP l=dP m):=by
 have s:(l.zip m).map Prod.fst=l:=by rw[List.map_fst_zip];omega
 have o:(l.zip m).map Prod.snd=m:=by rw[List.map_snd_zip];omega
 have k:∀x∈l.zip m,∃i,∃(b:i<l.length),x=(l[i],m[i]'(a▸b)):=fun x hx=>by
  obtain⟨i,b,rfl⟩:=List.getElem_of_mem hx;have d:i<l.length:=by simp at b;omega
  exact⟨i,d,by simp⟩
 have g:=jn Prod.fst (l.zip m) (fun x hx y q e=>by
  obtain⟨i,b,rfl⟩:=k x hx;obtain⟨j,c,rfl⟩:=k y q;simp only at e;exact Prod.ext e (h i b j c e))
 have f:=EK Prod.snd (l.zip m);rw[s]at g;rw[o]at f;have n:(nub l).length=(nub (l.zip m)).length:=by rw[g.2,List.length_map]
 refine⟨by rw[n];exact f.1,fun r=>?_⟩;have p:=jn Prod.snd (l.zip m) (f.2 (by rw[r,n]));rw[o]at p;exact g.1.trans p.1.symm
end
def gF {α:Type} [DecidableEq α] (l:List α) (p:α):Nat:=l.idxOf p
theorem l9 {α:Type} [DecidableEq α] {l:List α} {p:α} (h:p∈l):gF l p<l.length:=List.idxOf_lt_length_of_mem h
theorem uP {α:Type} [DecidableEq α] {l:List α} {p:α} (h:p∉l):gF l p=l.length:=List.idxOf_eq_length h
theorem uQ {α β:Type} [DecidableEq α] [DecidableEq β] (φ:α→β) {l:List α} {x:α} (h:∀y∈l,φ y=φ x→y=x):gF (l.map φ) (φ x)=gF l x:=mL φ h
section
variable {σ τ κ μ:Type} [DecidableEq κ] [DecidableEq μ]
def eL (key:σ→κ) (st:List σ×List Nat) (t:σ):List σ×List Nat:=
 (if key t∈st.1.map key then st.1 else st.1++[t],st.2++[(st.1.map key).idxOf (key t)])
def aT (key:σ→κ) (l:List σ) (ts:List σ):List σ×List Nat:=ts.foldl (eL key) (l,[])
def el (rowf:σ→List σ) (key:σ→κ) (st:List σ×List (List Nat)):List σ×List (List Nat):=
 match st.1[st.2.length]? with
 |none=>st
 |some s=>((aT key st.1 (rowf s)).1,st.2++[(aT key st.1 (rowf s)).2])
def bfs (rowf:σ→List σ) (key:σ→κ) (s0:σ):Nat→List σ×List (List Nat)
 |0=>([s0],[])
 |k+1=>el rowf key (bfs rowf key s0 k)
theorem nr (key:σ→κ) (a:List σ×List Nat) (t:σ):a.1<+:(eL key a t).1:=by
 unfold eL;simp only
 split
 ·exact List.prefix_rfl
 ·exact List.prefix_append _ _
theorem mf (key:σ→κ):∀(ts:List σ) (a:List σ×List Nat),a.1<+:(ts.foldl (eL key) a).1
 | [],_=>List.prefix_rfl
 |t::ts,a=>(nr key a t).trans (mf key ts _)
theorem eV (key:σ→κ) (l ts:List σ) (t:σ):aT key l (ts++[t])=eL key (aT key l ts) t:=by simp[aT,List.foldl_append]
theorem gr (key:σ→κ) (l ts:List σ):l<+:(aT key l ts).1:=mf key ts (l,[])
theorem me {l m:List κ} {x:κ} (h:l<+:m) (hx:x∈l):m.idxOf x=l.idxOf x:=by
 obtain⟨u,rfl⟩:=h;rw[List.idxOf_append,if_pos hx]
theorem oV {l m:List σ} (f:σ→τ) (h:l<+:m):l.map f<+:m.map f:=by
 obtain⟨u,rfl⟩:=h;rw[List.map_append];exact List.prefix_append _ _
theorem ns (key:σ→κ) (l:List σ) (q:(l.map key).Nodup) (ts:List σ):
 ((aT key l ts).1.map key).Nodup∧(∀t∈ts,key t∈(aT key l ts).1.map key)∧(aT key l ts).2=ts.map (fun t=>((aT key l ts).1.map key).idxOf (key t))∧∀s∈(aT key l ts).1,s∈l∨s∈ts:=by
 induction ts using gq with
 |h0=>exact⟨q,by simp,by simp[aT],fun s hs=>.inl hs⟩
 |h1 ts t ih=>
  obtain⟨k,f,j,i⟩:=ih;rw[eV];generalize aT key l ts=p at k f j i;obtain⟨m,n⟩:=p;simp only at k f j i;have d:=oV key (nr key (m,n) t);unfold eL at d⊢;simp only at d⊢;by_cases c:key t∈m.map key
  ·rw[if_pos c]at d⊢;refine⟨k,fun x hx=>?_,?_,fun s hs=>?_⟩
   ·rcases List.mem_append.1 hx with hx|hx
    ·exact f x hx
    ·simp at hx;subst hx;exact c
   ·rw[j,List.map_append];rfl
   ·rcases i s hs with h|h
    ·exact .inl h
    ·exact .inr (by simp[h])
  ·rw[if_neg c]at d⊢;have g:key t∈(m++[t]).map key:=by simp
   refine⟨?_,fun x hx=>?_,?_,fun s hs=>?_⟩
   ·rw[List.map_append,List.map_cons,List.map_nil,List.nodup_append];refine⟨k,by simp,fun a r b o e=>?_⟩;simp at o;subst o;subst e;exact c r
   ·rcases List.mem_append.1 hx with hx|hx
    ·exact List.IsPrefix.mem (f x hx) d
    ·simp at hx;subst hx;exact g
   ·rw[j,List.map_append]
    congr 1
    ·apply List.map_congr_left;intro x hx;rw[me d (f x hx)]
    ·rw[List.map_cons,List.map_nil,List.map_append,List.idxOf_append,if_neg c,List.idxOf_eq_length c];simp
   ·rcases List.mem_append.1 hs with hs|hs
    ·rcases i s hs with h|h
     ·exact .inl h
     ·exact .inr (by simp[h])
    ·simp at hs;subst hs;exact .inr (by simp)
structure BfsInv (rowf:σ→List σ) (key:σ→κ) (s0:σ) (l:List σ) (outs:List (List Nat)):Prop where
 nodup:(l.map key).Nodup
 first:l[0]?=some s0
 len:outs.length≤l.length
 here:∀(i:Nat) (s:σ) (r:List Nat),l[i]?=some s→outs[i]?=some r→(∀t∈rowf s,key t∈l.map key)∧r=(rowf s).map fun t=>(l.map key).idxOf (key t)
 from_:∀s∈l,s=s0∨∃u∈l,s∈rowf u
theorem ek (rowf:σ→List σ) (key:σ→κ) (s0:σ):∀k,BfsInv rowf key s0 (bfs rowf key s0 k).1 (bfs rowf key s0 k).2
 |0=>⟨by simp[bfs],by simp[bfs],by simp[bfs],by simp[bfs],by simp[bfs]⟩
 |k+1=>by
  have c:=ek rowf key s0 k;unfold bfs el;generalize bfs rowf key s0 k=p at c⊢;obtain⟨l,a⟩:=p;simp only at c⊢
  split
  ·exact c
  ·rename_i s hs
   have m:=(List.getElem?_eq_some_iff.1 hs).1;obtain⟨z,y,v,q⟩:=ns key l c.nodup (rowf s);have e:=gr key l (rowf s);have g:=oV key e;refine⟨z,?_,?_,?_,?_⟩
   ·obtain⟨u,d⟩:=e;rw[←d,List.getElem?_append_left (by omega)];exact c.first
   ·have :=e.length_le;simp;omega
   ·intro i x r hx f;simp only at hx f;by_cases B:i<a.length
    ·rw[List.getElem?_append_left B]at f;have b:l[i]?=some x:=by
      obtain⟨u,d⟩:=e;rw[←d,List.getElem?_append_left (by omega)]at hx;exact hx
     obtain⟨o,A⟩:=c.here i x r b f;refine⟨fun t j=>List.IsPrefix.mem (o t j) g,?_⟩;rw[A];apply List.map_congr_left;intro t j;rw[me g (o t j)]
    ·have n:i=a.length:=by
      have :=(List.getElem?_eq_some_iff.1 f).1;simp at this;omega
     subst n;have b:l[a.length]?=some x:=by
      obtain⟨u,d⟩:=e;rw[←d,List.getElem?_append_left m]at hx;exact hx
     rw[hs]at b;obtain rfl:=Option.some.inj b;simp at f;subst f;exact⟨y,v⟩
   ·intro x hx;rcases q x hx with h|h
    ·rcases c.from_ x h with h1|⟨u,d,h2⟩
     ·exact .inl h1
     ·exact .inr ⟨u,List.IsPrefix.mem d e,h2⟩
    ·exact .inr ⟨s,List.IsPrefix.mem (List.mem_of_getElem? hs) e,h⟩
theorem yN (rowf:σ→List σ) (key:σ→κ) (s0:σ):∀k,(bfs rowf key s0 k).2.length≤k∧((bfs rowf key s0 k).2.length=k∨(bfs rowf key s0 k).2.length=(bfs rowf key s0 k).1.length)
 |0=>by simp[bfs]
 |k+1=>by
  have b:=yN rowf key s0 k;have c:=(ek rowf key s0 k).len;unfold bfs el;generalize bfs rowf key s0 k=d at b c⊢;obtain⟨l,a⟩:=d;simp only at b c⊢
  split
  ·rename_i h
   have :=List.getElem?_eq_none_iff.1 h;simp only;omega
  ·rename_i s hs
   have :=(List.getElem?_eq_some_iff.1 hs).1;simp only[List.length_append,List.length_cons,List.length_nil];omega
theorem jI {rowf:σ→List σ} {key:σ→κ} {s0:σ} {k:Nat} (h:(bfs rowf key s0 k).2.length=(bfs rowf key s0 k).1.length):∀n,k≤n→bfs rowf key s0 n=bfs rowf key s0 k:=by
 intro n b
 induction n with
 |zero=>rw[show k=0 by omega]
 |succ n a=>
  by_cases e:k=n+1
  ·rw[e]
  ·have a:=a (by omega)
   show el rowf key (bfs rowf key s0 n)=_
   rw[a];unfold el;rw[List.getElem?_eq_none_iff.2 (by omega)]
theorem vw {rowf:σ→List σ} {key:σ→κ} {s0:σ} {N:Nat} (h:∀k,(bfs rowf key s0 k).1.length≤N):(bfs rowf key s0 N).2.length=(bfs rowf key s0 N).1.length:=by
 have h1:=yN rowf key s0 N;have h2:=(ek rowf key s0 N).len;have a:=h N;omega
end
end
section
def MeterAt (w:World) (a:Nat) (n:Int) (b:Bool):Prop:=w.heap[a]?=some (.cells #[n,b] 97)
theorem MeterAt.c0 {w:World} {a:Nat} {n:Int} {b:Bool} (h:MeterAt w a n b):w.cell? ⟨a,0,none⟩=some (.int .i64 n):=ai h 0
theorem MeterAt.c1 {w:World} {a:Nat} {n:Int} {b:Bool} (h:MeterAt w a n b):w.cell? ⟨a,1,none⟩=some (.bool b):=ai h 1
variable {R:Ending→World→Prop} {w:World}
theorem oS {a:Nat} {n:Int} {b:Bool} (h:MeterAt w a n b) (c:∀e,e=.returned (.bool b)→R e w):
 Calls Tryz.prog 165 #[.pointer (IQ a 0)] w R:=by
 have d:=ae c;clear c;have f:=h.c1;clear h;go_enter Tryz.func165,Tryz.ntmps165
 go_wp2
 exact d.o _ rfl
theorem lY (n:Int) (b:∀e a,e=.returned (IL w.heap.size)→MeterAt a w.heap.size (max n 0) false→Same w a→R e a):
 Calls Tryz.prog 20 #[IP n] w R:=by
 have c:=ae b;clear b;go_enter Tryz.func20,Tryz.ntmps20
 go_wp2
 all_goals
  refine c.o _ _ rfl ?_ ((af _ _).alloc _);have e:=ag w
  first
   |exact e _
   |(rw[show max n 0=0 by omega];exact e _)
   |(rw[show max n 0=n by omega];exact e _)
def fg (n k:Int) (b:Bool):Bool:=!b&&decide (0≤k)&&decide (k≤n)
def cY (n k:Int) (b:Bool):Int:=if b=true∨k<0 then n else if k≤n then n -k else 0
def dy (n k:Int) (b:Bool):Bool:=b||(decide (0≤k)&&decide (n<k))
theorem Bq {a:Nat} {n:Int} {b:Bool} (k:Int) (h:MeterAt w a n b) (i:k≤9223372036854775807) (j:0≤n) (g:n≤9223372036854775807)
 (f:∀e d,e=.returned (.bool (fg n k b))→MeterAt d a (cY n k b) (dy n k b)→Keeps (·≠a) w d→R e d):
 Calls Tryz.prog 109 (Ia (IL a) k) w R:=by
 have c:=ae f;clear f;have p:=h.c0;have o:=h.c1;have m:=ao h 0;have l:=ao h 1;have H:=ae h;clear h;by_cases h0:k<0
 ·go_enter Tryz.func109,Tryz.ntmps109
  go_wp2
  refine c.o _ _ (be ?_) ?_ (af _ _)
  ·simp[fg];omega
  ·have :=H.o;simpa [cY,dy,h0,Int.not_le.2 h0]using this
 ·cases b
  ·by_cases h1:n<k
   ·go_enter Tryz.func109,Tryz.ntmps109
    go_wp2_with (go_at_call 165;refine oS H.o ?_;rintro e rfl)
    refine c.o _ _ (be ?_) ?_ (((af _ _).setCell (by simp) _).setCell (by simp) _)
    ·simp[fg];omega
    ·have :=aj (aj H.o 0 IU) 1 (.bool true);rw[show cY n k false=0 by unfold cY;rw[if_neg (by simp;omega),if_neg (by omega)],show dy n k false=true by simp[dy];omega];exact this
   ·go_enter Tryz.func109,Tryz.ntmps109
    go_wp2_with (go_at_call 165;refine oS H.o ?_;rintro e rfl)
    refine c.o _ _ (be ?_) ?_ ((af _ _).setCell (by simp) _)
    ·simp[fg];omega
    ·have :=aj H.o 0 (IP (n -k));rw[show cY n k false=n -k by unfold cY;rw[if_neg (by simp;omega),if_pos (by omega)],show dy n k false=false by simp[dy];omega];exact this
  ·go_enter Tryz.func109,Tryz.ntmps109
   go_wp2_with (go_at_call 165;refine oS H.o ?_;rintro e rfl)
   refine c.o _ _ (be ?_) ?_ (af _ _)
   ·simp[fg]
   ·have :=H.o;simpa [cY,dy]using this
end
section
open Go.RowKit Go.Sort
variable {R:Ending→World→Prop} {w:World} {a T:Nat} {L:List Nd}
def leI (x y:Int):Bool:=decide (x≤y)
theorem qQ {B g c:Nat} {l:List Int} (h:OwnInts w B (.slice (IQ g 0) l.length c) l):Holds (Value.int .i64) w g 0 l.toArray∧g<w.heap.size:=by
 rcases h with⟨h0,⟨h1,_⟩|⟨q,cap,e,f,p,d,o,n,m,i⟩⟩
 ·cases h1
 ·simp only[Value.slice.injEq,Option.some.injEq,Addr.mk.injEq,and_true,true_and]at f;obtain⟨rfl,rfl⟩:=f;refine⟨fun j k=>?_,am d⟩;have b:j<l.length:=by simpa using k
  refine⟨?_,ao d _⟩;rw[ai d];have :(e.toList.take (l.length*1))[j]?=some (.int .i64 l[j]):=by rw[i];simp[b]
  rw[List.getElem?_take,if_pos (by omega)]at this
  simpa [b]using this
theorem lG {B:Nat} {v:Value} {l:List Int} (h:OwnInts w B v l) (D:l.length≤1000000)
 (j:∀e f,e=.returned (.tuple #[])→OwnInts f B v (l.mergeSort leI)→Keeps (fun b=>v.ownBlock≠some b) w f→R e f):
 Calls Tryz.prog 222 #[v] w R:=by
 obtain⟨s,c,rfl⟩:=h.shape;have d:(l.mergeSort leI).length=l.length:=List.length_mergeSort ..;by_cases h0:l=[]
 ·subst h0;refine(Tryz.slices_Sort_int_none s c w).mono ?_;rintro e f ⟨rfl,rfl⟩;exact j _ _ rfl (by simpa using h) (af _ _)
 ·rcases id h with⟨h1,⟨h2,z⟩|⟨g,cap,A,m,y,u,q,p,o,C⟩⟩
  ·exact absurd (List.eq_nil_of_length_eq_zero z) h0
  ·simp only[Value.slice.injEq,true_and]at m;obtain⟨rfl,rfl⟩:=m;obtain⟨x,i⟩:=qQ h;refine(Tryz.slices_Sort_int g 0 c l w x i (by omega)).mono ?_;rintro e f ⟨rfl,n,os,rfl⟩;refine j _ _ rfl ?_ ((af _ w).grown (Go.grownBy_sortedI (w:=w) (n:=n) (os:=os) _) (fun k r t=>t.2 (by simpa [Value.ownBlock]using r)));have :=Go.ownsRow_sortedI (w:=w) (n:=n) (os:=os) (base:=B) (cap:=c) (e:=3) (ss:=l) (ts:=l.mergeSort leI) d y u q p o;unfold OwnInts;rw[d];exact this
end
section
variable {R:Ending→World→Prop} {w:World}
def iZ (W:List Nat) (i m:Nat):List Int:=((List.range m).filter fun x=>(W.getD x 0).testBit i).map Int.ofNat
theorem zz (W:List Nat) (i m:Nat):(iZ W i m).length≤m:=by
 unfold iZ;rw[List.length_map];exact Nat.le_trans (List.length_filter_le _ _) (by simp)
theorem oM (W:List Nat) (i:Nat) {m:Nat} {y:Nat} (a:W[m]?=some y):iZ W i (m+1)=if y.testBit i then iZ W i m++[(m:Int)]else iZ W i m:=by
 unfold iZ;rw[List.range_succ,List.filter_append];have :W.getD m 0=y:=by simp[List.getD,a]
 cases b:y.testBit i<;>simp[b,a]
def aZ (W:List Nat) (n m k:Nat):List (List Int):=(List.range n).map fun i=>iZ W i (if i<k then m+1 else m)
theorem dX (W:List Nat) (n m k:Nat):(aZ W n m k).length=n:=by simp[aZ]
theorem xC (W:List Nat) {n m k:Nat} (a:k<n):(aZ W n m k)[k]?=some (iZ W k m):=by simp[aZ,a]
theorem vk (W:List Nat) {n m k:Nat} {y:Nat} (c:W[m]?=some y) (b:y.testBit k=true):(aZ W n m k).set k (iZ W k m++[(m:Int)])=aZ W n m (k+1):=by
 apply List.ext_getElem (by simp[aZ]);intro i h1 h2;rw[List.getElem_set];simp only[aZ,List.getElem_map,List.getElem_range]
 split
 ·rename_i e
  subst e;rw[if_pos (by omega),oM W k c,if_pos b]
 ·rename_i e
  by_cases a:i<k
  ·rw[if_pos a,if_pos (by omega)]
  ·rw[if_neg a,if_neg (by omega)]
theorem sF (W:List Nat) {n m k:Nat} {y:Nat} (c:W[m]?=some y) (b:y.testBit k=false):aZ W n m k=aZ W n m (k+1):=by
 unfold aZ;apply List.map_congr_left;intro i _;by_cases a:i<k
 ·rw[if_pos a,if_pos (by omega)]
 ·rw[if_neg a];by_cases e:i=k
  ·subst e;rw[if_pos (by omega),oM W i c,if_neg (by simp[b])]
  ·rw[if_neg (by omega)]
theorem vm (W:List Nat) {n m k:Nat} (b:n≤k):aZ W n m k=aZ W n (m+1) 0:=by
 unfold aZ;apply List.map_congr_left;intro i a;rw[List.mem_range]at a;rw[if_pos (by omega),if_neg (by omega)]
theorem qe (W:List Nat) (n:Nat):aZ W n 0 0=List.replicate n []:=by
 unfold aZ;rw[List.eq_replicate_iff];simp[iZ]
theorem vR {v:Value} {W:List Nat} (hv:IntsAt w v (W.map Int.ofNat)) (hs:∀y∈W,y<64) (n:Nat) (h6:n≤6) (hW:W.length≤1000)
 (X:∀e H b vs,e=.returned (.slice (IQ b 0) n n)→OwnRows H w.heap.size b vs (aZ W n W.length 0)→Same w H→R e H):
 Calls Tryz.prog 67 (Ia v n) w R:=by
 have Z:=ae X;clear X;obtain⟨a,c,rfl,aL,L,h⟩:=hv.open;have HC:=ae h;have HS:=ae hs;clear h hv hs;unfold maxLen at L;simp only[List.length_map]at *;obtain⟨i0,D,A,z,t⟩:=info_parts jX;have p:=run_make (P:=Tryz.prog) w 140 41 i0 _ Tryz.underlying140 D A .i64 .i64 n n (by omega) (by omega) (by rw[t];omega) (by omega);rw[z,Int.toNat_natCast,zY]at p;obtain⟨B,r⟩:∃B,B=w.heap.size:=⟨_,rfl⟩;have O:=ae (OwnRows.make w (n:=n) (Nat.le_refl _));have HK:=ae ((af (fun _=>True) w).alloc (.cells (List.replicate n (Value.slice none 0 0)).toArray 41));rw[←r]at Z O p;generalize w.alloc _=w2 at O HK p;have G:=ae r;have N:=ae (qe W n);clear D A z t r;go_enter Tryz.func67,Tryz.ntmps67;go_wp2_with fail
 go_loopw [13] (fun i wr=>∃k:Nat,∃vs,i=.int .i64 k∧k≤W.length∧Hid (OwnRows wr B B vs (aZ W n k 0))∧Same w wr) (fun i _=>W.length -(intOf i).toNat)
 case atStart=>exact⟨0,_,rfl,Nat.zero_le _,ae (by rw[N.o];exact O.o),HK.o⟩
 case round=>
  obtain⟨k,vs,rfl,hk,j,l⟩:=hrel;by_cases f:k<W.length
  ·obtain⟨bl,off,rfl,a8,E⟩:=HC.o k f;have q:=ak l (E k f) trivial;have hy:=HS.o W[k] (List.getElem_mem f);have M:=ae (show W[k]?=some W[k]from List.getElem?_eq_getElem f);rw[show(W.map Int.ofNat)[k]'(by simpa using f)=(W[k]:Int) by simp]at q;generalize W[k]=y at q hy M;clear E;go_wp2_with fail
   go_loopw [19] (fun i wr=>∃m:Nat,∃vs,i=.int .i64 m∧m≤n∧Hid (OwnRows wr B B vs (aZ W n k m))∧Same w wr) (fun i _=>n -(intOf i).toNat)
   case atStart=>exact⟨0,vs,rfl,Nat.zero_le _,j,l⟩
   case round=>
    clear j l q;obtain⟨m,vs,rfl,hm,j,l⟩:=hrel;by_cases o:m<n
    ·have F:=gE y m (by omega)
     cases d:y.testBit m with
     |false=>
      rw[d]at F;have T:=ae (sF W (n:=n) M.o d);clear d;go_wp2_with fail;go_roundw
      case rel=>exact⟨m+1,vs,by go_num,by omega,ae (by rw[←T.o];exact j.o),l⟩
      case measure=>simp[intOf];omega
     |true=>
      rw[d]at F;have Y:=vk W (n:=n) M.o d;have aH:=zz W m k;have C:m<vs.length:=by rw[j.o.len,dX];exact o
      obtain⟨g,cap,w3,q1,⟨s,c2,V⟩,J,q3,⟨u,q4⟩,I,U⟩:=j.o.push (by rw[G.o];exact l.size) C (xC W o) (by omega) k;rw[Y]at I;have T:=ae I;have HQ:=ae U;rw[V]at q1 J;clear d Y j V I U C
      go_wp2_with (at_builtin;refine ap rfl _ _ _ rfl rfl rfl J ?_;clear J)
      go_roundw
      case rel=>exact⟨m+1,_,by go_num,by omega,T,l.trans HQ.o fun x hx _=>⟨trivial,by rw[G.o];exact hx⟩⟩
      case measure=>simp[intOf];omega
    ·go_wp2_with fail;go_roundw
     case rel=>exact⟨k+1,vs,by go_num,by omega,ae (by rw[←vm W (show n≤m by omega)];exact j.o),l⟩
     case measure=>simp[intOf];omega
  ·go_wp2_with fail;obtain rfl:k=W.length:=by omega
   exact Z.o _ _ _ vs rfl j.o l
theorem nM {B:Nat} {v u:Value} {l m:List Int} (d:OwnInts w B v l) (q:IntsAt w u m) (I:B≤w.heap.size) (M:l.length+m.length≤2199023255552):
 ∃h i,(Builtin.append_ #[41,41] 41 #[v,u]).run Tryz.prog w=.ok h i∧OwnInts i B h (l++m)∧Keeps (fun b=>v.ownBlock≠some b) w i∧(h.ownBlock=v.ownBlock∨h.ownBlock=some w.heap.size):=by
 obtain⟨C,f,p,o,n⟩:=info_parts cC;obtain⟨⟨a,c,rfl,h1,h2,t⟩,N⟩:=q;simp only[List.length_map]at *;rcases m with _|⟨x,m⟩
 ·refine⟨v,w,?_,by simpa using d,af _ _,.inl rfl⟩;rcases d.2 with⟨rfl,h0⟩|⟨g,cap,z,rfl,_,_,r,_⟩
  ·cases a<;>simp[Builtin.append_,run_underlying Tryz.underlying41,sizeOf,typeInfo,f,Builtin.lenOf,Builtin.firstCells,loadCells,loadCellsFrom]
  ·cases a<;>simp[Builtin.append_,run_underlying Tryz.underlying41,sizeOf,typeInfo,f,Builtin.lenOf,Builtin.firstCells,loadCells,loadCellsFrom,r,storeCells]
 ·rcases t with t|⟨b,off,z,e,O,rfl,A,J⟩
  ·simp at t
  ·obtain⟨h,i,D,ho,H,_,s⟩:=run_append_own_at (P:=Tryz.prog) w B 41 41 3 C _ 1 8 Tryz.underlying41 f p o n rfl (by decide) v l.length (l.map (Value.int .i64)) d ⟨b,off,none⟩ (x::m).length c ((x::m).map (Value.int .i64))
    (by simp) (fun j u F=>by
     have :=J j u F;unfold Addr.add
     split
     ·rename_i L;subst L;rw[ai A];exact this
     ·show w.cell? ⟨b,off+j,none⟩=_;rw[ai A];exact this) (by intro u q;obtain⟨y,_,rfl⟩:=List.mem_map.1 q;rfl) (by unfold maxLen;omega) (by omega) I
   refine⟨h,i,D,?_,(af _ w).grown H (fun k E G=>G.2 E),s⟩;unfold OwnInts
   simpa using ho
end
section
open Go.Shelf
def lays197_ren:Go.Shelf.Ren:=⟨fun |197=>42|260=>68|n=>n,fun |9=>9|21=>21|3=>3|4=>4|5=>5|105=>105|119=>172|0=>0|46=>173|139=>176|138=>175|n=>n,fun |3=>0|4=>1|n=>n⟩
theorem lays197:Go.Proofs.Lays.n197 Tryz.prog lays197_ren:={
 mixed:=by kernel_rfl
 f197:=Tryz.func42.trans (congrArg some (by kernel_rfl))
 f260:=Tryz.func68.trans (congrArg some (by kernel_rfl))
 t0:=Tryz.underlying0
 a0:=Tryz.isAgg0
 z0:=Tryz.sizeOf0
 v0:=Tryz.zeroValue0
 t3:=Tryz.underlying3
 a3:=Tryz.isAgg3
 z3:=Tryz.sizeOf3
 v3:=Tryz.zeroValue3
 t4:=Tryz.underlying4
 a4:=Tryz.isAgg4
 z4:=Tryz.sizeOf4
 v4:=Tryz.zeroValue4
 t5:=Tryz.underlying5
 a5:=Tryz.isAgg5
 z5:=Tryz.sizeOf5
 v5:=Tryz.zeroValue5
 t9:=Tryz.underlying9
 a9:=Tryz.isAgg9
 z9:=Tryz.sizeOf9
 v9:=Tryz.zeroValue9
 t21:=Tryz.underlying21
 a21:=Tryz.isAgg21
 z21:=Tryz.sizeOf21
 v21:=Tryz.zeroValue21
 t46:=Tryz.underlying173
 a46:=Tryz.isAgg173
 z46:=Tryz.sizeOf173
 v46:=Tryz.zeroValue173
 t105:=Tryz.underlying105
 a105:=Tryz.isAgg105
 z105:=Tryz.sizeOf105
 v105:=Tryz.zeroValue105
 t119:=Tryz.underlying172
 a119:=Tryz.isAgg172
 z119:=Tryz.sizeOf172
 t138:=Tryz.underlying175
 a138:=Tryz.isAgg175
 z138:=Tryz.sizeOf175
 v138:=Tryz.zeroValue175
 t139:=Tryz.underlying176
 a139:=Tryz.isAgg176
 z139:=Tryz.sizeOf176
 v139:=Tryz.zeroValue176
 g3:=by kernel_rfl
 g4:=by kernel_rfl}
open Go.RowKit Go.Lib in
theorem utf8_DecodeRuneInString (s:ByteArray) (w:World) (b:Lib.Utf8Tabs 0 1 w):
 Calls Tryz.prog 42 #[.string s] w fun e a=>e=.returned (.tuple (Ia (.int .i32 (Lib.decodeGo s).1) (Lib.decodeGo s).2))∧Below w.heap.size w a:=Any.utf8_DecodeRuneInString lays197 s w b
end
end Go.Proofs.YtojegnbejmeehaaGreatDoor
