/- Helpers of the proof of TopNames. -/
import Derived.Test.YtojegnbejmeehaaGreatDoorJAH
namespace Go.Proofs.YtojegnbejmeehaaGreatDoor
open Go.RowKit
set_option maxRecDepth 10000
set_option maxHeartbeats 16000000
set_option linter.all false
section
variable {w:World}
def StrAt (k:Nat) (w:World) (v:Value) (vs:List (List Value)):Prop:=
 ∃a c,v=.slice a vs.length c∧vs.length≤c∧c≤maxLen∧
  (vs=[]∨∃b off cur e fr,a=some ⟨b,off,none⟩∧w.heap[b]?=some (.cells cur e fr)∧∀(i:Nat) x,vs[i]?=some x→∀(j:Nat) y,x[j]?=some y→cur[off+i*k+j]?=some y)
theorem StrAt.keep {k:Nat} {S:Nat→Prop} {g:World} {v:Value} {vs:List (List Value)} (h:StrAt k w v vs) (i:Keeps S w g) (hs:∀b,live v=some b→S b):StrAt k g v vs:=by
 obtain⟨a,c,rfl,h1,h2,d⟩:=h;refine⟨a,c,rfl,h1,h2,?_⟩;rcases d with d|⟨b,off,f,e,m,rfl,l,j⟩
 ·exact .inl d
 ·cases vs with
  |nil=>exact .inl rfl
  |cons x xs=>exact .inr ⟨b,off,f,e,m,rfl,i.at l (hs b rfl),j⟩
theorem StrAt.same {k:Nat} {a:World} {v:Value} {vs:List (List Value)} (h:StrAt k w v vs) (b:Same w a):StrAt k a v vs:=h.keep b fun _ _=>trivial
theorem StrAt.lt {k:Nat} {v:Value} {vs:List (List Value)} (h:StrAt k w v vs):∀b,live v=some b→b<w.heap.size:=by
 obtain⟨a,c,rfl,h1,h2,g⟩:=h;intro b d;rcases g with rfl|⟨m,off,i,e,l,rfl,f,j⟩
 ·cases a<;>simp[live]at d
 ·cases vs with
  |nil=>simp[live]at d
  |cons x xs=>simp[live]at d;subst d;exact am f
theorem StrAt.open {k:Nat} {v:Value} {vs:List (List Value)} (h:StrAt k w v vs):∃a c,v=.slice a vs.length c∧vs.length≤c∧c≤maxLen∧
 (∀q (_:q<vs.length),∃b off,a=some ⟨b,off,none⟩∧b<w.heap.size∧∀(i:Nat) x,vs[i]?=some x→∀(j:Nat) y,x[j]?=some y→w.cell? ⟨b,off+i*k+j,none⟩=some y):=by
 obtain⟨a,c,rfl,h1,h2,m⟩:=h;refine⟨a,c,rfl,h1,h2,fun q g=>?_⟩;rcases m with rfl|⟨b,off,n,e,o,rfl,d,l⟩
 ·simp at g
 ·refine⟨b,off,rfl,am d,fun i x hx j y f=>?_⟩;rw[ai d];exact l i x hx j y f
theorem jy {k:Nat}:∀{vs:List (List Value)} (_:∀x∈vs,x.length=k) {i:Nat} {x:List Value},vs[i]?=some x→∀(j:Nat) y,x[j]?=some y→vs.flatten[i*k+j]?=some y
 | [],_,i,x,h,_,_,_=>by simp at h
 |z::vs,hk,0,x,h,j,y,hy=>by
  simp at h;subst h;have c:=(List.getElem?_eq_some_iff.1 hy).1;rw[List.flatten_cons,Nat.zero_mul,Nat.zero_add,List.getElem?_append_left c];exact hy
 |z::vs,hk,i+1,x,h,j,y,hy=>by
  simp at h;have b:=jy (fun x hx=>hk x (List.mem_cons_of_mem _ hx)) h j y hy;have a:=hk z List.mem_cons_self;rw[List.flatten_cons,List.getElem?_append_right (by rw[a,Nat.succ_mul];omega),a,show(i+1)*k+j -k=i*k+j by rw[Nat.succ_mul];omega];exact b
theorem gR {k:Nat}:∀{vs:List (List Value)} (_:∀x∈vs,x.length=k),vs.flatten.length=vs.length*k
 | [],_=>by simp
 |z::vs,hk=>by
  rw[List.flatten_cons,List.length_append,hk z List.mem_cons_self,gR (fun x hx=>hk x (List.mem_cons_of_mem _ hx)),List.length_cons,Nat.succ_mul,Nat.add_comm]
theorem dg {k:Nat} {e:TypeId} {B:Nat} {v:Value} {vs:List (List Value)} (f:∀x∈vs,x.length=k) (h:w.ownsRow B e k v vs.length vs.flatten):StrAt k w v vs:=by
 rcases h.2 with⟨rfl,h0⟩|⟨g,cap,c,rfl,r,p,n,m,q,l⟩
 ·have :vs=[]:=List.eq_nil_of_length_eq_zero h0
  subst this;exact⟨none,0,rfl,Nat.le_refl _,Nat.zero_le _,.inl rfl⟩
 ·refine⟨_,cap,rfl,n,m,.inr ⟨g,0,c,_,_,rfl,p,fun i x hx j y o=>?_⟩⟩;have a:=jy f hx j y o;have d:=(List.getElem?_eq_some_iff.1 a).1;have b:i*k+j<vs.length*k:=by rw[gR f]at d;exact d
  rw[←l]at a;simp only[List.getElem?_take]at a;rw[if_pos b]at a
  simpa using a
theorem cF {P:Program} {k:Nat} (l:0<k) (w:World) (t q e:TypeId) {z:Value} {bytes:Nat} (E:P.underlying t=some (.slice e)) (H:(P.info? e).map (fun i=>(i.zero,i.size,i.bytes))=some (some z,k,bytes))
 (d:z.cells.size=k) {base:Nat} {v:Value} {vs:List (List Value)} {n:Nat} (c:w.ownsRow base e k v n vs.flatten) (p:base≤w.heap.size) (x:List Value) (hx:x.length=k) (h1:∀u∈x,u.oneCell'=true) (F:n+1≤1000000) (o:bytes≤128):
 ∃g cap a,(Builtin.append_ #[t,t] q #[v,.slice (IQ w.heap.size 0) 1 1]).run P (w.alloc (.cells x.toArray e))=.ok (.slice (IQ g 0) (n+1) cap) a∧
  a.ownsRow base e k (.slice (IQ g 0) (n+1) cap) (n+1) (vs++[x]).flatten∧Keeps (fun b=>v.ownBlock≠some b) w a∧(v.ownBlock=some g∨w.heap.size≤g)∧g<a.heap.size:=by
 obtain⟨D,m,j,h,f⟩:=info_parts H;have J:(n+1)*bytes≤140737488355328:=Nat.le_trans (Nat.mul_le_mul F o) (by omega);obtain⟨g,cap,a,C,B,A,y,s⟩:=run_append_lies (P:=P) _ t q base e D z k bytes E m j h f d l v n vs.flatten (c.alloc (.cells x.toArray e))
  ⟨w.heap.size,0,none⟩ 1 1 x (by rw[hx,Nat.one_mul]) (by have :=World.news_of_block (cs:=x.toArray) (ag w (.cells x.toArray e));simpa using this) h1 (by decide) (by unfold maxLen;omega) J (by simp;omega) (w.heap.size+1) (by simp)
 refine⟨g,cap,a,C,by rw[List.flatten_append,List.flatten_cons,List.flatten_nil,List.append_nil];exact B,((af _ w).alloc _).grown A (by intro k G I;exact I.2 G),?_,s⟩;rcases y with r|r
 ·exact .inl r
 ·exact .inr (by omega)
end
end Go.Proofs.YtojegnbejmeehaaGreatDoor
