/- Helpers of the proof of TopNames. -/
import Derived.Test.YtojegnbejmeehaaGreatDoorJAI
import Derived.Test.YtojegnbejmeehaaGreatDoorJAL
namespace Go.Proofs.YtojegnbejmeehaaGreatDoor
open Go.RowKit
set_option maxRecDepth 10000
set_option maxHeartbeats 16000000
set_option linter.all false
section
variable {w:World}
structure Vl where
 name:ByteArray
 ord:Int
 set:List Int
 deriving DecidableEq
def TriAt (w:World) (v:Value) (vs:List (Value×Value×Value)):Prop:=
 ∃a c,v=.slice a vs.length c∧vs.length≤c∧c≤maxLen∧
  (vs=[]∨∃b off cur e fr,a=some ⟨b,off,none⟩∧w.heap[b]?=some (.cells cur e fr)∧∀i x,vs[i]?=some x→cur[off+i*3]?=some x.1∧cur[off+i*3+1]?=some x.2.1∧cur[off+i*3+2]?=some x.2.2)
theorem TriAt.keep {S:Nat→Prop} {g:World} {v:Value} {vs:List (Value×Value×Value)} (h:TriAt w v vs) (k:Keeps S w g) (hs:∀b,live v=some b→S b):TriAt g v vs:=by
 obtain⟨a,c,rfl,h1,h2,d⟩:=h;refine⟨a,c,rfl,h1,h2,?_⟩;rcases d with d|⟨b,off,f,e,l,rfl,j,i⟩
 ·exact .inl d
 ·cases vs with
  |nil=>exact .inl rfl
  |cons x xs=>exact .inr ⟨b,off,f,e,l,rfl,k.at j (hs b rfl),i⟩
theorem TriAt.same {a:World} {v:Value} {vs:List (Value×Value×Value)} (h:TriAt w v vs) (k:Same w a):TriAt a v vs:=h.keep k fun _ _=>trivial
theorem TriAt.open {v:Value} {vs:List (Value×Value×Value)} (h:TriAt w v vs):∃a c,v=.slice a vs.length c∧vs.length≤c∧c≤maxLen∧
 (∀k (_:k<vs.length),∃b off,a=some ⟨b,off,none⟩∧b<w.heap.size∧∀i (f:i<vs.length),w.cell? ⟨b,off+i*3,none⟩=some vs[i].1∧w.cell? ⟨b,off+i*3+1,none⟩=some vs[i].2.1∧w.cell? ⟨b,off+i*3+2,none⟩=some vs[i].2.2):=by
 obtain⟨a,c,rfl,h1,h2,l⟩:=h;refine⟨a,c,rfl,h1,h2,fun k g=>?_⟩;rcases l with rfl|⟨b,off,m,e,n,rfl,d,j⟩
 ·simp at g
 ·refine⟨b,off,rfl,am d,fun i f=>?_⟩;rw[ai d,ai d,ai d];exact j i _ (List.getElem?_eq_getElem f)
def im (vs:List (Value×Value×Value)):List Value:=vs.flatMap fun x=>[x.1,x.2.1,x.2.2]
theorem xq (vs:List (Value×Value×Value)) (x:Value×Value×Value):im (vs++[x])=im vs++[x.1,x.2.1,x.2.2]:=by
 simp[im,List.flatMap_append]
theorem rm:∀{vs:List (Value×Value×Value)} {i:Nat} {x:Value×Value×Value},vs[i]?=some x→(im vs)[i*3]?=some x.1∧(im vs)[i*3+1]?=some x.2.1∧(im vs)[i*3+2]?=some x.2.2
 | [],i,x,h=>by simp at h
 |y::vs,0,x,h=>by
  simp at h;subst h;simp[im]
 |y::vs,i+1,x,h=>by
  simp at h;have :=rm h;rw[show(i+1)*3=i*3+3 by omega]
  simpa [im]using this
theorem nj {e:TypeId} {B:Nat} {v:Value} {vs:List (Value×Value×Value)} (h:w.ownsRow B e 3 v vs.length (im vs)):TriAt w v vs:=by
 rcases h.2 with⟨rfl,h0⟩|⟨g,cap,b,rfl,m,j,f,d,k,c⟩
 ·have :vs=[]:=List.eq_nil_of_length_eq_zero h0
  subst this;exact⟨none,0,rfl,Nat.le_refl _,Nat.zero_le _,.inl rfl⟩
 ·refine⟨_,cap,rfl,f,d,.inr ⟨g,0,b,_,_,rfl,j,fun i x hx=>?_⟩⟩;have l:=(List.getElem?_eq_some_iff.1 hx).1;have a:=rm hx;rw[←c]at a;simp only[List.getElem?_take]at a;rw[if_pos (by omega),if_pos (by omega),if_pos (by omega)]at a;simp only[Nat.zero_add];refine⟨by simpa using a.1,by simpa using a.2.1,by simpa using a.2.2⟩
theorem xV {P:Program} (w:World) (t q e:TypeId) {z:Value} {bytes:Nat} (s:P.underlying t=some (.slice e)) (B:(P.info? e).map (fun i=>(i.zero,i.size,i.bytes))=some (some z,3,bytes))
 (f:z.cells.size=3) {base:Nat} {v:Value} {vs:List (Value×Value×Value)} {n:Nat} (u:n=vs.length) (c:w.ownsRow base e 3 v n (im vs)) (p:base≤w.heap.size) (x:Value×Value×Value) (h0:x.1.oneCell'=true) (h1:x.2.1.oneCell'=true) (h2:x.2.2.oneCell'=true) (y:n+1≤1000000) (o:bytes≤64):
 ∃g cap a,(Builtin.append_ #[t,t] q #[v,.slice (IQ w.heap.size 0) 1 1]).run P (w.alloc (.cells #[x.1,x.2.1,x.2.2] e))=.ok (.slice (IQ g 0) (n+1) cap) a∧
  a.ownsRow base e 3 (.slice (IQ g 0) (n+1) cap) (n+1) (im (vs++[x]))∧Keeps (fun b=>v.ownBlock≠some b) w a∧(v.ownBlock=some g∨w.heap.size≤g)∧g<a.heap.size:=by
 obtain⟨r,m,l,j,h⟩:=info_parts B;have D:(n+1)*bytes≤140737488355328:=Nat.le_trans (Nat.mul_le_mul y o) (by omega);obtain⟨g,cap,a,h1,h2,F,d,E⟩:=run_append_lies (P:=P) _ t q base e r z 3 bytes s m l j h f (by decide) v n (im vs) (c.alloc (.cells #[x.1,x.2.1,x.2.2] e))
  ⟨w.heap.size,0,none⟩ 1 1 [x.1,x.2.1,x.2.2] rfl (World.news_of_block (cs:=#[x.1,x.2.1,x.2.2]) (ag w (.cells #[x.1,x.2.1,x.2.2] e))) (by simp[h0,h1,h2]) (by decide) (by unfold maxLen;omega) D (by simp;omega) (w.heap.size+1) (by simp)
 refine⟨g,cap,a,h1,by rw[xq];exact h2,((af _ w).alloc _).grown F (by intro k A C;exact C.2 A),?_,E⟩;rcases d with d|d
 ·exact .inl d
 ·exact .inr (by omega)
theorem BN (w:World) (e:TypeId) {B:Nat} (a:B≤w.heap.size):(w.alloc (.cells #[] e)).ownsRow B e 3 (.slice (IQ w.heap.size 0) 0 0) 0 []:=
 World.ownsRow_lit (base:=B) (e:=e) (size:=3) w #[] 0 a (Nat.zero_le _) rfl
def ValsAt (w:World) (v:Value) (L:List Vl):Prop:=
 ∃vs,TriAt w v vs∧vs.length=L.length∧∀(i:Nat) (x:Value×Value×Value) (l:Vl),vs[i]?=some x→L[i]?=some l→x.1=.string l.name∧x.2.1=.int .i64 l.ord∧IntsAt w x.2.2 l.set∧aK l.ord∧l.name.size≤maxLen
theorem ValsAt.open {v:Value} {L:List Vl} (h:ValsAt w v L):∃a c,∃e:List Value,v=.slice a L.length c∧L.length≤c∧c≤maxLen∧e.length=L.length∧(∀(i:Nat) (u:Value) (l:Vl),e[i]?=some u→L[i]?=some l→IntsAt w u l.set∧aK l.ord∧l.name.size≤maxLen)∧
 (∀k (_:k<L.length),∃b off,a=some ⟨b,off,none⟩∧b<w.heap.size∧∀(i:Nat) (u:Value) (l:Vl),e[i]?=some u→L[i]?=some l→w.cell? ⟨b,off+i*3,none⟩=some (.string l.name)∧w.cell? ⟨b,off+i*3+1,none⟩=some (.int .i64 l.ord)∧w.cell? ⟨b,off+i*3+2,none⟩=some u):=by
 obtain⟨vs,h1,h2,j⟩:=h;obtain⟨a,c,rfl,z,n,m⟩:=h1.open;refine⟨a,c,vs.map (·.2.2),by rw[h2],by omega,n,by simpa using h2,fun i u l d f=>?_,fun k A=>?_⟩
 ·simp only[List.getElem?_map,Option.map_eq_some_iff]at d;obtain⟨x,hx,rfl⟩:=d;exact(j i x l hx f).2.2
 ·obtain⟨b,off,rfl,p,o⟩:=m k (by omega);refine⟨b,off,rfl,p,fun i u l d f=>?_⟩;simp only[List.getElem?_map,Option.map_eq_some_iff]at d;obtain⟨x,hx,rfl⟩:=d;obtain⟨g,rfl⟩:=List.getElem?_eq_some_iff.1 hx;obtain⟨y,t,s⟩:=o i g;obtain⟨r,q,_⟩:=j i _ l (List.getElem?_eq_getElem g) f;exact⟨by rw[y,r],by rw[t,q],s⟩
structure Dl where
 name:ByteArray
 ord:Int
 spot:Int
def DeclsAt (w:World) (v:Value) (D:List Dl):Prop:=
 TriAt w v (D.map fun d=>(.string d.name,.int .i64 d.ord,.int .i64 d.spot))∧∀d∈D,aK d.ord∧aK d.spot∧d.name.size≤maxLen
theorem DeclsAt.same {a:World} {v:Value} {D:List Dl} (h:DeclsAt w v D) (k:Same w a):DeclsAt a v D:=⟨h.1.same k,h.2⟩
theorem DeclsAt.open {v:Value} {D:List Dl} (h:DeclsAt w v D):∃a c,v=.slice a D.length c∧D.length≤c∧c≤maxLen∧
 (∀k (_:k<D.length),∃b off,a=some ⟨b,off,none⟩∧b<w.heap.size∧∀i (d:i<D.length),w.cell? ⟨b,off+i*3,none⟩=some (.string D[i].name)∧w.cell? ⟨b,off+i*3+1,none⟩=some (.int .i64 D[i].ord)∧w.cell? ⟨b,off+i*3+2,none⟩=some (.int .i64 D[i].spot)):=by
 obtain⟨a,c,rfl,g,f,e⟩:=h.1.open;simp only[List.length_map]at *;refine⟨a,c,rfl,g,f,fun k j=>?_⟩;obtain⟨b,off,rfl,m,l⟩:=e k (by simpa using j);refine⟨b,off,rfl,m,fun i d=>?_⟩;have :=l i (by simpa using d)
 simpa using this
theorem fO {P:Program} {k:Nat} (s:0<k) (w:World) (t J e:TypeId) {z:Value} {bytes:Nat} (ht:P.underlying t=some (.slice e)) (hi:(P.info? e).map (fun i=>(i.zero,i.size,i.bytes))=some (some z,k,bytes))
 (B:z.cells.size=k) {base:Nat} {v:Value} {vs:List (List Value)} {n:Nat} (p:w.ownsRow base e k v n vs.flatten) (l:base≤w.heap.size) {u:Value} {d:List (List Value)} (G:StrAt k w u d) (q:0<d.length) (hx:∀x∈d,x.length=k) (h1:∀x∈d,∀u∈x,u.oneCell'=true) (hn:n+d.length≤1000000) (I:bytes≤128):
 ∃g cap m,(Builtin.append_ #[t,t] J #[v,u]).run P w=.ok (.slice (IQ g 0) (n+d.length) cap) m∧
  m.ownsRow base e k (.slice (IQ g 0) (n+d.length) cap) (n+d.length) (vs++d).flatten∧Keeps (fun b=>v.ownBlock≠some b) w m∧(v.ownBlock=some g∨w.heap.size≤g)∧g<m.heap.size:=by
 obtain⟨Z,H,E,D,C⟩:=info_parts hi;have hb:(n+d.length)*bytes≤140737488355328:=Nat.le_trans (Nat.mul_le_mul hn I) (by omega);obtain⟨a,c,rfl,q1,q2,Y⟩:=G.open;obtain⟨b,off,rfl,_,hc⟩:=Y 0 q;obtain⟨g,cap,m,X,V,U,T,O⟩:=run_append_lies (P:=P) _ t J base e Z z k bytes ht H E D C B s v n vs.flatten p
  ⟨b,off,none⟩ d.length c d.flatten (gR hx) (fun j y L=>by
   have r:=(List.getElem?_eq_some_iff.1 L).1;rw[gR hx]at r;have A:=Nat.div_add_mod j k;have h:=Nat.mod_lt j s;have f:j/k<d.length:=Nat.div_lt_of_lt_mul (by rw[Nat.mul_comm];exact r);have o:=hx _ (List.getElem_mem f);have M:=jy hx (List.getElem?_eq_getElem f) (j%k) _ (List.getElem?_eq_getElem (by rw[o];exact h));rw[Nat.mul_comm,A,L]at M;have :=hc (j/k) _ (List.getElem?_eq_getElem f) (j%k) y (by rw[M];exact List.getElem?_eq_getElem (by rw[o];exact h));rw[Nat.mul_comm,Nat.add_assoc,A]at this;have e:((⟨b,off,none⟩:Addr).add j)=⟨b,off+j,none⟩:=by
    simp only[Addr.add]
    split
    ·rename_i h0;rw[h0];rfl
    ·rfl
   rw[e];exact this) (fun u G=>by
   obtain⟨x,hx1,F⟩:=List.mem_flatten.1 G;exact h1 x hx1 u F) q (by unfold maxLen;omega) hb l w.heap.size rfl
 refine⟨g,cap,m,X,by rw[List.flatten_append];exact V,(af _ w).grown U (by intro k hk hh;exact hh.2 hk),?_,O⟩;rcases T with N|N
 ·exact .inl N
 ·exact .inr (by omega)
theorem eI:(Tryz.prog.info? 33).map (fun i=>(i.zero,i.size,i.bytes))=some (some (.agg #[GA,IU,IU]),3,32):=by kernel_rfl
def Dl.cells (d:Dl):List Value:=[.string d.name,.int .i64 d.ord,.int .i64 d.spot]
def Dl.ok (d:Dl):Prop:=aK d.ord∧aK d.spot∧d.name.size≤maxLen
def OwnDls (w:World) (B:Nat) (v:Value) (D:List Dl):Prop:=w.ownsRow B 33 3 v D.length (D.map Dl.cells).flatten∧∀d∈D,d.ok
theorem OwnDls.nil (w:World) (B:Nat):OwnDls w B IM []:=⟨⟨by simp,.inl ⟨rfl,rfl⟩⟩,fun _ h=>by cases h⟩
theorem OwnDls.keep {B:Nat} {v:Value} {D:List Dl} {S:Nat→Prop} {a:World} (h:OwnDls w B v D) (k:Keeps S w a) (hs:∀b,v.ownBlock=some b→S b):OwnDls a B v D:=⟨ar h.1 k hs,h.2⟩
theorem OwnDls.same {B:Nat} {v:Value} {D:List Dl} {a:World} (h:OwnDls w B v D) (k:Same w a):OwnDls a B v D:=h.keep k fun _ _=>trivial
theorem OwnDls.but {B p:Nat} {v:Value} {D:List Dl} {a:World} (h:OwnDls w B v D) (k:Keeps (·≠p) w a) (d:p<B):OwnDls a B v D:=
 h.keep k fun b c e=>by
  have :=(ah h.1 c).1;omega
theorem OwnDls.shape {B:Nat} {v:Value} {D:List Dl} (h:OwnDls w B v D):∃s c,v=.slice s D.length c:=av h.1
theorem OwnDls.str {B:Nat} {v:Value} {D:List Dl} (h:OwnDls w B v D):StrAt 3 w v (D.map Dl.cells):=by
 refine dg (fun x hx=>?_) (by rw[List.length_map];exact h.1);obtain⟨d,_,rfl⟩:=List.mem_map.1 hx;rfl
theorem Ee {v:Value} {D:List Dl} (h:StrAt 3 w v (D.map Dl.cells)) (g:∀d∈D,d.ok):DeclsAt w v D:=by
 refine⟨?_,g⟩;obtain⟨a,c,rfl,h1,h2,k⟩:=h;simp only[List.length_map]at *;refine⟨a,c,by simp,by simpa using h1,h2,?_⟩;rcases k with k|⟨b,off,l,e,n,rfl,m,j⟩
 ·exact .inl (by simpa using k)
 ·refine .inr ⟨b,off,l,e,n,rfl,m,fun i x hx=>?_⟩;simp only[List.getElem?_map,Option.map_eq_some_iff]at hx;obtain⟨d,g,rfl⟩:=hx;have f:(D.map Dl.cells)[i]?=some d.cells:=by simp[g]
  exact⟨j i _ f 0 _ rfl,j i _ f 1 _ rfl,j i _ f 2 _ rfl⟩
theorem OwnDls.decls {B:Nat} {v:Value} {D:List Dl} (h:OwnDls w B v D):DeclsAt w v D:=Ee h.str h.2
end
end Go.Proofs.YtojegnbejmeehaaGreatDoor
