/- Helpers of the proof of TopNames. -/
import Derived.Laws.MakeOwn
import Derived.OwnWalk
import Derived.Deep.Upon
import Derived.Laws.OwnMore
import Derived.Maps.AppendAt
import Derived.Laws.Cover3
import Derived.Test.YtojegnbejmeehaaGreatDoorJAG
namespace Go.Proofs.YtojegnbejmeehaaGreatDoor
open Go.RowKit
set_option maxRecDepth 10000
set_option maxHeartbeats 16000000
set_option linter.all false
section
variable {R:Ending→World→Prop} {w:World}
structure OwnRows (w:World) (B b:Nat) (vs:List Value) (rows:List (List Int)):Prop where
 blk:w.heap[b]?=some (.cells vs.toArray 41 (0,0))
 low:B≤b
 len:vs.length=rows.length
 own:∀(j:Nat) (v:Value) (l:List Int),vs[j]?=some v→rows[j]?=some l→OwnInts w B v l
 apart:∀(j j':Nat) (v v':Value) (k:Nat),vs[j]?=some v→vs[j']?=some v'→v.ownBlock=some k→v'.ownBlock=some k→j=j'
theorem OwnInts.ne_block {B b:Nat} {v:Value} {l:List Int} (h:OwnInts w B v l) {cs:Array Value} {t:TypeId} {i:Nat×Nat} (f:w.heap[b]?=some (.cells cs t i)) (d:t≠3):v.ownBlock≠some b:=by
 intro e;rcases h.2 with⟨rfl,h0⟩|⟨g,cap,j,rfl,k,a,c⟩
 ·simp[Value.ownBlock]at e
 ·simp[Value.ownBlock]at e;subst e;rw[f]at a;simp at a;exact d a.2.1
theorem OwnInts.low {B:Nat} {v:Value} {l:List Int} (h:OwnInts w B v l) {g:Nat} (e:v.ownBlock=some g):B≤g∧g<w.heap.size:=h.lt g e
theorem OwnRows.make (w:World) {B n:Nat} (c:B≤w.heap.size):OwnRows (w.alloc (.cells (List.replicate n (.slice none 0 0)).toArray 41)) B w.heap.size (List.replicate n (.slice none 0 0)) (List.replicate n []):=by
 refine⟨ag _ _,c,by simp,fun j v l hv a=>?_,fun j e v d k hv _ b _=>?_⟩
 ·obtain rfl:=List.eq_of_mem_replicate (List.mem_of_getElem? hv);obtain rfl:=List.eq_of_mem_replicate (List.mem_of_getElem? a);exact World.ownsRow_nil _ _ _ _
 ·obtain rfl:=List.eq_of_mem_replicate (List.mem_of_getElem? hv);simp[Value.ownBlock]at b
theorem OwnRows.push {B b:Nat} {vs:List Value} {d:List (List Int)} (h:OwnRows w B b vs d) (hB:B≤w.heap.size) {j:Nat} (E:j<vs.length) {l:List Int} (hl:d[j]?=some l) (H:l.length+1≤2199023255552) (x:Int):
 ∃g cap a,w.cell? ⟨b,j,none⟩=some vs[j]∧(∃s c,vs[j]=.slice s l.length c)∧(Builtin.append_ #[41,41] 41 #[vs[j],.slice (IQ w.heap.size 0) 1 1]).run Tryz.prog (w.alloc (Ic x))=.ok (.slice (IQ g 0) (l.length+1) cap) a∧
  a.frozen? ⟨b,j,none⟩=false∧(∃u,a.cell? ⟨b,j,none⟩=some u)∧
  OwnRows (a.setCell ⟨b,j,none⟩ (.slice (IQ g 0) (l.length+1) cap)) B b (vs.set j (.slice (IQ g 0) (l.length+1) cap)) (d.set j (l++[x]))∧
  Keeps (·<B) w (a.setCell ⟨b,j,none⟩ (.slice (IQ g 0) (l.length+1) cap)):=by
 have z:vs[j]?=some vs[j]:=List.getElem?_eq_getElem E;have ho:=h.own j _ _ z hl;obtain⟨g,cap,a,Z,A,D,J,aH⟩:=bi (P:=Tryz.prog) w 41 41 3 Tryz.underlying41 cC rfl ho hB (IP x) rfl (by simpa using H) (by decide);have o:a.heap[b]?=some (.cells vs.toArray 41 (0,0)):=D.at h.blk (ho.ne_block h.blk (by decide));have V:a.ownsRow B 3 1 (.slice (IQ g 0) (l.length+1) cap) (l.length+1) (l.map (Value.int .i64)++[.int .i64 x]):=by simpa using A
 have F:OwnInts a B (.slice (IQ g 0) (l.length+1) cap) (l++[x]):=by
  unfold OwnInts;simpa using V
 have aL:g≠b:=by
  have :=F.ne_block o (by decide)
  simpa [Value.ownBlock]using this
 have a8:B≤g:=(F.low (g:=g) (by simp[Value.ownBlock])).1;have X:∀k,k≠b→(a.setCell ⟨b,j,none⟩ (.slice (IQ g 0) (l.length+1) cap)).heap[k]?=a.heap[k]?:=fun k p=>aS p _ _;have C:j<d.length:=by rw[←h.len];exact E
 refine⟨g,cap,a,by rw[ai h.blk];simp[E],?_,Z,ao o _,⟨vs[j],by rw[ai o];simp[E]⟩,⟨?_,h.low,by simp[h.len],?_,?_⟩,?_⟩
 ·rcases ho.2 with⟨e,h0⟩|⟨g',Y,bL,e,_⟩
  ·rw[e];have :l.length=0:=by simpa using h0
   exact⟨none,0,by rw[this]⟩
  ·exact⟨_,_,by rw[e]⟩
 ·rw[aj o];simp
 ·intro i v r hv m;have N:Keeps (·≠b) a (a.setCell ⟨b,j,none⟩ (.slice (IQ g 0) (l.length+1) cap)):=(af (·≠b) a).setCell (fun n=>n.2 rfl) _;have y:∀{v:Value} {r:List Int},OwnInts a B v r→OwnInts (a.setCell ⟨b,j,none⟩ (.slice (IQ g 0) (l.length+1) cap)) B v r:=fun n=>n.keep N fun k p T=>n.ne_block o (by decide) (T▸p);rw[List.getElem?_set]at hv m;by_cases e:j=i
  ·subst e;rw[if_pos rfl,if_pos C]at m;rw[if_pos rfl,if_pos E]at hv;obtain rfl:=Option.some.inj hv;obtain rfl:=Option.some.inj m;exact y F
  ·rw[if_neg e]at m hv;refine y ((h.own i v r hv m).keep D fun k p O=>e ?_);exact h.apart j i _ _ k z hv O p
 ·intro i L v v' k hv f p q;have t:∀{i:Nat} {v:Value},i≠j→vs[i]?=some v→v.ownBlock≠some g:=by
   intro i v U hv G;rcases J with J|J
   ·exact U (h.apart i j _ _ g hv z G J)
   ·obtain⟨r,m⟩:∃r,d[i]?=some r:=⟨_,List.getElem?_eq_getElem (by rw[←h.len];exact(List.getElem?_eq_some_iff.1 hv).1)⟩;have :=((h.own i v r hv m).low G).2;omega
  rw[List.getElem?_set]at hv f;by_cases e:j=i
  ·rw[if_pos e,if_pos E]at hv;obtain rfl:=Option.some.inj hv;by_cases I:j=L
   ·omega
   ·rw[if_neg I]at f;simp only[Value.ownBlock,Option.some.injEq]at p;subst p;exact absurd q (t (fun n=>I n.symm) f)
  ·rw[if_neg e]at hv;by_cases I:j=L
   ·rw[if_pos I,if_pos E]at f;obtain rfl:=Option.some.inj f;simp only[Value.ownBlock,Option.some.injEq]at q;subst q;exact absurd p (t (fun n=>e n.symm) hv)
   ·rw[if_neg I]at f;exact h.apart i L _ _ k hv f p q
 ·refine(D.mono (S':=(·<B)) fun x hx M n=>?_).setCell (fun n=>by have :=h.low;have :b<B:=n.2;omega) _;have :=(ho.low n).1;have :x<B:=M;omega
theorem jX:(Tryz.prog.info? 41).map (fun i=>(i.zero,i.size,i.bytes))=some (some (.slice none 0 0),1,24):=by kernel_rfl
theorem zY {n:Nat}:madeCells (Value.cells IM) (n*1)=(List.replicate n (Value.slice none 0 0)).toArray:=by
 apply Array.ext
 ·simp[size_madeCells]
 ·intro i h1 h2;simp[madeCells,Value.cells,Nat.mod_one]
theorem gV {P:Program} (w:World) (t r e:TypeId) {z:Value} {bytes:Nat} (u:P.underlying t=some (.slice e)) (B:(P.info? e).map (fun i=>(i.zero,i.size,i.bytes))=some (some z,1,bytes))
 (h:z.cells.size=1) {base:Nat} {v:Value} {n:Nat} {f:List Value} (c:w.ownsRow base e 1 v n f) (q:base≤w.heap.size) (x:Value) (hx:x.oneCell'=true) (y:n+1≤1000000) (p:bytes≤24):
 ∃g cap a,(Builtin.append_ #[t,t] r #[v,.slice (IQ w.heap.size 0) 1 1]).run P (w.alloc (.cells #[x] e))=.ok (.slice (IQ g 0) (n+1) cap) a∧
  a.ownsRow base e 1 (.slice (IQ g 0) (n+1) cap) (n+1) (f++[x])∧Keeps (fun b=>v.ownBlock≠some b) w a∧(v.ownBlock=some g∨w.heap.size≤g)∧g<a.heap.size:=by
 obtain⟨s,o,m,l,j⟩:=info_parts B;have D:(n+1)*bytes≤140737488355328:=Nat.le_trans (Nat.mul_le_mul y p) (by omega);obtain⟨g,cap,a,h1,h2,F,d,E⟩:=run_append_lies (P:=P) _ t r base e s z 1 bytes u o m l j h (by decide) v n f (c.alloc (.cells #[x] e))
  ⟨w.heap.size,0,none⟩ 1 1 [x] rfl (World.news_of_block (cs:=#[x]) (ag w (.cells #[x] e))) (by simp[hx]) (by decide) (by unfold maxLen;omega) D (by simp;omega) (w.heap.size+1) (by simp)
 refine⟨g,cap,a,h1,h2,((af _ w).alloc _).grown F (by intro k A C;exact C.2 A),?_,E⟩;rcases d with d|d
 ·exact .inl d
 ·exact .inr (by omega)
theorem aN {e:TypeId} {z B B' n:Nat} {v:Value} {c:List Value} (h:w.ownsRow B e z v n c) (f:B'≤B):w.ownsRow B' e z v n c:=by
 refine⟨h.1,?_⟩;rcases h.2 with h0|⟨g,cap,b,e,d,a⟩
 ·exact .inl h0
 ·exact .inr ⟨g,cap,b,e,Nat.le_trans f d,a⟩
theorem ar {S:Nat→Prop} {f:World} {e:TypeId} {z B n:Nat} {v:Value} {d:List Value} (h:w.ownsRow B e z v n d) (k:Keeps S w f) (hs:∀b,v.ownBlock=some b→S b):f.ownsRow B e z v n d:=by
 refine⟨h.1,?_⟩;rcases h.2 with h0|⟨g,cap,c,rfl,j,i,a⟩
 ·exact .inl h0
 ·exact .inr ⟨g,cap,c,rfl,j,k.at i (hs g rfl),a⟩
theorem ah {e:TypeId} {z B n:Nat} {v:Value} {d:List Value} (h:w.ownsRow B e z v n d) {g:Nat} (b:v.ownBlock=some g):B≤g∧∃a,w.heap[g]?=some (.cells a e (0,0)):=by
 rcases h.2 with⟨rfl,h0⟩|⟨j,cap,a,rfl,i,f,c⟩
 ·simp[Value.ownBlock]at b
 ·simp[Value.ownBlock]at b;subst b;exact⟨i,a,f⟩
theorem av {e:TypeId} {z B n:Nat} {v:Value} {b:List Value} (h:w.ownsRow B e z v n b):∃s c,v=.slice s n c:=by
 rcases h.2 with⟨e,h0⟩|⟨f,a,d,e,_⟩
 ·exact⟨none,0,by rw[e,h0]⟩
 ·exact⟨_,_,e⟩
theorem OwnInts.shape {B:Nat} {v:Value} {l:List Int} (h:OwnInts w B v l):∃s c,v=.slice s l.length c:=by
 rcases h.2 with⟨e,h0⟩|⟨d,a,b,e,_⟩
 ·exact⟨none,0,by rw[e,h0]⟩
 ·exact⟨_,_,e⟩
def OwnMat (w:World) (B:Nat) (v:Value) (rows:List (List Int)):Prop:=
 ∃vs:List Value,w.ownsRow B 41 1 v rows.length vs∧vs.length=rows.length∧∀(i:Nat) (u:Value) (l:List Int),vs[i]?=some u→rows[i]?=some l→OwnInts w B u l
theorem OwnMat.nil (w:World) (B:Nat):OwnMat w B IM []:=⟨[],World.ownsRow_nil _ _ _ _,rfl,by simp⟩
theorem OwnMat.keep {S:Nat→Prop} {j:World} {B:Nat} {v:Value} {c:List (List Int)} (h:OwnMat w B v c) (k:Keeps S w j) (hs:∀b a e,w.heap[b]?=some (.cells a e (0,0))→B≤b→S b):OwnMat j B v c:=by
 obtain⟨vs,h1,h2,o⟩:=h;refine⟨vs,ar h1 k fun b f=>?_,h2,fun i u l m n=>(o i u l m n).keep k fun b f=>?_⟩
 ·obtain⟨g,a,d⟩:=ah h1 f;exact hs b a _ d g
 ·obtain⟨g,a,d⟩:=ah (o i u l m n) f;exact hs b a _ d g
theorem OwnMat.same {b:World} {B:Nat} {v:Value} {a:List (List Int)} (h:OwnMat w B v a) (k:Same w b):OwnMat b B v a:=h.keep k fun _ _ _ _ _=>trivial
theorem OwnMat.below {B B':Nat} {v:Value} {a:List (List Int)} (h:OwnMat w B v a) (b:B'≤B):OwnMat w B' v a:=by
 obtain⟨vs,h1,h2,e⟩:=h;exact⟨vs,aN h1 b,h2,fun i u l c d=>aN (e i u l c d) b⟩
theorem OwnMat.shape {B:Nat} {v:Value} {a:List (List Int)} (h:OwnMat w B v a):∃s c,v=.slice s a.length c:=by
 obtain⟨vs,h1,h2,f⟩:=h;rcases h1.2 with⟨e,h0⟩|⟨g,b,d,e,_⟩
 ·exact⟨none,0,by rw[e,h0]⟩
 ·exact⟨_,_,e⟩
theorem OwnMat.rows {B:Nat} {v:Value} {a:List (List Int)} (h:OwnMat w B v a) (k:∀l∈a,∀x∈l,aK x):RowsAt w v a:=by
 obtain⟨vs,h1,h2,m⟩:=h;refine⟨vs,?_,h2,fun i u l f c=>(m i u l f c).ints (k l (List.mem_of_getElem? c))⟩;rcases h1.2 with⟨rfl,h0⟩|⟨g,cap,b,rfl,p,j,o,e,n,d⟩
 ·have :vs=[]:=List.eq_nil_of_length_eq_zero (by omega)
  subst this;exact⟨none,0,rfl,Nat.le_refl _,Nat.zero_le _,.inl rfl⟩
 ·refine⟨_,cap,by rw[h2],by omega,e,.inr ⟨g,0,b,_,_,rfl,j,fun i x hx=>?_⟩⟩;rw[←d]at hx;rw[List.getElem?_take]at hx
  split at hx
  ·simpa using hx
  ·cases hx
theorem OwnMat.push {B:Nat} {v u:Value} {a:List (List Int)} {l:List Int} (h:OwnMat w B v a) (G:B≤w.heap.size) (q:OwnInts w B u l) (C:a.length+1≤1000000):
 ∃g cap c,(Builtin.append_ #[140,140] 140 #[v,.slice (IQ w.heap.size 0) 1 1]).run Tryz.prog (w.alloc (.cells #[u] 41))=.ok (.slice (IQ g 0) (a.length+1) cap) c∧
  OwnMat c B (.slice (IQ g 0) (a.length+1) cap) (a++[l])∧Keeps (fun b=>v.ownBlock≠some b) w c∧Keeps (·<B) w c∧g<c.heap.size∧(v.ownBlock=some g∨w.heap.size≤g):=by
 obtain⟨vs,h1,h2,H⟩:=h;have j:u.oneCell'=true:=by
  rcases q.2 with⟨rfl,_⟩|⟨g,cap,p,rfl,_⟩<;>rfl
 obtain⟨g,cap,c,A,y,n,t,s⟩:=gV (P:=Tryz.prog) w 140 140 41 Tryz.underlying140 jX rfl h1 G u j C (by decide);refine⟨g,cap,c,A,⟨vs++[u],by simpa using y,by simp[h2],fun i z m f d=>?_⟩,n,n.mono fun x _ hx e=>?_,s,t⟩
 ·have k:∀{z:Value} {m:List Int},OwnInts w B z m→OwnInts c B z m:=fun r=>r.keep n fun b F e=>by
   obtain⟨_,p,E⟩:=ah h1 e;exact r.ne_block E (by decide) F
  by_cases D:i<a.length
  ·rw[List.getElem?_append_left (by omega)]at f;rw[List.getElem?_append_left D]at d;exact k (H i z m f d)
  ·have o:i=a.length:=by
    have :=(List.getElem?_eq_some_iff.1 d).1;simp at this;omega
   subst o;rw[List.getElem?_append_right (by omega)]at f d;simp[h2]at f d;subst f;subst d;exact k q
 ·have :x<B:=hx
  have :=(ah h1 e).1;omega
theorem tj {P:Program} {t e:TypeId} {z:Value} {bytes:Nat} (y:P.underlying t=some (.slice e)) (O:(P.info? e).map (fun i=>(i.zero,i.size,i.bytes))=some (some z,1,bytes)) (p:z.cells.size=1) (C:bytes≤16)
 {B:Nat} {v u:Value} {l m:List Value} (d:w.ownsRow B e 1 v l.length l) (I:SliceAt w u m) (o:∀x∈m,x.oneCell'=true) (X:B≤w.heap.size) (L:l.length+m.length≤2199023255552):
 ∃h n,(Builtin.append_ #[t,t] t #[v,u]).run P w=.ok h n∧n.ownsRow B e 1 h (l.length+m.length) (l++m)∧Keeps (fun b=>v.ownBlock≠some b) w n∧(h.ownBlock=v.ownBlock∨h.ownBlock=some w.heap.size):=by
 obtain⟨H,f,s,r,q⟩:=info_parts O;obtain⟨a,c,rfl,h1,h2,E⟩:=I;have V:(l.length+m.length)*bytes≤140737488355328:=Nat.le_trans (Nat.mul_le_mul L C) (by omega);rcases m with _|⟨x,m⟩
 ·refine⟨v,w,?_,by simpa using d,af _ _,.inl rfl⟩;rcases d.2 with⟨rfl,h0⟩|⟨g,cap,F,rfl,_,_,A,_⟩
  ·cases a<;>simp[Builtin.append_,run_underlying y,sizeOf,typeInfo,f,Builtin.lenOf,Builtin.firstCells,loadCells,loadCellsFrom]
  ·cases a<;>simp[Builtin.append_,run_underlying y,sizeOf,typeInfo,f,Builtin.lenOf,Builtin.firstCells,loadCells,loadCellsFrom,A,storeCells]
 ·rcases E with E|⟨b,off,F,e',fr,rfl,G,Y⟩
  ·simp at E
  ·obtain⟨h,n,J,ho,U,_,D⟩:=run_append_own_at (P:=P) w B t t e H z 1 bytes y f s r q p (by decide) v l.length l d ⟨b,off,none⟩ (x::m).length c (x::m)
    (by simp) (fun j u N=>by
     have :=Y j u N;unfold Addr.add
     split
     ·rename_i Z;subst Z;rw[ai G];exact this
     ·show w.cell? ⟨b,off+j,none⟩=_;rw[ai G];exact this) o (by unfold maxLen;omega) V X
   exact⟨h,n,J,ho,(af _ w).grown U (fun k M T=>T.2 M),D⟩
theorem gm:(Tryz.prog.info? 4).map (fun i=>(i.zero,i.size,i.bytes))=some (some (.bool false),1,1):=by kernel_rfl
def OwnBools (w:World) (B:Nat) (v:Value) (l:List Bool):Prop:=w.ownsRow B 4 1 v l.length (l.map Value.bool)
theorem rK {e:TypeId} {B n:Nat} {v:Value} {a:List Value} (h:w.ownsRow B e 1 v n a) (f:n=a.length):SliceAt w v a:=by
 subst f;rcases h.2 with⟨rfl,h0⟩|⟨g,cap,b,rfl,m,j,l,d,k,c⟩
 ·have :a=[]:=List.eq_nil_of_length_eq_zero (by omega)
  subst this;exact⟨none,0,rfl,Nat.le_refl _,Nat.zero_le _,.inl rfl⟩
 ·refine⟨_,cap,rfl,by omega,d,.inr ⟨g,0,b,_,_,rfl,j,fun i x hx=>?_⟩⟩;rw[←c]at hx;rw[List.getElem?_take]at hx
  split at hx
  ·simpa using hx
  ·cases hx
theorem OwnBools.bools {B:Nat} {v:Value} {l:List Bool} (h:OwnBools w B v l):BoolsAt w v l:=rK h (by simp)
theorem yq (w:World) (e:TypeId) {B:Nat} (a:B≤w.heap.size):(w.alloc (.cells #[] e)).ownsRow B e 1 (.slice (IQ w.heap.size 0) 0 0) 0 []:=
 World.ownsRow_lit (base:=B) (e:=e) (size:=1) w #[] 0 a (Nat.zero_le _) rfl
theorem iU {v:Value} {l:List Bool} (hv:BoolsAt w v l) (h0:0<l.length) (s:l.length≤1000)
 (j:∀e f u,e=.returned u→OwnBools f w.heap.size u l→Same w f→R e f):
 Calls Tryz.prog 168 #[v] w R:=by
 have n:=ae j;clear j;have m:=ae hv;obtain⟨a,c,rfl,k,g,d⟩:=hv.open;obtain⟨b,off,rfl,_,_⟩:=d 0 h0;obtain⟨q,f,h,ho,i,_⟩:=tj (t:=164) Tryz.underlying164 gm rfl (by decide) (yq w 4 (Nat.le_refl _)) (SliceAt.same m.o ((af _ w).alloc _)) (by intro x hx;obtain⟨y,_,rfl⟩:=List.mem_map.1 hx;rfl) (by simp) (by simp;omega);have o:=ae ho;have p:Hid (Same w f):=ae (((af _ w).alloc _).trans i fun x hx _=>⟨trivial,by simp[Value.ownBlock];omega⟩);clear d hv ho i;unfold maxLen at g;go_enter Tryz.func168,Tryz.ntmps168;have r:(binOp .eql 164 (.slice (IQ b off) l.length c) IM).run Tryz.prog w=.ok (.bool false) w:=by
  simp[binOp,run_equal_slice_nil w 164 4 _ _ _ Tryz.underlying164]
 go_wp2_with (at_builtin;refine ap rfl _ _ _ rfl rfl rfl h ?_;clear h)
 exact n.o _ _ _ rfl (by simpa [OwnBools]using o.o) p.o
end
end Go.Proofs.YtojegnbejmeehaaGreatDoor
