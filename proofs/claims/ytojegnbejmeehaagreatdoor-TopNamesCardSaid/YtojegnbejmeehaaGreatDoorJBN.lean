/- Helpers of the proof of TopNames. -/
import Derived.Test.YtojegnbejmeehaaGreatDoorJAY
import Derived.Test.YtojegnbejmeehaaGreatDoorJBI
import Derived.Test.YtojegnbejmeehaaGreatDoorJBM
namespace Go.Proofs.YtojegnbejmeehaaGreatDoor
open Go.RowKit
set_option maxRecDepth 10000
set_option maxHeartbeats 16000000
set_option linter.all false
section
attribute [local irreducible] wpQuiet ax au aQ
variable {R:Ending→World→Prop} {w:World}
theorem lk {B:Nat} {v:Value} {l:List Int} (h:OwnInts w B v l) (H:l.length≤1000000) (h0:l≠[])
 (z:∀e d i,e=.returned i→OwnInts d B i (Lib.compact l)→Keeps (fun b=>v.ownBlock≠some b) w d→R e d):
 Calls Tryz.prog 235 #[v] w R:=by
 obtain⟨s,c,rfl⟩:=h.shape;rcases id h with⟨h1,⟨h2,E⟩|⟨g,cap,F,o,C,y,j,r,p,G⟩⟩
 ·exact absurd (List.eq_nil_of_length_eq_zero E) h0
 ·simp only[Value.slice.injEq,true_and]at o;obtain⟨rfl,rfl⟩:=o;obtain⟨A,t⟩:=qQ h;refine(Tryz.slices_Compact_int g 0 c l w A (by omega) j).mono ?_;rintro e d ⟨rfl,q,rfl⟩;have f:(Lib.compact l).length≤l.length:=by
   unfold Lib.compact Lib.compactUpTo;rw[List.length_map];have :=List.length_filter_le (Lib.keeps l.toArray) (List.range l.length)
   simpa using this
  have a:(Lib.compact l++List.replicate (l.length -(Lib.compact l).length) 0).length=l.length:=by simp;omega
  refine z _ _ _ rfl ?_ ((af _ w).grown (row:=some g) ?_ (fun k u x=>x.2 (by simpa [Value.ownBlock]using u)))
  ·have D:=Go.ownsRow_sortedI (w:=w) (n:=q) (os:=#[]) (base:=B) (cap:=c) (e:=3) (ss:=l) (ts:=Lib.compact l++List.replicate (l.length -(Lib.compact l).length) 0) a C y j r p;have m:=lR D f;rw[List.map_append,List.take_append_of_le_length (by simp),List.take_of_length_le (by simp)]at m;unfold OwnInts
   simpa using m
  ·have :=Go.grownBy_sortedI (w:=w) (g:=g) (n:=q) (os:=#[]) (Lib.compact l++List.replicate (l.length -(Lib.compact l).length) 0).toArray
   simpa using this
theorem mU {v:Value} {l:List Int} (hv:IntsAt w v l) (A:l.length≤1000000) (h0:l≠[])
 (p:∀e h j,e=.returned j→OwnInts h w.heap.size j l→Same w h→R e h):
 Calls Tryz.prog 234 #[v] w R:=by
 have r:=ae p;clear p;have i:0<l.length:=List.length_pos_iff.2 h0;have g:=sal w (.cells #[] 3);obtain⟨j,h,k,d,o,_⟩:=nM (B:=w.heap.size) (w:=w.alloc (.cells #[] 3)) (v:=.slice (IQ w.heap.size 0) 0 0) (l:=[]) (u:=v) (m:=l) (World.ownsRow_lit (base:=w.heap.size) (e:=3) (size:=1) w #[] 0 (Nat.le_refl _) (Nat.zero_le _) rfl) (hv.same g) (by simp) (by simp;omega);obtain⟨a,c,rfl,q,n,f⟩:=hv.open;obtain⟨b,off,rfl,_⟩:=f 0 i;obtain⟨y,C,rfl⟩:=d.shape;rw[List.nil_append]at d k;have s:=ae d;have t:Hid (Same w h):=ae (g.trans o fun x hx _=>⟨trivial,by simp[Value.ownBlock];omega⟩);unfold maxLen at n;clear f d o g;go_enter Tryz.func234,Tryz.ntmps234;have z:(binOp .eql 41 (.slice (IQ b off) l.length c) IM).run Tryz.prog w=.ok (.bool false) w:=by
  simp[binOp,run_equal_slice_nil w 41 3 _ _ _ Tryz.underlying41]
 go_wp2_with (at_builtin;refine ap rfl _ _ _ rfl rfl rfl k ?_;clear k)
 exact r.o _ _ _ rfl s.o t.o
theorem DD {n:Nat} (h:n<100):(44:UInt8)∉Lib.decDigits n:=by
 by_cases h1:n<10
 ·rw[Lib.decDigits_one h1];have :∀k:Fin 10,(44:UInt8)∉[UInt8.ofNat (48+k.val)]:=by decide+kernel
  exact this ⟨n,h1⟩
 ·rw[Lib.decDigits_two h1 h];have :∀k:Fin 100,(44:UInt8)∉[UInt8.ofNat (48+k.val/10),UInt8.ofNat (48+k.val%10)]:=by decide+kernel
  exact this ⟨n,h⟩
theorem Fj {m n:Nat} (b:m<100) (a:n<100) (h:Lib.decDigits m=Lib.decDigits n):m=n:=by
 have key:∀k:Fin 100,∀j:Fin 100,(if k.val<10 then[UInt8.ofNat (48+k.val)]else[UInt8.ofNat (48+k.val/10),UInt8.ofNat (48+k.val%10)])=(if j.val<10 then[UInt8.ofNat (48+j.val)]else[UInt8.ofNat (48+j.val/10),UInt8.ofNat (48+j.val%10)])→k=j:=by decide+kernel
 have e:∀{k:Nat},k<100→Lib.decDigits k=(if k<10 then[UInt8.ofNat (48+k)]else[UInt8.ofNat (48+k/10),UInt8.ofNat (48+k%10)]):=fun{k} c=>by
  by_cases h1:k<10
  ·rw[Lib.decDigits_one h1,if_pos h1]
  ·rw[Lib.decDigits_two h1 c,if_neg h1]
 rw[e b,e a]at h;have :=key ⟨m,b⟩ ⟨n,a⟩ h
 simpa using this
theorem tI {c:UInt8}:∀{a b x y:List UInt8},c∉a→c∉b→a++c::x=b++c::y→a=b∧x=y
 | [],[],_,_,_,_,h=>⟨rfl,by simpa using h⟩
 | [],z::b,x,y,_,h2,h=>by simp at h;exact absurd (h.1▸List.mem_cons_self ..) h2
 |z::a,[],x,y,h1,_,h=>by simp at h;exact absurd (h.1▸List.mem_cons_self ..) h1
 |z::a,z'::b,x,y,h1,h2,h=>by
  simp only[List.cons_append,List.cons.injEq]at h;have :=tI (fun e=>h1 (List.mem_cons_of_mem _ e)) (fun e=>h2 (List.mem_cons_of_mem _ e)) h.2;exact⟨by rw[h.1,this.1],this.2⟩
theorem uL:∀{a b:List Nat},(∀n∈a,n<100)→(∀n∈b,n<100)→fT a=fT b→a=b
 | [],[],_,_,_=>rfl
 | [],n::b,_,_,h=>by simp[fT]at h
 |n::a,[],_,_,h=>by simp[fT]at h
 |m::a,n::b,ha,hb,h=>by
  simp only[fT,List.flatMap_cons,List.append_assoc,List.cons_append,List.nil_append]at h;have e:=ha m (List.mem_cons_self ..);have d:=hb n (List.mem_cons_self ..);obtain⟨h1,h2⟩:=tI (DD e) (DD d) h;rw[Fj e d h1,uL (fun k c=>ha k (List.mem_cons_of_mem _ c)) (fun k c=>hb k (List.mem_cons_of_mem _ c)) h2]
def ke (l:List Nat):ByteArray:=⟨(fT l).toArray⟩
theorem uJ {a b:List Nat} (d:∀n∈a,n<100) (c:∀n∈b,n<100) (h:ke a=ke b):a=b:=by
 refine uL d c ?_;have :=congrArg (fun x:ByteArray=>x.data.toList) h
 simpa [ke]using this
def OwnMatG (w:World) (B:Nat) (v:Value) (rows:List (List Int)) (G:Nat→Prop):Prop:=
 ∃vs:List Value,w.ownsRow B 41 1 v rows.length vs∧vs.length=rows.length∧(∀(i:Nat) (u:Value) (l:List Int),vs[i]?=some u→rows[i]?=some l→OwnInts w B u l)∧∀u∈vs,∀b,u.ownBlock=some b→G b
theorem OwnMatG.mat {B:Nat} {v:Value} {a:List (List Int)} {G:Nat→Prop} (h:OwnMatG w B v a G):OwnMat w B v a:=by
 obtain⟨vs,h1,h2,b,_⟩:=h;exact⟨vs,h1,h2,b⟩
theorem OwnMatG.nil (w:World) (B:Nat) (G:Nat→Prop):OwnMatG w B IM [] G:=⟨[],World.ownsRow_nil _ _ _ _,rfl,by simp,by simp⟩
theorem OwnMatG.keep2 {S G:Nat→Prop} {e:World} {B:Nat} {v:Value} {a:List (List Int)} (h:OwnMatG w B v a G) (k:Keeps S w e) (h1:∀b,v.ownBlock=some b→S b) (h2:∀b c,w.heap[b]?=some (.cells c 3 (0,0))→G b→S b):OwnMatG e B v a G:=by
 obtain⟨vs,o,n,g,f⟩:=h;refine⟨vs,ar o k h1,n,fun i u l d j=>(g i u l d j).keep k fun b m=>?_,f⟩;obtain⟨_,c,p⟩:=ah (g i u l d j) m;exact h2 b c p (f u (List.mem_of_getElem? d) b m)
theorem OwnMatG.mono {B:Nat} {v:Value} {a:List (List Int)} {G G':Nat→Prop} (h:OwnMatG w B v a G) (n:∀b,b<w.heap.size→G b→G' b):OwnMatG w B v a G':=by
 obtain⟨vs,j,g,c,f⟩:=h;refine⟨vs,j,g,c,fun u d b e=>?_⟩;obtain⟨i,l,rfl⟩:=List.mem_iff_getElem.1 d;have k:i<a.length:=by omega
 obtain⟨_,o,m⟩:=ah (c i _ _ (List.getElem?_eq_getElem l) (List.getElem?_eq_getElem k)) e;exact n b (am m) (f _ d b e)
theorem OwnMatG.push {B:Nat} {v u:Value} {a:List (List Int)} {l:List Int} {G:Nat→Prop} (h:OwnMatG w B v a G) (I:B≤w.heap.size) (s:OwnInts w B u l) (q:∀b,u.ownBlock=some b→G b) (E:a.length+1≤1000000):
 ∃g cap d,(Builtin.append_ #[140,140] 140 #[v,.slice (IQ w.heap.size 0) 1 1]).run Tryz.prog (w.alloc (.cells #[u] 41))=.ok (.slice (IQ g 0) (a.length+1) cap) d∧
  OwnMatG d B (.slice (IQ g 0) (a.length+1) cap) (a++[l]) G∧Keeps (fun b=>v.ownBlock≠some b) w d∧Keeps (·<B) w d∧g<d.heap.size∧(v.ownBlock=some g∨w.heap.size≤g):=by
 obtain⟨vs,h1,h2,L,J⟩:=h;have j:u.oneCell'=true:=by
  rcases s.2 with⟨rfl,_⟩|⟨g,cap,r,rfl,_⟩<;>rfl
 obtain⟨g,cap,d,D,C,o,A,y⟩:=gV (P:=Tryz.prog) w 140 140 41 Tryz.underlying140 jX rfl h1 I u j E (by decide);refine⟨g,cap,d,D,⟨vs++[u],by simpa using C,by simp[h2],fun i z m c f=>?_,fun z c b n=>?_⟩,o,o.mono fun x _ hx e=>?_,y,A⟩
 ·have k:∀{z:Value} {m:List Int},OwnInts w B z m→OwnInts d B z m:=fun t=>t.keep o fun b n e=>by
   obtain⟨_,r,H⟩:=ah h1 e;exact t.ne_block H (by decide) n
  by_cases F:i<a.length
  ·rw[List.getElem?_append_left (by omega)]at c;rw[List.getElem?_append_left F]at f;exact k (L i z m c f)
  ·have p:i=a.length:=by
    have :=(List.getElem?_eq_some_iff.1 f).1;simp at this;omega
   subst p;rw[List.getElem?_append_right (by omega)]at c f;simp[h2]at c f;subst c;subst f;exact k s
 ·rcases List.mem_append.1 c with c|c
  ·exact J z c b n
  ·rw[List.mem_singleton.1 c]at n;exact q b n
 ·have :x<B:=hx
  have :=(ah h1 e).1;omega
structure PoolSt (w:World) (B p mm:Nat) (vl:Value) (L:List (List Nat)) (G:Nat→Prop):Prop where
 blk:w.heap[p]?=some (.cells #[vl,.map (some mm)] 289)
 map:MapAt Value.string w mm (eG (L.map ke))
 own:OwnMatG w B vl (L.map (·.map Int.ofNat)) G
 low:∀l∈L,∀n∈l,n<100
theorem PoolSt.keep2 {S G:Nat→Prop} {e:World} {B p c:Nat} {a:Value} {L:List (List Nat)} (h:PoolSt w B p c a L G) (k:Keeps S w e) (f:S p) (g:S c) (h1:∀b,a.ownBlock=some b→S b) (h2:∀b d,w.heap[b]?=some (.cells d 3 (0,0))→G b→S b):PoolSt e B p c a L G:=
 ⟨k.at h.blk f,h.map.keep k g,h.own.keep2 k h1 h2,h.low⟩
theorem PoolSt.same {a:World} {B p c:Nat} {b:Value} {L:List (List Nat)} {G:Nat→Prop} (h:PoolSt w B p c b L G) (k:Same w a):PoolSt a B p c b L G:=h.keep2 k trivial trivial (fun _ _=>trivial) fun _ _ _ _=>trivial
theorem PoolSt.look {B p d:Nat} {f:Value} {L:List (List Nat)} {G:Nat→Prop} (h:PoolSt w B p d f L G) {l:List Nat} (g:∀n∈l,n<100):(Instr.lookup 287 (.map (some d)) (.string (ke l)) true).run Tryz.prog w=.ok (.tuple (if l∈L then (Iz ((gF L l:Nat):Int) true)else (Iz 0 false))) w:=by
 have h1:=b8 (P:=Tryz.prog) (cP Tryz.underlying9) Tryz.underlying287 (gB w) h.map (ke l);rw[dI]at h1;have a:∀y∈L,ke y=ke l→y=l:=fun y b e=>uJ (h.low y b) g e;by_cases c:l∈L
 ·rw[if_pos (List.mem_map.2 ⟨l,c,rfl⟩)]at h1;rw[if_pos c];have h2:gF (L.map ke) (ke l)=gF L l:=uQ ke a;unfold gF at h2⊢;rw[h2]at h1
  simpa using h1
 ·rw[if_neg (fun e=>by obtain⟨y,b,i⟩:=List.mem_map.1 e;exact c (a y b i▸b))]at h1;rw[if_neg c]
  simpa using h1
theorem Ez {G:Nat→Prop} (c:∀e a b,e=.returned (.pointer (some ⟨w.heap.size+1,0,none⟩))→PoolSt a w.heap.size (w.heap.size+1) b IM [] G→b=w.heap.size→Same w a→R e a):
 Calls Tryz.prog 208 #[] w R:=by
 have i:=ae c;clear c;have f:=@run_makeMap Tryz.prog;go_enter Tryz.func208,Tryz.ntmps208;go_wp2_with fail;have d:=ag (w.alloc (.map #[] 0)) (.cells #[IM,.map (some w.heap.size)] 289);have h:=aw (ag w (.map #[] 0)) (.cells #[IM,.map (some w.heap.size)] 289);have g:(w.alloc (.map #[] 0)).heap.size=w.heap.size+1:=by simp
 rw[g]at d;exact i.o _ _ _ (by simp) ⟨d,⟨_,_,h,rfl⟩,OwnMatG.nil _ _ _,by simp⟩ rfl (((af _ _).alloc _).alloc _)
theorem lL {B p d:Nat} {b:Value} {L:List (List Nat)} {G:Nat→Prop} (h:PoolSt w B p d b L G) (a:∀e,e=.returned (IP (L.length:Int))→R e w):
 Calls Tryz.prog 210 #[.pointer (IQ p 0)] w R:=by
 have g:=ae a;clear a;obtain⟨s,c,rfl⟩:=h.own.mat.shape;have f:=ai h.blk 0;simp only[List.getElem?_toArray,List.getElem?_cons_zero,List.length_map]at f;go_enter Tryz.func210,Tryz.ntmps210;go_wp2_with fail;exact g.o _ rfl
theorem Cz:leI=fun x y=>decide (x≤y):=rfl
theorem pJ {l:List Nat} (h:l.Pairwise (·<·)):Lib.compact ((l.map Int.ofNat).mergeSort leI)=l.map Int.ofNat:=by
 rw[Cz,rE,vv h]
theorem BJ {B p mm:Nat} {vl v:Value} {L:List (List Nat)} {l:List Nat} {G:Nat→Prop} (h:PoolSt w B p mm vl L G) (hv:IntsAt w v (l.map Int.ofNat)) (hl:l.Pairwise (·<·)) (A:l≠[]) (u:∀n∈l,n<100) (aH:l.length≤400) (hp:l∈L)
 (hR:∀e m,e=.returned (IP ((gF L l:Nat):Int))→Same w m→R e m):
 Calls Tryz.prog 233 #[.pointer (IQ p 0),v] w R:=by
 have HR:=ae hR;have T:=ae h;have f:=ae u;have HP:=ae hp;have d:=pJ hl;obtain⟨g,i⟩:∃g,g=l.map Int.ofNat:=⟨_,rfl⟩;rw[←i]at hv d;have C:g.length=l.length:=by rw[i,List.length_map]
 have H:=ae i;have o:g.length≤1000000:=by omega
 have t:g≠[]:=by rw[i];simpa using A
 have j:=ae d;obtain⟨sv,cv,rfl⟩:∃s c,v=.slice s g.length c:=by obtain⟨a,c,e,_⟩:=hv.open;exact⟨a,c,e⟩
 have HV:=ae hv;clear hR h u hp hv hl i d C;go_enter Tryz.func233,Tryz.ntmps233;go_wp2_with fail;refine mU HV.o o t ?_;rintro e w1 u1 rfl N k1;obtain⟨s1,c1,rfl⟩:=N.shape;have O1:=ae N;have K1:=ae k1;clear N k1;go_wp2_with fail;refine lG O1.o o ?_;rintro e w2 rfl Z k2;have E:∀b,(Value.slice s1 g.length c1).ownBlock=some b→w.heap.size≤b:=fun b hb=>(ah O1.o hb).1;have I:=ae E;have O2:=ae Z;have K2:Hid (Same w w2):=ae (K1.o.trans k2 fun x hx _=>⟨trivial,fun e=>by have :=I.o x e;omega⟩);have D:(g.mergeSort leI).length≤1000000:=by rw[List.length_mergeSort];exact o
 have r:g.mergeSort leI≠[]:=fun e=>t (List.eq_nil_of_length_eq_zero (by have :=congrArg List.length e;rwa [List.length_mergeSort]at this));clear Z k2 E;go_wp2_with fail;refine lk O2.o D r ?_;rintro e q u3 rfl J k3;rw[j.o]at J;obtain⟨s3,c3,rfl⟩:=J.shape;have O3:=ae J;have K3:Hid (Same w q):=ae (K2.o.trans k3 fun x hx _=>⟨trivial,fun e=>by have :=I.o x e;omega⟩);have z:=ae (T.o.same K3.o);clear J k3 o D r j;obtain⟨sl,cl,rfl⟩:=z.o.own.mat.shape;go_wp2_with fail;have M:Same q q.drew:=al (af (fun _=>True) q);have U:=ae z.o.blk;have Y:Hid (IntsAt q (.slice s3 g.length c3) g):=ae (O3.o.ints (fun x hx=>by rw[H.o]at hx;obtain⟨n,hn,rfl⟩:=bQ.1 hx;have :=f.o n hn;constructor<;>omega));refine az (.take 0 (.take 1 (.take 2 (.take 3 (.take 4 (.one 5 (.take 6 (.take 7 (.take 8 (.take 9 (.take 10 (.take 11 .done)))))))))))) (Same q) (by kernel_rfl) (by kernel_rfl) M ?_
 iterate 5 (first|(apply aF;rfl;rfl;go_simp)|(apply aD;rfl;rfl;intro m O;have b1:=ai (O.at U.o trivial) 1;simp only[List.getElem?_toArray,List.getElem?_cons_zero,List.getElem?_cons_succ]at b1;go_simp;exact rfl;go_simp))
 refine aP (ay rfl rfl fun K F=>?_);go_simp;refine rS (H.o▸Y.o.same M) f.o (by omega) A ?_;rintro e w4 rfl k4;have y:=M.tr k4;refine F (Same q) _ _ y (fun _ h=>h) ?_;clear F K;have V:Hid (∀m:World,Same q m→(Instr.lookup 287 (.map (some mm)) (.string ⟨(fT l).toArray⟩) true).run Tryz.prog m=.ok (.tuple (Iz ((gF L l:Nat):Int) true)) m):=ae fun m k=>by
  have :=(z.o.same k).look f.o;rw[if_pos HP.o]at this;exact this
 iterate 6 (first|(apply aF;rfl;rfl;go_simp)|(apply aD;rfl;rfl;intro m O;have aL:=V.o _ O;go_simp;exact rfl;go_simp))
 refine aW ?_;have X:=ae (K3.o.tr y);clear y k4 M;go_wp2_with fail;exact HR.o _ _ rfl X.o
theorem ED {B p r:Nat} {vl v:Value} {L:List (List Nat)} {l:List Nat} {G:Nat→Prop} (h:PoolSt w B p r vl L G) (hv:IntsAt w v (l.map Int.ofNat)) (hl:l.Pairwise (·<·)) (dp:l≠[]) (cE:∀n∈l,n<100) (Jf:l.length≤400) (hp:l∉L) (hB:B≤w.heap.size) (hL:L.length≤1000) (hG:∀b,w.heap.size≤b→G b)
 (hR:∀e C fd,e=.returned (IP (L.length:Int))→PoolSt C B p r fd (L++[l]) G→Keeps (fun b=>b≠p∧b≠r∧vl.ownBlock≠some b) w C→(∀b,fd.ownBlock=some b→vl.ownBlock=some b∨w.heap.size≤b)→R e C):
 Calls Tryz.prog 233 #[.pointer (IQ p 0),v] w R:=by
 have I4:=ae hB;have Je:=ae hG;clear hB hG;have HR:=ae hR;have Ja:=ae h;have d:=ae cE;have HP:=ae hp;have z:=pJ hl;obtain⟨q,M⟩:∃q,q=l.map Int.ofNat:=⟨_,rfl⟩;rw[←M]at hv z;have IR:q.length=l.length:=by rw[M,List.length_map]
 have a8:=ae M;have aH:q.length≤1000000:=by omega
 have ch:q≠[]:=by rw[M];simpa using dp
 have U:=ae z;obtain⟨sv,cv,rfl⟩:∃s c,v=.slice s q.length c:=by obtain⟨a,c,e,_⟩:=hv.open;exact⟨a,c,e⟩
 have HV:=ae hv;clear hR h cE hp hv hl M z IR;go_enter Tryz.func233,Tryz.ntmps233;go_wp2_with fail;refine mU HV.o aH ch ?_;rintro e w1 u1 rfl o1 k1;obtain⟨s1,c1,rfl⟩:=o1.shape;have O1:=ae o1;have K1:=ae k1;clear o1 k1;go_wp2_with fail;refine lG O1.o aH ?_;rintro e w2 rfl o2 k2;have IW:∀b,(Value.slice s1 q.length c1).ownBlock=some b→w.heap.size≤b:=fun b i=>(ah O1.o i).1;have I5:=ae IW;have O2:=ae o2;have K2:Hid (Same w w2):=ae (K1.o.trans k2 fun x hx _=>⟨trivial,fun e=>by have :=I5.o x e;omega⟩);have IS:(q.mergeSort leI).length≤1000000:=by rw[List.length_mergeSort];exact aH
 have ce:q.mergeSort leI≠[]:=fun e=>ch (List.eq_nil_of_length_eq_zero (by have :=congrArg List.length e;rwa [List.length_mergeSort]at this));clear o2 k2 IW;go_wp2_with fail;refine lk O2.o IS ce ?_;rintro e w3 u3 rfl o3 k3;rw[U.o]at o3;obtain⟨s3,c3,rfl⟩:=o3.shape;have O3:=ae o3;have K3:Hid (Same w w3):=ae (K2.o.trans k3 fun x hx _=>⟨trivial,fun e=>by have :=I5.o x e;omega⟩);have T:=ae (Ja.o.same K3.o);clear o3 k3 aH IS ce U;obtain⟨sl,cl,rfl⟩:=T.o.own.mat.shape;go_wp2_with fail;have kd:Same w3 w3.drew:=al (af (fun _=>True) w3);have I2:=ae T.o.blk;have dZ:Hid (IntsAt w3 (.slice s3 q.length c3) q):=ae (O3.o.ints (fun x hx=>by rw[a8.o]at hx;obtain⟨n,hn,rfl⟩:=bQ.1 hx;have :=d.o n hn;constructor<;>omega));refine az (.take 0 (.take 1 (.take 2 (.take 3 (.take 4 (.one 5 (.take 6 (.take 7 (.take 8 (.take 9 (.take 10 (.take 11 .done)))))))))))) (Same w3) (by kernel_rfl) (by kernel_rfl) kd ?_
 iterate 5 (first|(apply aF;rfl;rfl;go_simp)|(apply aD;rfl;rfl;intro C hS;have b1:=ai (hS.at I2.o trivial) 1;simp only[List.getElem?_toArray,List.getElem?_cons_zero,List.getElem?_cons_succ]at b1;go_simp;exact rfl;go_simp))
 refine aP (ay rfl rfl fun K j=>?_);go_simp;refine rS (a8.o▸dZ.o.same kd) d.o (by omega) dp ?_;rintro e w4 rfl k4;have E:=kd.tr k4;refine j (Same w3) _ _ E (fun _ h=>h) ?_;clear j K;have I3:Hid (∀C:World,Same w3 C→(Instr.lookup 287 (.map (some r)) (.string ⟨(fT l).toArray⟩) true).run Tryz.prog C=.ok (.tuple (Iz 0 false)) C):=ae fun C k=>by
  have :=(T.o.same k).look d.o;rw[if_neg HP.o]at this;exact this
 iterate 6 (first|(apply aF;rfl;rfl;go_simp)|(apply aD;rfl;rfl;intro C hS;have Jg:=I3.o _ hS;go_simp;exact rfl;go_simp))
 refine aW ?_;have Jc:=ae (K3.o.tr E);have O:=ae (T.o.same E);have Jd:=ae (dZ.o.same E);have O4:=ae (eK O3.o E);clear E k4 kd I3 dZ O3 T I2 K3;have b0:=ai O.o.blk 0;simp only[List.getElem?_toArray,List.getElem?_cons_zero,List.length_map]at b0;go_wp2_with fail;have Z:Same w4 w4.drew:=al (af (fun _=>True) w4);have H:=O.o.blk;rw[List.length_map]at H;have V:=ae H;clear H b0;refine az (.take 0 (.take 1 (.take 2 (.take 3 (.take 4 (.take 6 (.one 5 (.one 7 .done)))))))) (fun C=>C.heap[p]?=some (.cells #[.slice sl L.length cl,.map (some r)] 289)) (by kernel_rfl) (by kernel_rfl) (Z.at V.o trivial) ?_
 iterate 6 (first|(apply aF;rfl;rfl;go_simp)|(apply aD;rfl;rfl;intro C hS;have b1:=ai hS 1;simp only[List.getElem?_toArray,List.getElem?_cons_zero,List.getElem?_cons_succ]at b1;go_simp;exact rfl;go_simp))
 refine aP (ay rfl rfl fun K j=>?_);go_simp;refine rS (a8.o▸Jd.o.same Z) d.o (by omega) dp ?_;rintro e w5 rfl k5;have u:=Z.tr k5;refine j _ _ _ (u.at V.o trivial) (fun _ h=>h) ?_;clear j K;have D:=O.o.same u;have gJ:ke l∉L.map ke:=fun e=>by
  obtain⟨y,hy,e2⟩:=List.mem_map.1 e;exact HP.o (uJ (O.o.low y hy) d.o e2▸hy)
 obtain⟨w6,gI,m6,k6⟩:=aR (P:=Tryz.prog) (cP Tryz.underlying9) Tryz.underlying287 D.map (ke l) (IP (L.length:Int)) (by rw[dI,if_neg gJ]);have Y:MapAt Value.string w6 r (eG ((L++[l]).map ke)):=by
  rw[List.map_append,List.map_cons,List.map_nil,kI,List.length_map];exact m6
 have J:∀{b:Nat} {cs:Array Value} {t:TypeId},w5.heap[b]?=some (.cells cs t (0,0))→b≠r:=fun i e=>by
  obtain⟨es,I0,hm,_⟩:=D.map;subst e;rw[hm]at i;cases i
 have f:=k6.at (u.at V.o trivial) (J D.blk);have A:=D.own.keep2 k6 (fun b i=>by
  obtain⟨vs,q1,_⟩:=D.own;obtain⟨_,N,X⟩:=ah q1 i;exact J X) fun b N i _=>J i
 have I6:∀b,(Value.slice s3 q.length c3).ownBlock=some b→w.heap.size≤b:=fun b i=>(ah O4.o i).1;have o6:OwnInts w6 w.heap.size (.slice s3 q.length c3) q:=(eK O4.o u).keep k6 fun b i=>by
  obtain⟨_,N,X⟩:=ah (eK O4.o u) i;exact J X
 have dE:Hid (Keeps (·≠r) w w6):=ae ((((Jc.o.tr u).mono fun _ _ _=>trivial:Keeps (fun _=>True) w w5).mono fun _ _ _=>trivial).tr k6);have gH:(Instr.mapUpdate 287 (.map (some r)) (.string ⟨(fT l).toArray⟩) (IP (L.length:Int))).run Tryz.prog w5=.ok () w6:=gI;refine aP (ay rfl rfl fun K j=>?_);go_simp;refine j _ _ _ f (fun _ h=>h) ?_;clear j K gI gH;refine aW ?_;have IZ:B≤w6.heap.size:=Nat.le_trans I4.o dE.o.size;have fw:OwnInts w6 B (.slice s3 q.length c3) q:=aN o6 I4.o;obtain⟨g,cap,w8,cH,F,k8,_,I8,aL⟩:=A.push IZ fw (fun b i=>Je.o b (ah o6 i).1) (by rw[List.length_map];omega);have I:∀{b:Nat} {cs:Array Value} {t:TypeId},w6.heap[b]?=some (.cells cs t (0,0))→t≠41→(Value.slice sl L.length cl).ownBlock≠some b:=fun i ht e=>by
  obtain⟨vs,q1,_⟩:=A;rw[List.length_map]at q1;obtain⟨_,N,X⟩:=ah q1 e;rw[i]at X;simp only[Option.some.injEq,Obj.cells.injEq]at X;exact ht X.2.1
 rw[List.length_map]at cH F k8 aL;have o:=k8.at f (I f (by decide));have If:r≠p:=fun e=>by
  obtain⟨es,I0,hm,_⟩:=Y;subst e;rw[hm]at f;cases f
 have bL:MapAt Value.string w8 r (eG ((L++[l]).map ke)):=Y.keep k8 (show(Value.slice sl L.length cl).ownBlock≠some r from fun e=>by
  obtain⟨vs,q1,_⟩:=A;rw[List.length_map]at q1;obtain⟨_,N,X⟩:=ah q1 e;obtain⟨es,I0,hm,_⟩:=Y;rw[hm]at X;cases X)
 have I7:g≠p:=fun e=>by
  subst e;rcases aL with h|h
  ·exact I f (by decide) h
  ·have :=am f;omega
 have z0:=xc1 f 0 rfl;have z1:=xc1 o 0 rfl;have z2:=ao o 0;have k9:Keeps (·≠p) w8 (w8.setCell ⟨p,0,none⟩ (.slice (IQ g 0) (L.length+1) cap)):=(af (·≠p) w8).setCell (fun hh=>hh.2 rfl) _;have fu:PoolSt (w8.setCell ⟨p,0,none⟩ (.slice (IQ g 0) (L.length+1) cap)) B p r (.slice (IQ g 0) (L.length+1) cap) (L++[l]) G:=by
  refine⟨by rw[aj o];simp,bL.keep k9 If,?_,fun m hm=>?_⟩
  ·rw[List.map_append,List.map_cons,List.map_nil,←a8.o];exact F.keep2 k9 (fun b i=>by simp[Value.ownBlock]at i;omega) fun b N i _ I9=>by
    subst I9;rw[o]at i;simp at i
  ·rcases List.mem_append.1 hm with h|h
   ·exact O.o.low m h
   ·rw[List.mem_singleton.1 h];exact d.o
 have IT:Keeps (fun b=>b≠r∧(Value.slice sl L.length cl).ownBlock≠some b) w w8:=dE.o.trans k8 fun x _ hx=>⟨hx.1,hx.2⟩;have Jb:Hid (Keeps (fun b=>b≠p∧b≠r∧(Value.slice sl L.length cl).ownBlock≠some b) w (w8.setCell ⟨p,0,none⟩ (.slice (IQ g 0) (L.length+1) cap))):=ae (IT.trans k9 fun x _ hx=>⟨⟨hx.2.1,hx.2.2⟩,hx.1⟩);have HG:Hid (∀b,(Value.slice (IQ g 0) (L.length+1) cap).ownBlock=some b→(Value.slice sl L.length cl).ownBlock=some b∨w.heap.size≤b):=ae fun b i=>by
  simp[Value.ownBlock]at i;subst i;rcases aL with h|h
  ·exact .inl h
  ·exact .inr (Nat.le_trans dE.o.size h)
 have I1:=ae fu;clear fu k9 F IT k8 A o6 fw o bL Y m6 k6 u D J I aL I8 I7 If I6 IZ Z k5
 go_wp2_with (at_builtin;refine ap rfl _ _ _ rfl rfl rfl cH ?_;clear cH)
 exact HR.o _ _ _ rfl I1.o (by simpa only[List.length_map]using Jb.o) (by simpa only[List.length_map]using HG.o)
theorem EC {B p T i:Nat} {M:Value} {L:List (List Nat)} {l:List Nat} {G:Nat→Prop} (h:PoolSt w B p T M L G) (q:L[i]?=some l) (k:l≠[]) (H:l.length≤400) (hL:L.length≤1000)
 (I:∀e s v,e=.returned v→OwnInts s w.heap.size v (l.map Int.ofNat)→Same w s→R e s):
 Calls Tryz.prog 211 (Ia (IL p) i) w R:=by
 have HR:=ae I;clear I;have d:i<L.length:=(List.getElem?_eq_some_iff.1 q).1;have C:=ae h;obtain⟨vs,j,o,E,_⟩:=h.own;obtain⟨N,cl,rfl⟩:=av j;have Z:=ai h.blk 0;simp only[List.getElem?_toArray,List.getElem?_cons_zero,List.length_map]at Z;have c:vs[i]?=some (vs[i]'(by rw[o,List.length_map];exact d)):=List.getElem?_eq_getElem _;have b:OwnInts w B (vs[i]'(by rw[o,List.length_map];exact d)) (l.map Int.ofNat):=E i _ _ c (by rw[List.getElem?_map,q];rfl);have f:=b.ints (fun x hx=>by obtain⟨n,U,rfl⟩:=bQ.1 hx;have :=h.low l (List.mem_of_getElem? q) n U;constructor<;>omega);have y:∃g,N=some ⟨g,0,none⟩:=by
  rcases j.2 with⟨_,h0⟩|⟨g,cap,X,J,_⟩
  ·rw[List.length_map]at h0;omega
  ·simp at J;exact⟨g,J.1⟩
 obtain⟨g,rfl⟩:=y;have a:=World.ownsRow.cells j (g:=g) rfl i _ c;have m:=jl j;rw[List.length_map]at m;have V:=EG j;generalize(vs[i]'(by rw[o,List.length_map];exact d))=u at a f
 have r:w.cell? ⟨g,i,none⟩=some u:=by
  rw[show(⟨g,i,none⟩:Addr)=(⟨g,0,none⟩:Addr).add i by by_cases h0:i=0<;>simp[Addr.add,h0]];exact a
 have D:=ae f
 have A:(l.map Int.ofNat).length≤1000000:=by rw[List.length_map];omega
 have z:l.map Int.ofNat≠[]:=by simpa using k
 clear a c b f j o E h q k;go_enter Tryz.func211,Tryz.ntmps211;go_wp2_with fail;refine lL C.o ?_;rintro e rfl;go_wp2_with fail;refine mU D.o A z ?_;rintro e w2 v2 rfl t F;obtain⟨O,Y,rfl⟩:=t.shape;have O2:=ae t;have K2:=ae F;clear t F;go_wp2_with fail;exact HR.o _ _ (.slice O l.length Y) rfl (by simpa only[List.length_map]using O2.o) K2.o
end
end Go.Proofs.YtojegnbejmeehaaGreatDoor
