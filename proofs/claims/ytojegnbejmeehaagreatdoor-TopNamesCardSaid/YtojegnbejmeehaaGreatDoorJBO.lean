/- Helpers of the proof of TopNames. -/
import Derived.Test.YtojegnbejmeehaaGreatDoorJBI
import Derived.Test.YtojegnbejmeehaaGreatDoorJBM
namespace Go.Proofs.YtojegnbejmeehaaGreatDoor
open Go.RowKit
set_option maxRecDepth 10000
set_option maxHeartbeats 16000000
set_option linter.all false
section
attribute [local irreducible] wpQuiet ax au aQ
variable {R:Ending→World→Prop} {w:World} {A:Au} {B d:Nat}
def p9 (l:List Int):List (Int×Value):=l.zipIdx.map fun p=>(p.1,.int .i64 (p.2:Int))
theorem l7 (n:Int):∀(L:List Int) (i:Nat),((L.zipIdx i).map fun p=>(p.1,Value.int .i64 (p.2:Int))).lookup n=if n∈L then some (.int .i64 ((i+L.idxOf n:Nat):Int))else none
 | [],_=>by simp
 |x::L,i=>by
  by_cases h:n=x
  ·subst h;simp
  ·have h1:(n==x)=false:=by simpa using h
   have h2:(x==n)=false:=by simpa using fun e=>h e.symm
   simp only[List.zipIdx_cons,List.map_cons,List.lookup,h1,l7 n L (i+1),List.mem_cons,h,false_or,List.idxOf_cons,h2];simp[Nat.add_assoc,Nat.add_comm 1]
theorem gP (n:Int) (L:List Int):(p9 L).lookup n=if n∈L then some (.int .i64 ((L.idxOf n:Nat):Int))else none:=by
 have :=l7 n L 0
 simpa [p9]using this
theorem qS (L:List Int) (n:Int):p9 (L++[n])=p9 L++[(n,.int .i64 (L.length:Int))]:=by
 simp[p9,List.zipIdx_append]
theorem uI:KeyT Tryz.prog 3 (Value.int .i64):=E3 Tryz.underlying3
structure NmSt (w wr:World) (m:Nat) (l:List Int) (u:Value) (o:List Int):Prop where
 keep:Same w wr
 map:MapAt (Value.int .i64) wr m (p9 l)
 own:OwnInts wr w.heap.size u o
 low:w.heap.size≤m
theorem NmSt.apart {wr:World} {m:Nat} {l o:List Int} {u:Value} (h:NmSt w wr m l u o):u.ownBlock≠some m:=fun e=>by
 obtain⟨_,c,a⟩:=ah h.own e;obtain⟨g,f,b,_⟩:=h.map;rw[b]at a;cases a
theorem NmSt.push {wr:World} {m:Nat} {l o:List Int} {u:Value} (h:NmSt w wr m l u o) (x:Int) (j:o.length≤1000):
 ∃g cap c,(Builtin.append_ #[41,41] 41 #[u,.slice (IQ wr.heap.size 0) 1 1]).run Tryz.prog (wr.alloc (Ic x))=.ok (.slice (IQ g 0) (o.length+1) cap) c∧
  NmSt w c m l (.slice (IQ g 0) (o.length+1) cap) (o++[x]):=by
 obtain⟨g,cap,c,f,a,b,_,_⟩:=bi (P:=Tryz.prog) wr 41 41 3 Tryz.underlying41 cC rfl h.own h.keep.size (IP x) rfl (by omega) (by decide);refine⟨g,cap,c,f,h.keep.trans b fun y i _=>⟨trivial,fun e=>?_⟩,h.map.keep b h.apart,?_,h.low⟩
 ·have :=(h.own.low e).1;omega
 ·unfold OwnInts;simpa using a
theorem NmSt.put {wr:World} {m:Nat} {l o:List Int} {u:Value} (h:NmSt w wr m l u o) {x:Int} (hx:x∉l):
 ∃a,(Instr.mapUpdate 220 (.map (some m)) (IP x) (IP (l.length:Int))).run Tryz.prog wr=.ok () a∧NmSt w a m (l++[x]) u o:=by
 obtain⟨a,g,c,f⟩:=aR uI Tryz.underlying220 h.map x (IP (l.length:Int)) (by rw[gP,if_neg hx]);rw[←qS]at c;refine⟨a,g,h.keep.trans f fun y j _=>⟨trivial,fun e=>?_⟩,c,h.own.keep f fun b i=>?_,h.low⟩
 ·have :=h.low;omega
 ·rintro rfl;exact h.apart i
theorem NmSt.look {wr:World} {m:Nat} {l o:List Int} {u:Value} (h:NmSt w wr m l u o) (x:Int):
 (Instr.lookup 220 (.map (some m)) (IP x) true).run Tryz.prog wr=.ok (.tuple (Id (if x∈l then .int .i64 ((l.idxOf x:Nat):Int)else .int .i64 0) (decide (x∈l)))) wr:=by
 have :=b8 uI Tryz.underlying220 (gB wr) h.map x;rw[gP]at this;rw[this];by_cases hx:x∈l<;>simp[hx]
theorem NmSt.len {wr:World} {m:Nat} {l o:List Int} {u:Value} (h:NmSt w wr m l u o) (a:TypeId):(Builtin.len_ #[220] a #[.map (some m)]).run Tryz.prog wr=.ok (IP (l.length:Int)) wr:=by
 obtain⟨c,e,h1,h2⟩:=h.map;have b:c.size=l.length:=by simpa [p9]using congrArg List.length h2
 simp[Builtin.len_,run_underlying Tryz.underlying220,MapKept.run_getObj_map h1,goInt,b]
theorem nA {v:Value} {l:List Int} (hv:IntsAt w v l) (hl:l.length≤900) (X:∀e H u,e=.returned u→OwnInts H w.heap.size u ((dP l).map Int.ofNat)→Same w H→R e H):
 Calls Tryz.prog 217 #[v] w R:=by
 have HR:=ae X;clear X;obtain⟨la,lc,rfl,aL,M,o⟩:=hv.open;unfold maxLen at M;have HC:=ae o;have J:=@run_makeMap Tryz.prog;clear hv o;go_enter Tryz.func217,Tryz.ntmps217;go_wp2_with fail;have a:NmSt w (w.alloc (.map #[] 0)) w.heap.size [] IM []:=
  ⟨(af _ w).alloc _,⟨#[],0,ag w _,rfl⟩,World.ownsRow_nil _ _ _ _,Nat.le_refl _⟩
 generalize w.alloc _=w1 at a⊢;generalize w.heap.size=m at a⊢;have N:=ae a;clear a J
 go_loopw [4,6,12] (fun u _ i wr=>∃k:Nat,i=.int .i64 k∧k≤l.length∧Hid (NmSt w wr m (nub (l.take k)) u ((dP (l.take k)).map Int.ofNat))) (fun _ _ i _=>l.length -(intOf i).toNat)
 case atStart=>exact⟨0,rfl,Nat.zero_le _,by rw[List.take_zero];exact N.o⟩
 case round=>
  obtain⟨k,rfl,hk,a⟩:=hrel;obtain⟨Z,Y,rfl⟩:=a.o.own.shape;by_cases C:k<l.length
  ·obtain⟨b,off,rfl,_,E⟩:=HC.o k C;have L:=ak a.o.keep (E k C) trivial;have p:=ae (List.take_succ_eq_append_getElem C);have n:((dP (l.take k)).map Int.ofNat).length=k:=by rw[List.length_map,dU,List.length_take];omega
   have q:=ae (zP (l.take k) l[k]);have s:=ae (fi (l.take k) l[k]);have I:(nub (l.take k)).length≤900:=Nat.le_trans (wG _) (by rw[List.length_take];omega);generalize l[k]=x at L p q s;generalize l.take k=c at a p q s n I;rw[n];have T:=ae a.o;have r:=ae n;have D:=a.o.look x;clear a E n;by_cases h:x∈nub c
   ·rw[if_pos h,decide_eq_true h]at D;obtain⟨g,cap,G,z,f⟩:=T.o.push (((nub c).idxOf x:Nat):Int) (by have :=r.o;omega);have j:nh (nub c) x=nub c:=if_pos h
    rw[r.o]at z f;have F:Hid (NmSt w G m (nub (c++[x])) (.slice (IQ g 0) (k+1) cap) ((dP (c++[x])).map Int.ofNat)):=ae (by
     rw[q.o,s.o,j,List.map_append];exact f)
    clear f j h
    go_wp2_with (at_builtin;refine ap rfl _ _ _ rfl rfl rfl z ?_;clear z)
    go_roundw
    case rel=>exact⟨k+1,by go_num,by omega,by rw[p.o];exact F.o⟩
    case measure=>simp[intOf];omega
   ·rw[if_neg h,decide_eq_false h]at D;have V:=T.o.len;obtain⟨w2,aH,t⟩:=T.o.put h
    have O:=ae t;obtain⟨g,cap,G,z,f⟩:=O.o.push ((nub c).length:Int) (by have :=r.o;omega);have j:nh (nub c) x=nub c++[x]:=if_neg h
    have y:(nub c++[x]).idxOf x=(nub c).length:=by
     rw[List.idxOf_append,if_neg h];simp
    rw[r.o]at z f;have F:Hid (NmSt w G m (nub (c++[x])) (.slice (IQ g 0) (k+1) cap) ((dP (c++[x])).map Int.ofNat)):=ae (by
     rw[q.o,s.o,j,List.map_append,y];exact f)
    clear t f j y h
    go_wp2_with (at_builtin;refine ap rfl _ _ _ rfl rfl rfl z ?_;clear z)
    go_roundw
    case rel=>exact⟨k+1,by go_num,by omega,by rw[p.o];exact F.o⟩
    case measure=>simp[intOf];omega
  ·obtain rfl:k=l.length:=by omega
   have n:((dP (l.take l.length)).map Int.ofNat).length=l.length:=by rw[List.length_map,dU,List.length_take];omega
   rw[n];have F:Hid (OwnInts wr w.heap.size (.slice Z l.length Y) ((dP l).map Int.ofNat)):=ae (by have :=a.o.own;rw[n,List.take_length]at this;exact this);have U:=ae a.o.keep;clear a;go_wp2_with fail;exact HR.o _ _ _ rfl F.o U.o
theorem Af {a b:List Int} {k:Nat} (c:a.length=b.length) (h:∀i,i<k→a.getD i 0=b.getD i 0) (e:a.length≤k):a=b:=by
 apply List.ext_getElem c;intro i h1 h2;have :=h i (by omega)
 simpa [List.getD,List.getElem?_eq_getElem h1,List.getElem?_eq_getElem h2]using this
theorem tK {v u:Value} {a b:List Int} (hv:IntsAt w v a) (T:IntsAt w u b) (V:∀e G,e=.returned (.bool (decide (a=b)))→Same w G→R e G):
 Calls Tryz.prog 219 #[v,u] w R:=by
 have M:=ae V;clear V;obtain⟨va,vc,rfl,_,L,l⟩:=hv.open;obtain⟨ua,uc,rfl,_,J,j⟩:=T.open;have HC:=ae l;have HD:=ae j;unfold maxLen at L J;clear l j hv T;by_cases D:a.length=b.length
 ·have I:(((a.length:Nat):Int) !=((b.length:Nat):Int))=false:=by rw[D];simp
  have X:=ae D;clear D;go_enter Tryz.func219,Tryz.ntmps219;go_wp2_with fail
  go_loopw [5,13] (fun _ i wr=>∃k:Nat,i=.int .i64 k∧k≤a.length∧Hid (∀i,i<k→a.getD i 0=b.getD i 0)∧Same w wr) (fun _ i _=>a.length -(intOf i).toNat)
  case atStart=>exact⟨0,rfl,Nat.zero_le _,ae (fun i U=>absurd U (Nat.not_lt_zero _)),af _ _⟩
  case round=>
   obtain⟨k,rfl,hk,o,c⟩:=hrel;by_cases n:k<a.length
   ·have g:k<b.length:=by rw[←X.o];exact n
    obtain⟨p,off,rfl,_,F⟩:=HC.o k n;obtain⟨q,O,rfl,_,E⟩:=HD.o k g;have z:=ak c (F k n) trivial;have t:=ak c (E k g) trivial;have s:=ae (And.intro (show a.getD k 0=a[k] by simp[List.getD,List.getElem?_eq_getElem n]) (show b.getD k 0=b[k] by simp[List.getD,List.getElem?_eq_getElem g]));generalize a[k]=x at z s;generalize b[k]=y at t s;have H:=ae c;clear F E c;by_cases m:x=y
    ·subst m;go_wp2_with fail;refine aq (by kernel_rfl) (by kernel_rfl) ?_
     iterate 9 (apply wpQuiet_step;intro K c;(first|(apply aA;rfl;go_simp)|(apply aJ;rfl;intro G f;obtain⟨Z,Y⟩:=xs2 f z t;go_simp;exact rfl;go_simp));refine c _ ?_;clear c K)
     apply wpQuiet_nil;intro w1 C;have r:=ae (H.o.tr C);clear z t C;go_wp2_with fail;go_roundw
     case rel=>
      refine⟨k+1,by go_num,by omega,ae (fun i U=>?_),r.o⟩;by_cases e:i=k
      ·subst e;rw[s.o.1,s.o.2]
      ·exact o.o i (by omega)
     case measure=>simp[intOf];omega
    ·have N:Hid (decide (a=b)=false):=ae (decide_eq_false fun e=>by
      subst e;exact m (s.o.1.symm.trans s.o.2))
     have hb:(x !=y)=true:=by simpa using m
     clear m;go_wp2_with fail;refine aq (by kernel_rfl) (by kernel_rfl) ?_
     iterate 9 (apply wpQuiet_step;intro K c;(first|(apply aA;rfl;go_simp)|(apply aJ;rfl;intro G f;obtain⟨Z,Y⟩:=xs2 f z t;go_simp;exact rfl;go_simp));refine c _ ?_;clear c K)
     apply wpQuiet_nil;intro w1 C;have r:=ae (H.o.tr C);clear z t C;go_wp2_with fail;exact M.o _ _ (be N.o.symm) r.o
   ·have HE:Hid (decide (a=b)=true):=ae (decide_eq_true (Af X.o o.o (by omega)));have H:=ae c;clear o c;go_wp2_with fail;exact M.o _ _ (be HE.o.symm) H.o
 ·have I:(((a.length:Nat):Int) !=((b.length:Nat):Int))=true:=by rw[bne_iff_ne];omega
  have N:Hid (decide (a=b)=false):=ae (decide_eq_false fun e=>D (by rw[e]));clear D;go_enter Tryz.func219,Tryz.ntmps219;go_wp2_with fail;exact M.o _ _ (be N.o.symm) (af _ _)
def IdsOk (A:Au) (L:List Nd) (cls ids:List Nat):Prop:=
 ∀(i id:Nat),ids[i]?=some id→id<L.length∧∀c,c<2^A.T.toNat→val L id c=((cls.getD (nx A i c) 0:Nat):Int)
theorem IdsOk.grow {T:Nat} {L b:List Nd} {cls ids:List Nat} (h:IdsOk A L cls ids) (hw:WF T L) (a:WF T b) (e:L<+:b):IdsOk A b cls ids:=fun i id f=>by
 obtain⟨h1,h2⟩:=h i id f;exact⟨Nat.lt_of_lt_of_le h1 e.length_le,fun c g=>(bI hw a e c id h1).trans (h2 c g)⟩
theorem IdsOk.snoc {L:List Nd} {cls ids:List Nat} {id:Nat} (h:IdsOk A L cls ids) (a:id<L.length) (hv:∀c,c<2^A.T.toNat→val L id c=((cls.getD (nx A ids.length c) 0:Nat):Int)):IdsOk A L cls (ids++[id]):=fun i x hx=>by
 by_cases e:i<ids.length
 ·rw[List.getElem?_append_left e]at hx;exact h i x hx
 ·have b:i=ids.length:=by
   have :=(List.getElem?_eq_some_iff.1 hx).1;simp at this;omega
  subst b;rw[List.getElem?_append_right (Nat.le_refl _)]at hx;simp at hx;subst hx;exact⟨a,hv⟩
def kR (n:Nat) (cls ids:List Nat):List Int:=(List.range ids.length).map fun i=>((ids.getD i 0*n+cls.getD i 0:Nat):Int)
theorem di (n:Nat) (cls ids:List Nat):(kR n cls ids).length=ids.length:=by simp[kR]
theorem zN (n:Nat) (cls ids:List Nat) (id:Nat):kR n cls (ids++[id])=kR n cls ids++[((id*n+cls.getD ids.length 0:Nat):Int)]:=by
 unfold kR;rw[List.length_append,List.length_singleton,List.range_succ,List.map_append]
 congr 1
 ·apply List.map_congr_left;intro i a;rw[List.mem_range]at a;simp[List.getD_eq_getElem?_getD,List.getElem?_append_left a]
 ·simp[List.getD_eq_getElem?_getD]
def Fv (A:Au) (s:Nat):List Int:=A.next.getD s []
theorem yY {a b n x y:Nat} (hx:x<n) (c:y<n) (h:a*n+x=b*n+y):a=b∧x=y:=by
 have h1:(a*n+x)/n=a:=by rw[Nat.mul_comm,Nat.mul_add_div (by omega),Nat.div_eq_of_lt hx,Nat.add_zero]
 have h2:(b*n+y)/n=b:=by rw[Nat.mul_comm,Nat.mul_add_div (by omega),Nat.div_eq_of_lt c,Nat.add_zero]
 have e:a=b:=by rw[←h1,←h2,h]
 subst e;exact⟨rfl,by omega⟩
theorem oe (A:Au) (k:Nat):∀x∈cK A k,x<A.acc.length:=fun x hx=>by
 have a:=(lV A k);rw[←a.2]at hx;have b:=rU _ hx;rw[a.1]at b;exact Nat.lt_of_lt_of_le b (sR A k)
theorem BX {L:List Nd} {k:Nat} {ids:List Nat} (hw:WF A.T.toNat L) (q:ids.length=A.acc.length) (h:IdsOk A L (cK A k) ids):dP (kR A.acc.length (cK A k) ids)=cK A (k+1):=by
 have g:∀i,i<A.acc.length→(cK A k).getD i 0<A.acc.length:=fun i h=>by
  have h1:i<(cK A k).length:=by rw[dk];exact h
  have h2:(cK A k).getD i 0∈cK A k:=by
   rw[List.getD_eq_getElem?_getD,List.getElem?_eq_getElem h1];exact List.getElem_mem h1
  exact oe A k _ h2
 show _=dP ((List.range A.acc.length).map (sig A (cK A k)))
 refine(qR (by simp[kR,q]) fun i h1 j h2=>?_).1;have f:i<ids.length:=by rw[di]at h1;exact h1
 have b:j<ids.length:=by rw[di]at h2;exact h2
 obtain⟨u,p⟩:=h i _ (List.getElem?_eq_getElem f);obtain⟨t,o⟩:=h j _ (List.getElem?_eq_getElem b);simp only[kR,List.getElem_map,List.getElem_range,List.getD_eq_getElem?_getD,List.getElem?_eq_getElem f,List.getElem?_eq_getElem b,Option.getD_some];rw[yi];simp only[←List.getD_eq_getElem?_getD];constructor
 ·intro e;obtain⟨m,l⟩:=yY (g i (by omega)) (g j (by omega)) (by exact_mod_cast e);refine⟨l,fun c a=>?_⟩;have n:=p c a;have r:=o c a;rw[m,r]at n
  exact_mod_cast n.symm
 ·rintro⟨m,l⟩;have s:ids[i]=ids[j]:=AZ hw u t fun c a=>by rw[p c a,o c a,l c a]
  rw[m,s]
theorem EQ {L l:List Nd} {T f:Nat} {cls:List Nat} {n:Nat} {row:List Int} {r:Int} (hw:WF T L) (q:WF T l) (h:DX L l (f:Int) (cls.map Int.ofNat) r) (E:f<L.length) (hv:∀c,c<2^T→val L f c=row.getD c 0) (y:row.length=2^T) (F:∀x∈row,0≤x∧x<(n:Int)) (H:cls.length=n) (t:∀x∈cls,x≤1000):
 ∃id:Nat,r=(id:Int)∧id<l.length∧L<+:l∧l.length≤L.length+128∧∀c,c<2^T→val l id c=((cls.getD (row.getD c 0).toNat 0:Nat):Int):=by
 obtain⟨h1,h2,m⟩:=h;have a:∀c,∃x:Nat,x<n∧val l f c=(x:Int)∧(c<2^T→(x:Int)=row.getD c 0):=fun c=>by
  have z:c%2^T<2^T:=Nat.mod_lt _ (Nat.pow_pos (by decide));have v:=bI hw q h1 c f E;have G:=rI hw c f;rw[←G,hv _ z]at v;have o:c%2^T<row.length:=by rw[y];exact z
  have u:=F _ (List.getElem_mem o);rw[List.getD_eq_getElem?_getD,List.getElem?_eq_getElem o,Option.getD_some]at v;obtain⟨x,hx⟩:=Int.eq_ofNat_of_zero_le u.1;refine⟨x,by omega,by rw[v,hx],fun k=>?_⟩;rw[List.getD_eq_getElem?_getD,List.getElem?_eq_getElem (show c<row.length by rw[y];exact k),Option.getD_some,←hx];simp only[Nat.mod_eq_of_lt k]
 have b:∀x:Nat,x<n→rW (cls.map Int.ofNat) (x:Int) (x:Int)=some ((cls.getD x 0:Nat):Int):=fun x hx=>by
  unfold rW;have i:x<cls.length:=by omega
  rw[Int.toNat_natCast,List.getElem?_map,List.getElem?_eq_getElem i];have :=t _ (List.getElem_mem i);have s:dv (Int.ofNat cls[x])=true:=by unfold dv;simp;omega
  simp only[Option.map_some,s,if_true];rw[List.getD_eq_getElem?_getD,List.getElem?_eq_getElem i];rfl
 rcases m with⟨_,_,m⟩|⟨m,_⟩
 ·rw[Int.toNat_natCast]at m;rcases m with⟨j,e,C,_,D⟩|⟨_,c,k⟩
  ·refine⟨j,e,C,h1,h2,fun c k=>?_⟩;obtain⟨x,hx,g,p⟩:=a c;have :=D c;rw[g,b x hx]at this;rw[←Option.some.inj this,←p k,Int.toNat_natCast]
  ·obtain⟨x,hx,g,_⟩:=a c;rw[g,b x hx]at k
   cases k
 ·exact absurd ⟨by omega,by omega⟩ m
theorem tw {z:Nat} (h:z≤1099511627776):wrap64 (z:Int)=(z:Int)∧IntKind.i64.wrap (z:Int)=(z:Int):=by
 have h1:wrap64 (z:Int)=(z:Int):=IntWalk.wrap64_in _ ⟨by omega,by omega⟩;exact⟨h1,by rw[IntKind.wrap_i64];omega⟩
theorem EN {a b q:Nat} (h:q=a*b) (c:q≤1099511627776):wrap64 ((a:Int)*(b:Int))=(q:Int)∧IntKind.i64.wrap ((a:Int)*(b:Int))=(q:Int):=by
 rw[←Int.natCast_mul,←h];exact tw c
theorem Ft {a b q:Nat} (h:q=a+b) (c:q≤1099511627776):wrap64 ((a:Int)+(b:Int))=(q:Int)∧IntKind.i64.wrap ((a:Int)+(b:Int))=(q:Int):=by
 rw[←Int.natCast_add,←h];exact tw c
theorem Ca {z:Nat} (h:z≤1099511627776):aK (z:Int):=by unfold aK;omega
theorem Grew.own {c a:World} {s T B n:Nat} {L:List Nd} {v:Value} {l:List Value} (h:StoreAt c s T L) (g:Grew s w c) (ho:c.ownsRow B 3 1 v n l) (t:w.heap.size≤B) (k:Keeps (fun b=>v.ownBlock≠some b) c a):StoreAt a s T L∧Grew s w a:=by
 have f:=eg ho h (by decide) (by decide);have q:StoreAt a s T L:=h.keep k fun b j e=>f b e j;refine⟨q,g.keeps.trans k fun x hx p=>⟨p,fun e=>?_⟩,fun b j=>?_⟩
 ·have :=(ah ho e).1;omega
 ·have i:a.heap[s]?=c.heap[s]?:=by
   obtain⟨r,m,o,_⟩:=h.st;exact(k.at o (fun e=>f s e (.inl rfl))).trans o.symm
  exact g.foot b ((dO i b).1 j)
theorem wM {w0:World} {s T k:Nat} {L:List Nd} {rv cv:Value} {a:List Int} (h0:DFAAt w0 B d A) (Jc:Keeps (·<w0.heap.size) w0 w) (Jg:∀b,de w s b→w0.heap.size≤b) (hT:T=A.T.toNat)
 (hs:StoreAt w s T L) (fu:RootsOk T L a A.next) (hr:IntsAt w rv a) (hc:IntsAt w cv ((cK A k).map Int.ofNat)) (I8:∀b,live rv=some b→¬de w s b) (IZ:∀b,live cv=some b→¬de w s b) (Z:L.length+128*A.acc.length≤1000000000)
 (hR:∀e M u J,e=.returned u→OwnInts M w.heap.size u ((cK A (k+1)).map Int.ofNat)→StoreAt M s T J→L<+:J→J.length≤L.length+128*A.acc.length→Grew s w M→R e M):
 Calls Tryz.prog 218 #[.pointer (IQ d 0),.pointer (IQ s 0),rv,cv] w R:=by
 have HR:=ae hR;clear hR;subst hT;have JH:=ae h0.ok;have JO:0<A.acc.length:=h0.ok.1.2.2.1;have Jb:A.acc.length≤400:=h0.ok.1.2.2.2.1;have Jp:=ae h0.ok.1.2.2.2.2;have H0:=ae h0;have JK:=ae Jc;have JM:=ae Jg;have HS:=ae hs;have Jl:=ae fu;have HC:=ae hc;have Ju:=ae IZ;have I6:a.length=A.acc.length:=fu.1.trans h0.ok.1.2.2.2.2;have F:=ae (dk A k);have bL:=ae (oe A k);have Jo:=ae (fun L ids=>BX (A:=A) (L:=L) (k:=k) (ids:=ids));obtain⟨ra,rc,rfl,Jy,Jw,p⟩:=hr.open;obtain⟨ca,cc,rfl,Ji,JD,H⟩:=hc.open;have JQ:=ae p;have Jt:=ae H;have JF:Hid (∀i,i<A.acc.length→∀wx,Grew s w wx→∃b off,ra=some ⟨b,off,none⟩∧wx.cell? ⟨b,off+i,none⟩=some (.int .i64 (a.getD i 0))):=ae fun i hi wx hg=>by
  have IR:i<a.length:=by omega
  obtain⟨b,off,e,_,l⟩:=p i IR;refine⟨b,off,e,?_⟩;rw[List.getD_eq_getElem?_getD,List.getElem?_eq_getElem IR];refine ak hg.keeps (l i IR) (I8 b ?_);subst e;obtain⟨m,hm⟩:∃m,a.length=m+1:=⟨a.length -1,by omega⟩;rw[hm];rfl
 have aL:Hid (∀b,live (.slice ca ((cK A k).map Int.ofNat).length cc)=some b→¬de w s b):=ae IZ;generalize cK A k=cls at HC Ju F bL Jo Jt aL Ji⊢;unfold maxLen at Jw JD;rw[List.length_map,F.o]at HC Ju aL Ji⊢;rw[I6]at Jy⊢;obtain⟨W0,I0⟩:∃W0,W0=w.heap.size:=⟨_,rfl⟩;have I1:=ae I0;rw[←I0]at HR;have HB:=ae Z;clear hs fu hr hc I8 IZ p H I0 h0 Jc Jg Z I6;go_enter Tryz.func218,Tryz.ntmps218;go_wp2_with fail
 go_loopw [9,10,11,14] (fun u _ _ i wr=>∃(m:Nat) (ids:List Nat) (J:List Nd),i=.int .i64 m∧m≤A.acc.length∧ids.length=m∧Hid (StoreAt wr s A.T.toNat J∧L<+:J∧J.length≤L.length+128*m)∧Hid (Grew s w wr)∧Hid (IdsOk A J cls ids)∧Hid (OwnInts wr W0 u (kR A.acc.length cls ids))) (fun _ _ _ i _=>A.acc.length -(intOf i).toNat)
 case atStart=>exact⟨0,[],L,rfl,Nat.zero_le _,rfl,ae ⟨HS.o,List.prefix_rfl,by omega⟩,Grew.refl _ _,ae (fun i id h=>by simp at h),World.ownsRow_nil _ _ _ _⟩
 case round=>
  obtain⟨m,ids,J,rfl,hm,j,o,hg,C,v⟩:=hrel;obtain⟨ua,uc,rfl⟩:=v.o.shape;rw[di,j];by_cases V:m<A.acc.length
  ·obtain⟨rb,JN,rfl,I7⟩:=JF.o m V wr hg.o;have X:m<(cls.map Int.ofNat).length:=by rw[List.length_map,F.o];exact V
   obtain⟨cb,E,rfl,_,l⟩:=Jt.o m X;have l:=l m X;rw[List.getElem_map]at l;have Y:m<cls.length:=by rw[F.o];exact V
   have Jv:=bL.o _ (List.getElem_mem Y);have HY:=ae (show cls.getD m 0=cls[m] by rw[List.getD_eq_getElem?_getD,List.getElem?_eq_getElem Y];rfl);have Jh:∀b,live (.slice (IQ cb E) A.acc.length cc)=some b→b<w.heap.size:=fun b Z=>HC.o.lt b (by simpa [F.o]using Z);have gJ:live (.slice (IQ cb E) A.acc.length cc)=some cb:=by
    obtain⟨q,hq⟩:∃q,A.acc.length=q+1:=⟨A.acc.length -1,by omega⟩;rw[hq];rfl
   have aH:=ae (aL.o cb gJ);have JR:=ae (Jh cb gJ);have IW:=ak hg.o.keeps l aH.o;generalize cls[m]=y at IW Jv HY l;have ce:=ae l;have U:m<A.next.length:=by rw[Jp.o];exact V
   have gI:m<a.length:=by rw[Jl.o.1,Jp.o];exact V
   obtain⟨f,Jf,IT,IS⟩:=Jl.o.2 m _ _ (List.getElem?_eq_getElem gI) (List.getElem?_eq_getElem U);have cE:Fv A m=A.next[m]:=by unfold Fv;rw[List.getD_eq_getElem?_getD,List.getElem?_eq_getElem U];rfl
   have G:=JH.o.2 _ (List.getElem_mem U);rw[List.getD_eq_getElem?_getD,List.getElem?_eq_getElem gI,Option.getD_some,Jf]at I7;have gH:∀c,nx A m c=((A.next[m]).getD c 0).toNat:=fun c=>by unfold nx;simp[List.getD_eq_getElem?_getD,List.getElem?_eq_getElem U]
   generalize A.next[m]=row at IS cE G gH
   have Js:Hid (f<J.length∧∀c,c<2^A.T.toNat→val J f c=row.getD c 0):=ae ⟨Nat.lt_of_lt_of_le IT o.o.2.1.length_le,fun c hc=>(bI HS.o.wf o.o.1.wf o.o.2.1 c f IT).trans (IS c hc)⟩;have dE:=ae G;have JJ:=ae gH;have HG:=ae hg.o;have t:=ae o.o;have Jq:=ae C.o;have Jm:=ae v.o;clear o hg C v l X Y Jh gJ U gI Jf IS cE G gH IT;go_wp2_with fail;have kd:Same wr wr.drew:=al (af (fun _=>True) wr);refine az (.take 0 (.take 1 (.take 2 (.take 3 (.take 5 (.take 8 (.take 9 (.take 10 (.take 11 (.one 4 (.one 6 (.take 7 (.take 12 (.one 13 (.one 14 (.take 15 .done)))))))))))))))) (fun M=>M.cell? ⟨cb,E+m,none⟩=some (.int .i64 (Int.ofNat y))) (by kernel_rfl) (by kernel_rfl) (ak kd IW trivial) ?_
   iterate 9 (first|(apply aF;rfl;rfl;go_simp)|(apply aD;rfl;rfl;intro M hS;have z0:=hS;go_simp;exact rfl;go_simp))
   have gd:Grew s w wr.drew:=HG.o.trans (cD t.o.1 kd);have Ja:∀b,live (.slice (IQ cb E) A.acc.length cc)=some b→¬de wr.drew s b:=fun b Z hf=>by
    rcases gd.foot b hf with h|h
    ·exact aL.o b Z h
    ·have :=HC.o.lt b (by simpa [F.o]using Z);omega
   refine aP (ay rfl rfl fun K D=>?_);go_simp;refine EF (t.o.1.same kd) (f:Int) (HC.o.keep gd.keeps fun b Z=>aL.o b Z) Ja (by have :=t.o.2.2;have :=HB.o;omega) ?_;rintro e w2 r L2 rfl a8 g2 Jj;have g3:=gd.trans g2;obtain⟨id,rfl,dp,O,If,cH⟩:=EQ (n:=A.acc.length) t.o.1.wf a8.wf Jj Js.o.1 Js.o.2 dE.o.1 dE.o.2 F.o (fun x hx=>by have :=bL.o x hx;omega);refine D _ _ _ (ak g3.keeps ce.o aH.o) (fun _ h=>h) ?_;clear D K;refine aP (ay rfl rfl fun K D=>?_);go_simp;refine iq (H0.o.keep (JK.o.tr (g3.below JM.o)) fun b _ Z=>Z) ?_;rintro e rfl;refine D _ _ _ (ak g3.keeps ce.o aH.o) (fun _ h=>h) ?_;clear D K;have Jd:id≤1000000000:=by have :=t.o.2.2;have :=HB.o;omega
   obtain⟨q,hq⟩:∃q,q=id*A.acc.length:=⟨_,rfl⟩;have I9:q≤400000000000:=by rw[hq];exact Nat.le_trans (Nat.mul_le_mul Jd Jb) (by decide)
   obtain⟨z,hz⟩:∃z,z=q+y:=⟨_,rfl⟩;have fd:z≤1099511627776:=by
    have :y≤400:=by omega
    rw[hz];omega
   obtain⟨JC,JB⟩:=EN hq (Nat.le_trans I9 (by decide));obtain⟨JA,Jz⟩:=Ft hz fd;have dZ:OwnInts w2 W0 (.slice ua m uc) (kR A.acc.length cls ids):=by
    have h1:=(Jm.o.same kd).grew (t.o.1.same kd) g2;rw[di,j]at h1;exact h1
   have JG:=ae (show kR A.acc.length cls (ids++[id])=kR A.acc.length cls ids++[(z:Int)] by rw[zN,j,HY.o,hz,hq]);have JP:=ae fd;clear hq hz I9 fd
   iterate 2 (first|(apply aF;rfl;rfl;go_simp)|(apply aD;rfl;rfl;intro M hS;have z0:=hS;go_simp;exact rfl;go_simp))
   have ch:W0≤w2.heap.size:=by rw[I1.o];exact g3.keeps.size
   obtain⟨g,cap,w5,fw,N,k5,_,_⟩:=bi (P:=Tryz.prog) w2 41 41 3 Tryz.underlying41 cC rfl dZ ch (IP (z:Int)) rfl (by rw[di];omega) (by decide);obtain⟨I5,g5⟩:=Grew.own a8 g3 dZ (by rw[I1.o];exact Nat.le_refl _) k5;rw[di,j]at fw N;have I2:Hid (OwnInts w5 W0 (.slice (IQ g 0) (m+1) cap) (kR A.acc.length cls (ids++[id]))):=ae (by
    unfold OwnInts;rw[JG.o]
    simpa [di,j]using N)
   have Jk:Hid (StoreAt w5 s A.T.toNat L2∧L<+:L2∧L2.length≤L.length+128*(m+1)):=ae ⟨I5,t.o.2.1.trans O,by have :=t.o.2.2;omega⟩;have I3:Hid (IdsOk A L2 cls (ids++[id])):=ae ((Jq.o.grow t.o.1.wf a8.wf O).snoc dp fun c hc=>by
    rw[cH c hc,j,JJ.o c])
   refine aP (ay rfl rfl fun K D=>?_);go_simp;refine D _ _ _ (ak ((af (fun _=>True) w2).alloc _) (ak g3.keeps ce.o aH.o) trivial) (fun _ h=>h) ?_;clear D K;go_simp;refine aP (bZ _ _ _ rfl rfl rfl ?hs ?hx fw (fun M=>M.cell? ⟨cb,E+m,none⟩=some (.int .i64 (Int.ofNat y))) (ak g5.keeps ce.o aH.o) (fun _ h=>h) ?_)
   case hs=>rfl
   case hx=>rfl
   clear fw;go_simp
   iterate 1 (first|(apply aF;rfl;rfl;go_simp)|(apply aD;rfl;rfl;intro M hS;go_simp;exact rfl;go_simp))
   refine aW ?_;have I4:=ae g5;clear kd gd Ja g3 g2 a8 Jj dp O If cH dZ ch N k5 I5 g5 JC JB JA Jz IW I7 l;go_wp2_with fail;go_roundw
   case rel=>exact⟨m+1,ids++[id],L2,by go_num,by omega,by simp[j],Jk.o,I4.o,I3.o,I2.o⟩
   case measure=>simp[intOf];omega
  ·obtain rfl:A.acc.length=m:=by omega
   have HN:=ae (Jo.o J ids o.o.1.wf j C.o);have JL:Hid (∀x∈kR A.acc.length cls ids,aK x):=ae (fun x hx=>by
    unfold kR at hx;obtain⟨i,hi,rfl⟩:=List.mem_map.1 hx;rw[List.mem_range]at hi;have h1:=(C.o i _ (List.getElem?_eq_getElem hi)).1;have h2:=o.o.2.2;have h3:=HB.o;rw[List.getD_eq_getElem?_getD,List.getElem?_eq_getElem hi,Option.getD_some];have h4:cls.getD i 0≤400:=by
     have Je:i<cls.length:=by rw[F.o,←j];exact hi
     rw[List.getD_eq_getElem?_getD,List.getElem?_eq_getElem Je,Option.getD_some];have :=bL.o _ (List.getElem_mem Je);omega
    have h5:ids[i]*A.acc.length≤1000000000*400:=Nat.mul_le_mul (by omega) Jb;exact Ca (Nat.le_trans (Nat.add_le_add h5 h4) (by decide)))
   have I:=ae o.o;have Jr:=ae hg.o;have Jn:=ae v.o;rw[di,j]at Jn;clear o hg C v;go_wp2_with fail;refine nA (Jn.o.ints JL.o) (by rw[di,j];omega) ?_;rintro e w5 u rfl o5 k5;rw[HN.o]at o5;have JI:=ae (aN o5 Jr.o.keeps.size);have I4:=ae (Jr.o.trans (cD I.o.1 k5));have JE:=ae (I.o.1.same k5);clear o5 k5;go_wp2_with fail;exact HR.o _ _ _ J rfl (by rw[I1.o];exact JI.o) JE.o I.o.2.1 I.o.2.2 I4.o
end
section
attribute [local irreducible] wpQuiet ax au aQ
variable {R:Ending→World→Prop} {w:World} {A:Au} {B d:Nat}
theorem nG (a b c:Value) (w:World):(Instr.field 166 (.agg #[a,b,c]) 2).run Tryz.prog w=.ok c w:=by kernel_rfl
attribute [local go_sem] nG
theorem CJ {v:Value} {l m:List Int} (h:IntsAt w v l) (k:IntsAt w v m):l=m:=by
 obtain⟨a,c,rfl,_,_,h1⟩:=h.open;obtain⟨u,r,e,_,_,p⟩:=k.open;simp only[Value.slice.injEq]at e;obtain⟨rfl,q,rfl⟩:=e;apply List.ext_getElem q;intro i n g;obtain⟨b,off,rfl,_,h2⟩:=h1 i n;obtain⟨t,f,e,_,o⟩:=p i g;simp only[Option.some.injEq,Addr.mk.injEq,and_true]at e;obtain⟨rfl,rfl⟩:=e;have :=(h2 i n).symm.trans (o i g)
 simpa using this
open Classical in
noncomputable def cntAt (w:World) (v:Value):Nat:=if h:∃l:List Nat,IntsAt w v (l.map Int.ofNat)then(nub h.choose).length else 0
theorem vu {v:Value} {l:List Nat} (h:IntsAt w v (l.map Int.ofNat)):cntAt w v=(nub l).length:=by
 have a:∃l:List Nat,IntsAt w v (l.map Int.ofNat):=⟨l,h⟩;unfold cntAt;rw[dif_pos a];have h2:=CJ a.choose_spec h;have c:a.choose=l:=by
  have b:=congrArg (List.map Int.toNat) h2
  simpa [List.map_map,Function.comp_def]using b
 rw[c]
theorem lW {l:List Nat} (h:∀x∈l,x≤1000000):∀x∈l.map Int.ofNat,aK x:=fun x hx=>by
 obtain⟨y,a,rfl⟩:=List.mem_map.1 hx;have :=h y a;unfold aK;simp only[Int.ofNat_eq_natCast];omega
def ni (A:Au) (k:Nat):List Int:=(A.acc.take k).map fun b=>if b=true then 1 else 0
theorem A2 {k:Nat} (a:k<A.acc.length):ni A (k+1)=ni A k++[if ac A k=true then 1 else 0]:=by
 unfold ni ac;rw[List.take_succ_eq_append_getElem a,List.map_append,List.getD_eq_getElem?_getD,List.getElem?_eq_getElem a];rfl
theorem BZ (A:Au):dP (ni A A.acc.length)=cK A 0:=by
 unfold ni;rw[List.take_length]
 show _=dP A.acc
 refine(jn (fun b:Bool=>if b=true then(1:Int)else 0) A.acc fun x _ y _ e=>?_).1
 cases x<;>cases y<;>simp at e⊢
structure C1St (w w3 wr:World) (s:Nat) (A:Au) (kr kc:Nat) (rv cv:Value) (L:List Nd) (roots:List Int):Prop where
 store:StoreAt wr s A.T.toNat L
 len:L.length≤127*kr
 ok:RootsOk A.T.toNat L roots (A.next.take kr)
 own:OwnInts wr w3.heap.size rv roots
 cls:OwnInts wr w3.heap.size cv (ni A kc)
 apart:∀b,rv.ownBlock=some b→cv.ownBlock≠some b
 grew:Grew s w3 wr
 foot:∀b,de w3 s b→w.heap.size≤b
 old:Same w w3
variable {w3 wr w4:World} {s kr kc j:Nat} {rv cv:Value} {L L4:List Nd} {roots:List Int}
theorem C1St.keep (h:C1St w w3 wr s A kr kc rv cv L roots):Same w wr:=
 h.old.trans h.grew.keeps fun x hx _=>⟨trivial,fun a=>by have :=h.foot x a;omega⟩
theorem C1St.rootPush (h:C1St w w3 wr s A kr kc rv cv L roots) (r:StoreAt w4 s A.T.toNat L4) (n:Grew s wr w4) (v:L4.length≤127*(kr+1)) (m:RootsOk A.T.toNat L4 (roots++[(j:Int)]) (A.next.take (kr+1))) (t:roots.length≤1000):
 ∃g cap f,(Builtin.append_ #[41,41] 41 #[rv,.slice (IQ w4.heap.size 0) 1 1]).run Tryz.prog (w4.alloc (Ic j))=.ok (.slice (IQ g 0) (roots.length+1) cap) f∧
  C1St w w3 f s A (kr+1) kc (.slice (IQ g 0) (roots.length+1) cap) cv L4 (roots++[(j:Int)]):=by
 have o:=h.own.grew h.store n;have q:=h.cls.grew h.store n;have c:=h.grew.trans n;obtain⟨g,cap,f,u,a,p,i,_⟩:=bi (P:=Tryz.prog) w4 41 41 3 Tryz.underlying41 cC rfl o c.keeps.size (IP (j:Int)) rfl (by omega) (by decide);obtain⟨l,x⟩:=Grew.own r c o (Nat.le_refl _) p;refine⟨g,cap,f,u,l,v,m,?_,q.keep p fun b k e=>h.apart b e k,fun b k e=>?_,x,h.foot,h.old⟩
 ·unfold OwnInts;simpa using a
 ·simp[Value.ownBlock]at k;subst k;rcases i with i|i
  ·exact h.apart _ i e
  ·have :=(q.low e).2;omega
theorem C1St.clsPush (h:C1St w w3 wr s A kr kc rv cv L roots) (o:kc<A.acc.length) (n:kc≤1000):
 ∃g cap c,(Builtin.append_ #[41,41] 41 #[cv,.slice (IQ wr.heap.size 0) 1 1]).run Tryz.prog (wr.alloc (Ic (if ac A kc=true then 1 else 0)))=.ok (.slice (IQ g 0) ((ni A kc).length+1) cap) c∧
  C1St w w3 c s A kr (kc+1) rv (.slice (IQ g 0) ((ni A kc).length+1) cap) L roots:=by
 have p:(ni A kc).length≤1000:=by unfold ni;simp;omega
 obtain⟨g,cap,c,m,a,l,f,_⟩:=bi (P:=Tryz.prog) wr 41 41 3 Tryz.underlying41 cC rfl h.cls h.grew.keeps.size (IP (if ac A kc=true then 1 else 0)) rfl (by omega) (by decide);obtain⟨k,q⟩:=Grew.own h.store h.grew h.cls (Nat.le_refl _) l;refine⟨g,cap,c,m,k,h.len,h.ok,h.own.keep l fun b i=>h.apart b i,?_,fun b i e=>?_,q,h.foot,h.old⟩
 ·rw[A2 o];unfold OwnInts;simpa using a
 ·simp[Value.ownBlock]at e;subst e;rcases f with f|f
  ·exact h.apart _ i f
  ·have :=(h.own.low i).2;omega
theorem vJ {k:Nat} (hs:k<A.acc.length):gG A (k:Int)=ac A k:=by
 unfold gG ac inA;simp only[Int.toNat_natCast];rw[show(decide ((0:Int)≤(k:Int))&&decide ((k:Int)<(A.acc.length:Int)))=true by simp;exact hs];rfl
structure C2St (w w3 wr:World) (s:Nat) (A:Au) (k:Nat) (rv cv:Value) (L:List Nd) (roots:List Int):Prop where
 store:StoreAt wr s A.T.toNat L
 len:L.length≤127*A.acc.length+128*A.acc.length*k
 ok:RootsOk A.T.toNat L roots A.next
 own:OwnInts wr w3.heap.size rv roots
 cls:OwnInts wr w3.heap.size cv ((cK A k).map Int.ofNat)
 grew:Grew s w3 wr
 foot:∀b,de w3 s b→w.heap.size≤b
 old:Same w w3
 cnt:k+1≤it A k
theorem C2St.keep {k:Nat} (h:C2St w w3 wr s A k rv cv L roots):Same w wr:=
 h.old.trans h.grew.keeps fun x hx _=>⟨trivial,fun a=>by have :=h.foot x a;omega⟩
theorem mq {k:Nat} (A:Au) (a:A.acc.length≤400):∀x∈(cK A k).map Int.ofNat,aK x:=lW fun x hx=>by have :=oe A k x hx;omega
theorem wN (h:DFAAt w B d A) (hR:∀e w' u,e=.returned u→OwnInts w' w.heap.size u ((ff A).map Int.ofNat)→Same w w'→R e w'):
 Calls Tryz.prog 162 #[.pointer (IQ d 0)] w R:=by
 have HR:=ae hR;clear hR;have IW:=ae h.ok;have U:0<A.acc.length:=h.ok.1.2.2.1;have E:A.acc.length≤400:=h.ok.1.2.2.2.1;have Z:=ae h.ok.1.2.2.2.2;have H:=ae h;have Jz:=ae h.ok.1.1;have Jh:=ae h.ok.1.2.1;clear h;go_enter Tryz.func162,Tryz.ntmps162;go_wp2_with fail;refine dB H.o ?_;rintro e rfl;go_wp2_with fail;refine tF A.T Jz.o Jh.o ?_;rintro e w1 s rfl s1 k1 f1;have IR:=ae s1;have Jm:=ae k1;have JG:=ae f1;clear s1 k1 f1;go_wp2_with fail;refine mh (H.o.same Jm.o) ?_;rintro e z v3 rfl o3 k3;obtain⟨va,vn,rfl,_,om⟩:=o3;obtain⟨ng,nc,rfl⟩:∃ng nc,vn=.slice (IQ ng 0) A.next.length nc:=by
  obtain⟨vs,h1,_⟩:=om;exact dN h1 (by rw[Z.o];exact U)
 have Jr:A.next.length≤nc∧nc≤maxLen:=by
  obtain⟨_,_,e,h1,h2,_⟩:=(om.rows IW.o.bounds.2).open;simp only[Value.slice.injEq]at e;obtain⟨_,_,rfl⟩:=e;exact⟨h1,h2⟩
 have V:∀x,de z s x→x<w1.heap.size∧w.heap.size≤x:=fun x hx=>by
  have Jp:z.heap[s]?=w1.heap[s]?:=by
   obtain⟨v',m,e1,_⟩:=IR.o.st;exact(k3.at e1 trivial).trans e1.symm
  have h1:=(dO Jp x).1 hx;exact⟨pB IR.o h1,JG.o x h1⟩
 have I9:w1.heap.size≤ng:=by
  obtain⟨vs,h1,_⟩:=om;exact(ah h1 (g:=ng) (by simp[Value.ownBlock])).1
 have IS:Hid (∀k (hk:k<A.next.length),∃rs t,(∀wx,Grew s z wx→wx.cell? ⟨ng,k,none⟩=some (.slice rs (A.next[k]).length t)∧IntsAt wx (.slice rs (A.next[k]).length t) A.next[k]∧Apart wx s (.slice rs (A.next[k]).length t))):=ae fun k hk=>by
  obtain⟨rs,t,q1,_,ho⟩:=om.elem (List.getElem?_eq_getElem hk);have hi:=ho.ints (IW.o.bounds.2 _ (List.getElem_mem hk));have Ja:∀b,live (.slice rs (A.next[k]).length t)=some b→¬de z s b:=fun b r hf=>by
   have h1:=(ho.low (jr r)).1;have h2:=(V b hf).1;omega
  have I:Apart z s (.slice rs (A.next[k]).length t):=fun b r=>⟨Ja b r,hi.lt b r⟩;refine⟨rs,t,fun wx g=>⟨ak g.keeps q1 fun hf=>?_,hi.keep g.keeps Ja,I.grew g⟩⟩;have :=(V ng hf).1;omega
 have n:C1St w z z s A 0 0 IM IM [] []:=
  ⟨IR.o.same k3,Nat.le_refl _,⟨rfl,by simp⟩,World.ownsRow_nil _ _ _ _,World.ownsRow_nil _ _ _ _,fun b r=>by simp[Value.ownBlock]at r,Grew.refl _ _,fun b r=>(V b r).2,Jm.o.tr k3⟩
 have JA:=ae n;obtain⟨_,Jb⟩:=Jr;unfold maxLen at Jb;rw[Z.o];clear om k3 V I9 n;go_wp2_with fail
 go_loopw [4,5,6,7,19] (fun rv cv _ _ i wr=>∃(k:Nat) (L:List Nd) (f:List Int),i=.int .i64 k∧k≤A.acc.length∧f.length=k∧Hid (C1St w z wr s A k k rv cv L f)) (fun _ _ _ _ i _=>A.acc.length -(intOf i).toNat)
 case atStart=>exact⟨0,[],[],rfl,Nat.zero_le _,rfl,JA.o⟩
 case round=>
  obtain⟨k,L,f,rfl,hk,D,n⟩:=hrel;obtain⟨ra,t,rfl⟩:=n.o.own.shape;obtain⟨ca,cc,rfl⟩:=n.o.cls.shape;have If:(ni A k).length=k:=by unfold ni;simp;omega
  rw[If];have I0:=ae If;clear If;by_cases fd:k<A.acc.length
  ·have fu:k<A.next.length:=by rw[Z.o];exact fd
   obtain⟨rs,JL,I4⟩:=IS.o k fu;obtain⟨G,O,I⟩:=I4 wr n.o.grew;have N:=IW.o.2 _ (List.getElem_mem fu);have Jg:=ae (List.take_succ_eq_append_getElem fu);obtain⟨_,_,_,I5,Jq,_⟩:=O.open;generalize A.next[k]=row at G O I N Jg I5
   have Jw:A.T.toNat≤6:=by have :=Jh.o;omega
   obtain⟨j,F,aL⟩:=vM n.o.store.wf N.1 (N.all E);have dp:=yU A.T.toNat L row Jw;have l:=ae n.o;have Y:L.length+128≤1099511627776:=by have :=n.o.len;omega
   have JC:=ae dp;have aH:=ae F;have Jy:=ae aL;have IT:=ae O;have JI:=ae I;clear n I4 O I N F aL Jq I5 dp;go_wp2_with fail;refine tE l.o.store IT.o JI.o Y ?_;rintro e w4 rfl s4 g4;rw[aH.o.num];have ch:RootsOk A.T.toNat (OfA A.T.toNat L row).1 (f++[(j:Int)]) (A.next.take (k+1)):=by
    rw[Jg.o];exact(l.o.ok.grow l.o.store.wf aH.o.wf aH.o.pre).snoc aH.o.lt Jy.o
   obtain⟨g,cap,w5,v,bL⟩:=l.o.rootPush s4 g4 (by have :=l.o.len;have :=JC.o;omega) ch (by omega);have J:=ae bL;have dZ:Hid ((f++[(j:Int)]).length=k+1):=ae (by simp[D]);rw[D]at v J;clear s4 g4 ch bL G
   go_wp2_with (at_builtin;refine ap rfl _ _ _ rfl rfl rfl v ?_;clear v)
   refine eU (H.o.same J.o.keep) _ ?_;rintro e rfl;rw[vJ fd];obtain⟨g2,JJ,w6,p,a8⟩:=J.o.clsPush fd (by omega);have o:=ae a8;rw[I0.o]at p o;clear a8
   cases X:ac A k with
   |true=>
    rw[if_pos X]at p;clear X
    go_wp2_with (at_builtin;refine ap rfl _ _ _ rfl rfl rfl p ?_;clear p)
    go_roundw
    case rel=>exact⟨k+1,_,_,by go_num,by omega,dZ.o,o.o⟩
    case measure=>simp[intOf];omega
   |false=>
    rw[if_neg (by rw[X];decide)]at p;clear X
    go_wp2_with (at_builtin;refine ap rfl _ _ _ rfl rfl rfl p ?_;clear p)
    go_roundw
    case rel=>exact⟨k+1,_,_,by go_num,by omega,dZ.o,o.o⟩
    case measure=>simp[intOf];omega
  ·obtain rfl:k=A.acc.length:=by omega
   have l:=ae n.o;have Jd:∀x∈ni A A.acc.length,aK x:=fun x hx=>by
    obtain⟨b,_,rfl⟩:=List.mem_map.1 hx
    cases b<;>simp[aK]
   have Jo:=ae (n.o.cls.ints Jd);rw[I0.o]at Jo;clear n Jd;go_wp2_with fail;refine nA Jo.o (by rw[I0.o];omega) ?_;rintro e w5 u rfl o5 k5;rw[BZ]at o5;have ce:C2St w z w5 s A 0 (.slice ra A.acc.length t) u L f:=by
    have h1:=l.o;have I7:=h1.ok;rw[←Z.o,List.take_length]at I7;have I6:=h1.own.same k5;rw[D]at I6;exact⟨h1.store.same k5,by have :=h1.len;omega,I7,I6,aN o5 h1.grew.keeps.size,h1.grew.trans (cD h1.store k5),h1.foot,h1.old,sQ U 0⟩
   have Jj:=ae ce;clear o5 k5 ce;go_wp2_with fail;have JM:=ae D;clear D
   go_loopw [5] (fun cv wr=>∃(k:Nat) (L:List Nd),k<A.acc.length∧Hid (C2St w z wr s A k (.slice ra A.acc.length t) cv L f)∧cntAt wr cv=it A k) (fun cv wr=>A.acc.length -cntAt wr cv)
   case atStart=>exact⟨0,L,U,Jj.o,by rw[vu (Jj.o.cls.ints (mq A E)),(lV A 0).1]⟩
   case round=>
    obtain⟨k,L,Jt,n,fw⟩:=hrel;obtain⟨ca,cc,rfl⟩:=n.o.cls.shape;have gI:((cK A k).map Int.ofNat).length=A.acc.length:=by rw[List.length_map,dk]
    rw[gI]at fw⊢;have C:=n.o;rw[gI]at C;have l:=ae C;have JN:=ae Jt;have Y:L.length+128*A.acc.length≤1000000000:=by
     have h1:=l.o.len;have h2:128*A.acc.length*k≤128*400*400:=Nat.mul_le_mul (by omega) (by omega);omega
    have JB:Hid (∀x∈f,aK x):=ae (fun x hx=>by
     obtain⟨i,hi⟩:=List.getElem?_of_mem hx;have Jv:=(List.getElem?_eq_some_iff.1 hi).1;have Ju:i<A.next.length:=by rw[←l.o.ok.1];exact Jv
     obtain⟨q,e,hq,_⟩:=l.o.ok.2 i x _ hi (List.getElem?_eq_getElem Ju);rw[e];exact Ca (by omega))
    have JD:=ae Y;have IT:Hid (IntsAt wr (.slice ra A.acc.length t) f):=ae (l.o.own.ints JB.o);clear n C gI Y;go_wp2_with fail;refine wM (w0:=w) H.o (l.o.keep.mono fun _ _ _=>trivial) (fun b r=>?_) rfl l.o.store l.o.ok IT.o (l.o.cls.ints (mq A E)) (fun b r=>eg l.o.own l.o.store (by decide) (by decide) b (jr r)) (fun b r=>eg l.o.cls l.o.store (by decide) (by decide) b (jr r)) JD.o ?_
    ·rcases l.o.grew.foot b r with h|h
     ·exact l.o.foot b h
     ·exact Nat.le_trans l.o.old.size h
    rintro e I1 u2 L' rfl o5 s5 cE Js g5;have gJ:=l.o.cls.grew l.o.store g5;have I8:=aN o5 l.o.grew.keeps.size;have v:=l.o.own.grew l.o.store g5;have Jf:=o5.ints (mq A E);have Je:=gJ.ints (mq A E);have J:Hid (∀hc:k+1+1≤it A (k+1),C2St w z I1 s A (k+1) (.slice ra A.acc.length t) u2 L' f):=ae (fun hc=>by
     refine⟨s5,?_,l.o.ok.grow l.o.store.wf s5.wf cE,v,I8,l.o.grew.trans g5,l.o.foot,l.o.old,hc⟩;have h1:=l.o.len;rw[Nat.mul_succ];omega)
    have JE:Hid (Same w I1):=ae (l.o.old.trans (l.o.grew.trans g5).keeps fun x hx _=>⟨trivial,fun hf=>by have :=l.o.foot x hf;omega⟩);have JK:=ae s5;have JH:=ae gJ;have IZ:=ae Jf;have JF:=ae Je;clear o5 s5 cE Js g5 gJ I8 v Jf Je;obtain⟨I3,I2,rfl⟩:∃a c,u2=.slice a A.acc.length c:=by
     obtain⟨a,c,e,_⟩:=IZ.o.open;rw[List.length_map,dk]at e;exact⟨a,c,e⟩
    go_wp2_with fail;refine tK IZ.o JF.o ?_;rintro e w6 rfl M;by_cases y:cK A (k+1)=cK A k
    ·rw[show decide ((cK A (k+1)).map Int.ofNat=(cK A k).map Int.ofNat)=true by rw[y];simp];have HF:Hid (OwnInts w6 w.heap.size (.slice ca A.acc.length cc) ((ff A).map Int.ofNat)):=ae (by
      rw[←Eg U y];exact aN (JH.o.same M) l.o.old.size)
     have Jl:=ae (JE.o.tr M);clear y M fw;go_wp2_with fail;exact HR.o _ _ _ rfl HF.o Jl.o
    ·rw[show decide ((cK A (k+1)).map Int.ofNat=(cK A k).map Int.ofNat)=false by
      rw[decide_eq_false_iff_not];intro e;apply y;have h4:=congrArg (List.map Int.toNat) e
      simpa [List.map_map,Function.comp_def]using h4]
     have gH:=mo A k;have cH:it A k<it A (k+1):=by
      rcases Nat.lt_or_eq_of_le gH.1 with h|h
      ·exact h
      ·exact absurd (gH.2 h) y
     have Jc:k+1+1≤it A (k+1):=by have :=l.o.cnt;omega
     have dE:=sR A (k+1);have o:=ae (J.o Jc);have Jl:=ae M;have Ji:Hid (C2St w z w6 s A (k+1) (.slice ra A.acc.length t) (.slice I3 A.acc.length I2) L' f):=ae
      ⟨o.o.store.same M,o.o.len,o.o.ok,o.o.own.same M,o.o.cls.same M,o.o.grew.trans (cD o.o.store M),o.o.foot,o.o.old,o.o.cnt⟩
     have Jn:Hid (cntAt w6 (.slice I3 A.acc.length I2)=it A (k+1)):=ae (by rw[vu (IZ.o.same M),(lV A (k+1)).1]);have HM:=ae cH;have Jk:=ae dE;clear y M gH cH dE Jc;go_wp2_with fail;go_roundw
     case rel=>exact⟨k+1,L',by have :=Ji.o.cnt;have :=Jk.o;omega,Ji.o,Jn.o⟩
     case measure=>rw[Jn.o,fw];have :=HM.o;have :=Jk.o;omega
end
section
attribute [local irreducible] wpQuiet ax au aQ
variable {R:Ending→World→Prop} {w:World} {A:Au} {B d:Nat}
theorem iL {e j:TypeId} {z k n n' B':Nat} {v i:Value} {o a:List Value} (h:w.ownsRow B e z v n o) (q:w.ownsRow B' j k i n' a) (f:e≠j):∀b,v.ownBlock=some b→i.ownBlock≠some b:=fun b p g=>by
 obtain⟨_,c,h1⟩:=ah h p;obtain⟨_,s,h2⟩:=ah q g;rw[h1]at h2;simp only[Option.some.injEq,Obj.cells.injEq]at h2;exact f h2.2.1
theorem dr {e t:TypeId} {z n x:Nat} {v:Value} {b:List Value} {cs:Array Value} (h:w.ownsRow B e z v n b) (hx:w.heap[x]?=some (.cells cs t (0,0))) (a:e≠t):v.ownBlock≠some x:=fun f=>by
 obtain⟨_,c,h1⟩:=ah h f;rw[hx]at h1;simp only[Option.some.injEq,Obj.cells.injEq]at h1;exact a h1.2.1.symm
theorem gw {e:TypeId} {z n m:Nat} {v:Value} {a:List Value} {K:List (Int×Value)} (h:w.ownsRow B e z v n a) (b:MapAt (Value.int .i64) w m K):v.ownBlock≠some m:=fun f=>by
 obtain⟨_,c,h1⟩:=ah h f;obtain⟨i,g,h2,_⟩:=b;rw[h2]at h1;cases h1
structure MnSt (W m x:Nat) (w3 wr:World) (vl vr ua vn:Value) (T:Int) (K l r:List Int) (acc:List Bool) (rows:List (List Int)):Prop where
 map:MapAt (Value.int .i64) wr m (p9 K)
 lown:OwnInts wr W vl l
 rown:OwnInts wr W vr r
 lr:∀b,vr.ownBlock=some b→vl.ownBlock≠some b
 blk:wr.heap[x]?=some (.cells #[T,ua,vn] 166)
 accs:OwnBools wr W ua acc
 mat:∃vs:List Value,wr.ownsRow W 41 1 vn rows.length vs∧vs.length=rows.length∧∀(i:Nat) (u:Value) (q:List Int),vs[i]?=some u→rows[i]?=some q→OwnInts wr W u q∧∀b,u.ownBlock=some b→vl.ownBlock≠some b∧vr.ownBlock≠some b
 keep:Same w3 wr
 low:W=w3.heap.size∧W≤m∧W≤x
variable {W m x:Nat} {w3 wr:World} {vl vr ua vn:Value} {T:Int} {K l r:List Int} {acc:List Bool} {rows:List (List Int)}
theorem MnSt.same {a:World} (h:MnSt W m x w3 wr vl vr ua vn T K l r acc rows) (k:Same wr a):MnSt W m x w3 a vl vr ua vn T K l r acc rows:=by
 obtain⟨vs,h1,h2,e⟩:=h.mat;exact⟨h.map.keep k trivial,h.lown.same k,h.rown.same k,h.lr,k.at h.blk trivial,ar h.accs k fun _ _=>trivial,⟨vs,ar h1 k fun _ _=>trivial,h2,fun i u q b c=>⟨(e i u q b c).1.same k,(e i u q b c).2⟩⟩,h.keep.tr k,h.low⟩
theorem MnSt.size (h:MnSt W m x w3 wr vl vr ua vn T K l r acc rows):W≤wr.heap.size:=by have :=h.low.1;have :=h.keep.size;omega
theorem MnSt.pushL (h:MnSt W m x w3 wr vl vr ua vn T K l r acc rows) (y:Int) (D:l.length≤1000):
 ∃g cap k,(Builtin.append_ #[41,41] 41 #[vl,.slice (IQ wr.heap.size 0) 1 1]).run Tryz.prog (wr.alloc (Ic y))=.ok (.slice (IQ g 0) (l.length+1) cap) k∧
  MnSt W m x w3 k (.slice (IQ g 0) (l.length+1) cap) vr ua vn T K (l++[y]) r acc rows:=by
 obtain⟨g,cap,k,t,j,f,n,_⟩:=bi (P:=Tryz.prog) wr 41 41 3 Tryz.underlying41 cC rfl h.lown h.size (IP y) rfl (by omega) (by decide);obtain⟨vs,h1,h2,C⟩:=h.mat;have c:∀{u:Value} {q:List Int},OwnInts wr W u q→(∀b,u.ownBlock=some b→vl.ownBlock≠some b)→∀b,u.ownBlock=some b→(Value.slice (IQ g 0) (l.length+1) cap).ownBlock≠some b:=fun ho z b a e=>by
  simp[Value.ownBlock]at e;subst e;rcases n with n|n
  ·exact z _ a n
  ·have :=(ho.low a).2;omega
 refine⟨g,cap,k,t,h.map.keep f (gw h.lown h.map),?_,h.rown.keep f fun b a=>h.lr b a,c h.rown h.lr,f.at h.blk (dr h.lown h.blk (by decide)),ar h.accs f fun b a e=>iL h.accs h.lown (by decide) b a e,
  ⟨vs,ar h1 f fun b a e=>iL h1 h.lown (by decide) b a e,h2,fun i u q s v=>?_⟩,h.keep.trans f fun b a _=>⟨trivial,fun e=>?_⟩,h.low⟩
 ·unfold OwnInts;simpa using j
 ·obtain⟨p,o⟩:=C i u q s v;exact⟨p.keep f fun b a=>(o b a).1,fun b a=>⟨c p (fun b a=>(o b a).1) b a,(o b a).2⟩⟩
 ·have :=(h.lown.low e).1;have :=h.low.1;omega
theorem MnSt.pushR (h:MnSt W m x w3 wr vl vr ua vn T K l r acc rows) (y:Int) (E:r.length≤1000):
 ∃g cap n,(Builtin.append_ #[41,41] 41 #[vr,.slice (IQ wr.heap.size 0) 1 1]).run Tryz.prog (wr.alloc (Ic y))=.ok (.slice (IQ g 0) (r.length+1) cap) n∧
  MnSt W m x w3 n vl (.slice (IQ g 0) (r.length+1) cap) ua vn T K l (r++[y]) acc rows:=by
 obtain⟨g,cap,n,v,j,f,o,_⟩:=bi (P:=Tryz.prog) wr 41 41 3 Tryz.underlying41 cC rfl h.rown h.size (IP y) rfl (by omega) (by decide);obtain⟨vs,h1,h2,D⟩:=h.mat;have c:∀{u:Value} {q:List Int},OwnInts wr W u q→(∀b,u.ownBlock=some b→vr.ownBlock≠some b)→∀b,u.ownBlock=some b→(Value.slice (IQ g 0) (r.length+1) cap).ownBlock≠some b:=fun ho C b a e=>by
  simp[Value.ownBlock]at e;subst e;rcases o with o|o
  ·exact C _ a o
  ·have :=(ho.low a).2;omega
 have k:∀b,vl.ownBlock=some b→vr.ownBlock≠some b:=fun b a e=>h.lr b e a;refine⟨g,cap,n,v,h.map.keep f (gw h.rown h.map),h.lown.keep f fun b a=>k b a,?_,fun b a e=>c h.lown k b e a,f.at h.blk (dr h.rown h.blk (by decide)),ar h.accs f fun b a e=>iL h.accs h.rown (by decide) b a e,
  ⟨vs,ar h1 f fun b a e=>iL h1 h.rown (by decide) b a e,h2,fun i u q t z=>?_⟩,h.keep.trans f fun b a _=>⟨trivial,fun e=>?_⟩,h.low⟩
 ·unfold OwnInts;simpa using j
 ·obtain⟨s,p⟩:=D i u q t z;exact⟨s.keep f fun b a=>(p b a).2,fun b a=>⟨(p b a).1,c s (fun b a=>(p b a).2) b a⟩⟩
 ·have :=(h.rown.low e).1;have :=h.low.1;omega
theorem MnSt.put (h:MnSt W m x w3 wr vl vr ua vn T K l r acc rows) {t:Int} (y:t∉K) {z:Int} (s:z=(K.length:Int)):
 ∃c,(Instr.mapUpdate 220 (.map (some m)) (IP t) (IP z)).run Tryz.prog wr=.ok () c∧MnSt W m x w3 c vl vr ua vn T (K++[t]) l r acc rows∧Keeps (·≠m) wr c:=by
 subst s;obtain⟨c,C,o,a⟩:=aR uI Tryz.underlying220 h.map t (IP (K.length:Int)) (by rw[gP,if_neg y]);rw[←qS]at o;have nm:∀{e:TypeId} {z n:Nat} {v:Value} {p:List Value},wr.ownsRow W e z v n p→∀b,v.ownBlock=some b→b≠m:=fun ho b f e=>by subst e;exact gw ho h.map f
 obtain⟨vs,h1,h2,k⟩:=h.mat;refine⟨c,C,⟨o,h.lown.keep a (nm h.lown),h.rown.keep a (nm h.rown),h.lr,a.at h.blk (fun e=>?_),ar h.accs a (nm h.accs),⟨vs,ar h1 a (nm h1),h2,fun i u q g j=>⟨(k i u q g j).1.keep a (nm (k i u q g j).1),(k i u q g j).2⟩⟩,h.keep.trans a fun b f _=>⟨trivial,fun e=>?_⟩,h.low⟩,a⟩
 ·obtain⟨F,E,D,_⟩:=h.map;have f:=h.blk;subst e;rw[D]at f;cases f
 ·have :=h.low;omega
theorem MnSt.look (h:MnSt W m x w3 wr vl vr ua vn T K l r acc rows) (t:Int):
 (Instr.lookup 220 (.map (some m)) (IP t) true).run Tryz.prog wr=.ok (.tuple (Id (if t∈K then .int .i64 ((K.idxOf t:Nat):Int)else .int .i64 0) (decide (t∈K)))) wr:=by
 have :=b8 uI Tryz.underlying220 (gB wr) h.map t;rw[gP]at this;rw[this];by_cases hx:t∈K<;>simp[hx]
theorem MnSt.cellKeep {a:World} {i:Nat} {y:Value} {e:TypeId} {z n:Nat} {v:Value} {c:List Value} (ho:a.ownsRow B e z v n c) (hx:v.ownBlock≠some x):(a.setCell ⟨x,i,none⟩ y).ownsRow B e z v n c:=
 ar ho ((af (·≠x) a).setCell (fun f=>f.2 rfl) _) fun b g=>by rintro rfl;exact hx g
def iF:=@MnSt.cellKeep
theorem MnSt.outNext (h:MnSt W m x w3 wr vl vr ua vn T K l r acc rows) (X:rows.length≤1000):
 ∃g cap j,(Builtin.append_ #[140,140] 140 #[vn,.slice (IQ wr.heap.size 0) 1 1]).run Tryz.prog (wr.alloc (.cells #[vr] 41))=.ok (.slice (IQ g 0) (rows.length+1) cap) j∧
  j.heap[x]?=some (.cells #[T,ua,vn] 166)∧
  MnSt W m x w3 (j.setCell ⟨x,2,none⟩ (.slice (IQ g 0) (rows.length+1) cap)) vl IM ua (.slice (IQ g 0) (rows.length+1) cap) T K l [] acc (rows++[r]):=by
 obtain⟨vs,h1,h2,N⟩:=h.mat;have s:vr.oneCell'=true:=by
  obtain⟨a,c,rfl⟩:=h.rown.shape;rfl
 obtain⟨g,cap,j,G,C,o,V,U⟩:=gV (P:=Tryz.prog) wr 140 140 41 Tryz.underlying140 jX rfl h1 h.size vr s (by omega) (by decide);have f:=o.at h.blk (dr h1 h.blk (by decide));have v:∀{u:Value} {q:List Int},OwnInts wr W u q→OwnInts (j.setCell ⟨x,2,none⟩ (.slice (IQ g 0) (rows.length+1) cap)) W u q:=fun ho=>by
  have E:OwnInts j W _ _:=ho.keep o fun b k e=>iL h1 ho (by decide) b e k;exact iF E (dr E f (by decide))
 have D:MapAt (Value.int .i64) j m (p9 K):=h.map.keep o (gw h1 h.map);have J:Keeps (·≠x) j (j.setCell ⟨x,2,none⟩ (.slice (IQ g 0) (rows.length+1) cap)):=(af (·≠x) j).setCell (fun z=>z.2 rfl) _;have F:j.ownsRow W 4 1 ua acc.length (acc.map Value.bool):=ar h.accs o fun b k e=>iL h.accs h1 (by decide) b k e;have t:m≠x:=fun e=>by
  obtain⟨Y,O,L,_⟩:=D;subst e;rw[L]at f;cases f
 refine⟨g,cap,j,G,f,D.keep J t,v h.lown,World.ownsRow_nil _ _ _ _,fun b k=>by simp[Value.ownBlock]at k,?_,iF F (dr F f (by decide)),⟨vs++[vr],by simpa using iF C (dr C f (by decide)),by simp[h2],fun i u q p n=>?_⟩,?_,h.low⟩
 ·rw[aj f];simp
 ·by_cases M:i<rows.length
  ·rw[List.getElem?_append_left (by omega)]at p;rw[List.getElem?_append_left M]at n;obtain⟨I,H⟩:=N i u q p n;exact⟨v I,fun b k=>⟨(H b k).1,by simp[Value.ownBlock]⟩⟩
  ·have y:i=rows.length:=by
    have :=(List.getElem?_eq_some_iff.1 n).1;simp at this;omega
   subst y;rw[List.getElem?_append_right (by omega)]at p n;simp[h2]at p n;subst p;subst n;exact⟨v h.rown,fun b k=>⟨h.lr b k,by simp[Value.ownBlock]⟩⟩
 ·refine(h.keep.trans o fun b k _=>⟨trivial,fun e=>?_⟩).setCell (fun z=>?_) _
  ·have :=(ah h1 e).1;have :=h.low.1;omega
  ·have :=z.1;have :=h.low;simp at *;omega
theorem MnSt.outAcc (h:MnSt W m x w3 wr vl vr ua vn T K l r acc rows) (y:Bool) (L:acc.length≤1000):
 ∃g cap c,(Builtin.append_ #[164,164] 164 #[ua,.slice (IQ wr.heap.size 0) 1 1]).run Tryz.prog (wr.alloc (.cells #[y] 4))=.ok (.slice (IQ g 0) (acc.length+1) cap) c∧
  c.heap[x]?=some (.cells #[T,ua,vn] 166)∧Keeps (fun b=>ua.ownBlock≠some b) wr c∧
  MnSt W m x w3 (c.setCell ⟨x,1,none⟩ (.slice (IQ g 0) (acc.length+1) cap)) vl vr (.slice (IQ g 0) (acc.length+1) cap) vn T K l r (acc++[y]) rows:=by
 obtain⟨vs,h1,h2,D⟩:=h.mat;obtain⟨g,cap,c,E,p,f,J,I⟩:=gV (P:=Tryz.prog) wr 164 164 4 Tryz.underlying164 gm rfl h.accs h.size (.bool y) rfl (by omega) (by decide);have a:=f.at h.blk (dr h.accs h.blk (by decide));have n:∀{u:Value} {q:List Int},OwnInts wr W u q→OwnInts (c.setCell ⟨x,1,none⟩ (.slice (IQ g 0) (acc.length+1) cap)) W u q:=fun ho=>by
  have C:OwnInts c W _ _:=ho.keep f fun b j e=>iL h.accs ho (by decide) b e j;exact iF C (dr C a (by decide))
 have t:MapAt (Value.int .i64) c m (p9 K):=h.map.keep f (gw h.accs h.map);have F:Keeps (·≠x) c (c.setCell ⟨x,1,none⟩ (.slice (IQ g 0) (acc.length+1) cap)):=(af (·≠x) c).setCell (fun o=>o.2 rfl) _;have s:c.ownsRow W 41 1 vn rows.length vs:=ar h1 f fun b j e=>iL h1 h.accs (by decide) b j e;have k:m≠x:=fun e=>by
  obtain⟨M,H,G,_⟩:=t;subst e;rw[G]at a;cases a
 refine⟨g,cap,c,E,a,f,t.keep F k,n h.lown,n h.rown,h.lr,?_,?_,⟨vs,iF s (dr s a (by decide)),h2,fun i u q v z=>⟨n (D i u q v z).1,(D i u q v z).2⟩⟩,?_,h.low⟩
 ·rw[aj a];simp
 ·have :=iF (i:=1) (y:=.slice (IQ g 0) (acc.length+1) cap) p (dr p a (by decide));unfold OwnBools
  simpa using this
 ·refine(h.keep.trans f fun b j _=>⟨trivial,fun e=>?_⟩).setCell (fun o=>?_) _
  ·have :=(ah h.accs e).1;have :=h.low.1;omega
  ·have :=o.1;have :=h.low;simp at *;omega
end
end Go.Proofs.YtojegnbejmeehaaGreatDoor
