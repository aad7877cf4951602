/- Helpers of the proof of TopNames. -/
import Derived.Test.YtojegnbejmeehaaGreatDoorJBI
namespace Go.Proofs.YtojegnbejmeehaaGreatDoor
open Go.RowKit
set_option maxRecDepth 10000
set_option maxHeartbeats 16000000
set_option linter.all false
section
attribute [local irreducible] wpQuiet
variable {R:Ending→World→Prop} {w:World} {A:Au}
end
section
attribute [local irreducible] wpQuiet ax au aQ
variable {R:Ending→World→Prop} {w:World} {A:Au}
end
section
attribute [local irreducible] wpQuiet ax au aQ
variable {R:Ending→World→Prop} {w:World} {A:Au} {B d:Nat}
def vP (F:Nat) (recv:Value) (p:Int→Bool) (l:List Int) (w:World):Prop:=
 ∀x∈l,∀w' R,Same w w'→(∀e w'',e=.returned (.bool (p x))→Same w' w''→R e w'')→Calls Tryz.prog F (Ia recv x) w' R
theorem xh {F:Nat} {j:Value} {p:Int→Bool} {l:List Int} {v:Value} (J:∀m w,(callFunc F m).run Tryz.prog w=.ok (.enter F m) w) (hv:IntsAt w v l) (C:vP F j p l w)
 (E:∀e x,e=.returned (IP (si p l))→Same w x→R e x):
 Calls Tryz.prog 114 #[v,.func (.func F) #[j] #[]] w R:=by
 have H:=ae E;clear E;have V:=ae hv.2;obtain⟨a,c,rfl,L,u,f⟩:=hv.open;have N:=ae f;have M:=ae C;clear f hv C;unfold maxLen at u;go_enter Tryz.func114,Tryz.ntmps114;go_wp2_with fail
 go_loopw [8] (fun i wr=>∃k:Nat,i=.int .i64 k∧k≤l.length∧Hid (∀i (_:i<k),p (l.getD i 0)=false)∧Same w wr) (fun i _=>l.length -(intOf i).toNat)
 case atStart=>exact⟨0,rfl,Nat.zero_le _,ae (fun i D=>absurd D (Nat.not_lt_zero _)),af _ _⟩
 case round=>
  obtain⟨k,rfl,T,n,r⟩:=hrel;by_cases h:k<l.length
  ·obtain⟨b,off,rfl,U,q⟩:=N.o k h;have t:=ak r (q k h) trivial;clear q;obtain⟨z,s⟩:∃z,z=l[k]:=⟨_,rfl⟩;rw[←s]at t;have G:=ae s;have I:z∈l:=by rw[s];exact List.getElem_mem _
   clear s;go_wp2_with fail;refine M.o z I _ _ r ?_;rintro e O rfl y
   cases g:p z with
   |true=>
    have o:=ae g;clear g;go_wp2_with fail;refine H.o _ _ (cQ ?_) (r.tr y);exact(pz h (by rw[←G.o];exact o.o) n.o).symm
   |false=>
    have o:=ae g;clear g;go_wp2_with fail;go_roundw
    case rel=>
     refine⟨k+1,by go_num,by omega,ae (fun i D=>?_),r.tr y⟩;by_cases e:i=k
     ·subst e;simpa [List.getD,List.getElem?_eq_getElem h,←G.o]using o.o
     ·exact n.o i (by omega)
    case measure=>simp[intOf];omega
  ·go_wp2_with fail;refine H.o _ _ (cQ ?_) r;obtain rfl:k=l.length:=by omega
   exact(rk n.o).symm
theorem kK {F:Nat} {a:Value} {p:Int→Bool} {l:List Int} {v:Value} (c:∀b w,(callFunc F b).run Tryz.prog w=.ok (.enter F b) w) (hv:IntsAt w v l) (i:vP F a p l w)
 (g:∀e f,e=.returned (.bool (l.any p))→Same w f→R e f):
 Calls Tryz.prog 166 #[v,.func (.func F) #[a] #[]] w R:=by
 have j:=ae g;clear g;go_enter Tryz.func166,Tryz.ntmps166;go_wp2_with fail;refine xh c hv i ?_;rintro e k rfl h;go_wp2_with fail;exact j.o _ _ (be (uR p l)) h
theorem iv (a:Array Value) (w:World):(callFunc 163 a).run Tryz.prog w=.ok (.enter 163 a) w:=by kernel_rfl
theorem Ae {l:List Int} (b:∀(w:World) (R:Ending→World→Prop),DFAAt w B d A→(∀e f v,e=.returned v→IntsAt f v l→Same w f→R e f)→Calls Tryz.prog 167 #[.pointer (IQ d 0)] w R) (h:DFAAt w B d A)
 (g:∀e f,e=.returned (.bool (!l.any (gG A)))→Same w f→R e f):
 Calls Tryz.prog 111 #[.pointer (IQ d 0)] w R:=by
 have r:=ae g;clear g;have H:=ae h;have i:=ae b;clear h b;go_enter Tryz.func111,Tryz.ntmps111;go_wp2_with fail;refine i.o _ _ H.o ?_;rintro e t v rfl hv j;obtain⟨a,c,rfl,_,_,_⟩:=hv.open;have q:=ae hv;have m:=ae j;clear hv j;go_wp2_with fail;refine kK (p:=gG A) (l:=l) iv q.o (fun x _ f R k g=>eU (H.o.same (m.o.tr k)) x fun e o=>g e f o (af _ f)) ?_;rintro e s rfl n;go_wp2_with fail;exact r.o _ _ rfl (m.o.tr n)
end
section
variable {R:Ending→World→Prop} {w:World}
end
section
attribute [local irreducible] wpQuiet
variable {R:Ending→World→Prop} {w:World}
end
section
variable {R:Ending→World→Prop} {w:World}
theorem rR (W:List Nat) (i m:Nat):∀x∈iZ W i m,0≤x∧x<m:=by
 intro x hx;unfold iZ at hx;obtain⟨y,a,rfl⟩:=List.mem_map.1 hx;have :=(List.mem_filter.1 a).1;rw[List.mem_range]at this;simp;omega
theorem jE (W:List Nat) (n m:Nat) (b:m≤1000):∀l∈aZ W n m 0,∀x∈l,aK x:=by
 intro l a x hx;unfold aZ at a;obtain⟨i,_,rfl⟩:=List.mem_map.1 a;rw[if_neg (by omega)]at hx;have :=rR W i m x hx;unfold aK;omega
end
section
attribute [local irreducible] wpQuiet ax au aQ
variable {R:Ending→World→Prop} {w:World} {A:Au} {B d:Nat}
end
section
attribute [local irreducible] wpQuiet ax au aQ
variable {R:Ending→World→Prop} {w:World} {A:Au} {B d:Nat}
theorem nH (a b c:Value) (w:World):(Instr.field 166 (.agg #[a,b,c]) 2).run Tryz.prog w=.ok c w:=by kernel_rfl
attribute [local go_sem] nH
theorem wO {n:Nat}:madeCells (Value.cells (.bool false)) (n*1)=((List.replicate n false).map Value.bool).toArray:=by
 apply Array.ext
 ·simp[size_madeCells]
 ·intro i h1 h2;simp[madeCells,Value.cells,Nat.mod_one]
def FlagIn (w:World) (b:Nat) (l:List Bool):Prop:=w.heap[b]?=some (.cells (l.map Value.bool).toArray 4 (0,0))
theorem FlagIn.set {b:Nat} {l:List Bool} (h:FlagIn w b l) (k:Nat) (y:Bool):FlagIn (w.setCell ⟨b,k,none⟩ (.bool y)) b (l.set k y):=by
 unfold FlagIn at *;rw[aj h];simp[List.map_set]
theorem FlagIn.get {b k:Nat} {l:List Bool} {x:Bool} (h:FlagIn w b l) (a:l[k]?=some x):w.cell? ⟨b,k,none⟩=some (.bool x):=by
 rw[ai h];simp[a]
def gC (n:Nat) (l:List Int):List Bool:=(List.range n).map fun s:Nat=>decide ((s:Int)∈l)
theorem xr (n:Nat):gC n []=List.replicate n false:=by
 apply List.ext_getElem
 ·simp[gC]
 ·intro i h1 h2;simp[gC]
theorem xt {n s:Nat} {l:List Int} (hs:s<n):(gC n l)[s]?=some (decide ((s:Int)∈l)):=by
 simp[gC,hs]
theorem pC {n s:Nat} {l:List Int}:(gC n l).set s true=gC n (l++[(s:Int)]):=by
 apply List.ext_getElem
 ·simp[gC]
 ·intro i h1 h2;rw[List.getElem_set];simp only[gC,List.getElem_map,List.getElem_range];by_cases e:s=i
  ·subst e;simp
  ·rw[if_neg e];have :((i:Int)∈l++[(s:Int)])↔(i:Int)∈l:=by simp;omega
   simp[this]
structure RSt (W0 W2:Nat) (w3 wr:World) (n b:Nat) (u:Value) (l:List Int):Prop where
 flag:FlagIn wr b (gC n l)
 own:OwnInts wr W0 u l
 keep:Keeps (fun x=>x<W0∨W2≤x) w3 wr
 live:∀g,u.ownBlock=some g→g<W2∨w3.heap.size≤g
 low:W0≤b∧b<W2∧W2≤w3.heap.size
theorem RSt.push {r z n b:Nat} {v wr:World} {u:Value} {l:List Int} (h:RSt r z v wr n b u l) (s:Nat) (G:l.length≤1000000):
 ∃g cap t,(Builtin.append_ #[41,41] 41 #[u,.slice (IQ wr.heap.size 0) 1 1]).run Tryz.prog ((wr.setCell ⟨b,s,none⟩ (.bool true)).alloc (Ic s))=.ok (.slice (IQ g 0) (l.length+1) cap) t∧
  RSt r z v t n b (.slice (IQ g 0) (l.length+1) cap) (l++[(s:Int)]):=by
 have E:Keeps (·≠b) wr (wr.setCell ⟨b,s,none⟩ (.bool true)):=(af (·≠b) wr).setCell (fun y=>y.2 rfl) _;have m:u.ownBlock≠some b:=h.own.ne_block h.flag (by decide);have a:OwnInts (wr.setCell ⟨b,s,none⟩ (.bool true)) r u l:=h.own.keep E fun g k=>by rintro rfl;exact m k
 have i:=h.flag.set s true;rw[pC]at i;have c:Keeps (fun x=>x<r∨z≤x) v (wr.setCell ⟨b,s,none⟩ (.bool true)):=h.keep.setCell (fun y=>by have :=h.low;have :=y.2;simp at this;omega) _;have o:(wr.setCell ⟨b,s,none⟩ (.bool true)).heap.size=wr.heap.size:=by simp[World.setCell]
 generalize wr.setCell ⟨b,s,none⟩ (.bool true)=C at a i c o⊢;have j:r≤C.heap.size:=by have :=h.low;have :=c.size;omega
 obtain⟨g,cap,t,D,f,p,k,_⟩:=bi (P:=Tryz.prog) C 41 41 3 Tryz.underlying41 cC rfl a j (IP (s:Int)) rfl (by omega) (by decide);rw[o]at D;refine⟨g,cap,t,D,p.at i m,?_,?_,fun H q=>?_,h.low⟩
 ·unfold OwnInts;simpa using f
 ·refine c.trans p fun x hx F=>⟨F,fun e=>?_⟩;have h1:=h.live x e;have h2:=(a.low e).1;omega
 ·simp[Value.ownBlock]at q;subst q;rcases k with k|k
  ·exact h.live _ k
  ·right;have :=c.size;omega
theorem Ad (h:DFAAt w B d A) (hR:∀e w' v,e=.returned v→IntsAt w' v (rchL A)→Same w w'→R e w'):
 Calls Tryz.prog 167 #[.pointer (IQ d 0)] w R:=by
 have HR:=ae hR;clear hR;have f:=ae h.ok;have dp:0<A.acc.length:=h.ok.1.2.2.1;have Jp:A.acc.length≤400:=h.ok.1.2.2.2.1;have aH:=ae h.ok.1.2.2.2.2;have H:=ae h;obtain⟨Z,If⟩:∃Z,Z=w.heap.size:=⟨_,rfl⟩;have Jg:=ae If;generalize I4:A.acc.length=n at dp Jp aH;have G:=ae I4;obtain⟨i0,I9,IT,IS,IR⟩:=info_parts gm;have dZ:=run_make (P:=Tryz.prog) w 164 4 i0 _ Tryz.underlying164 I9 IT .i64 .i64 n n (by omega) (by omega) (by rw[IR];omega) (by omega);rw[IS,Int.toNat_natCast,wO]at dZ;have c:FlagIn (w.alloc (.cells ((List.replicate n false).map Value.bool).toArray 4)) w.heap.size (List.replicate n false):=ag _ _;have fu:=sal w (.cells ((List.replicate n false).map Value.bool).toArray 4);have J:(w.alloc (.cells ((List.replicate n false).map Value.bool).toArray 4)).heap.size=w.heap.size+1:=by simp
 generalize w.alloc _=I at dZ c fu J;obtain⟨b,F⟩:∃b,b=w.heap.size:=⟨_,rfl⟩;rw[←F]at dZ c;have Jd:b=Z:=F.trans If.symm;have ch:=ae (J.trans (by rw[←F]));clear I9 IT IS IR h If F J;have z1:=c.get (k:=0) (x:=false) (by simp[List.getElem?_replicate];omega);have z2:=ao c 0;have p:=c.set 0 true;have C:=ae (by rw[←xr,pC (s:=0)]at p;exact p);have Jz:=ae fu;have aL:=ae Jd;clear c p fu Jd I4;go_enter Tryz.func167,Tryz.ntmps167;go_wp2_with fail;refine iq H.o ?_;rintro e rfl;rw[G.o];go_wp2_with fail;have fw:Same w ((I.setCell ⟨b,0,none⟩ (.bool true)).alloc Hn):=(Jz.o.setCell (fun hh=>by have h1:=hh.1;have h2:=aL.o;have h3:=Jg.o;simp at h1;omega) _).alloc _;have hs1:(I.setCell ⟨b,0,none⟩ (.bool true)).heap.size=I.heap.size:=by simp[World.setCell]
 have r:OwnInts ((I.setCell ⟨b,0,none⟩ (.bool true)).alloc Hn) Z (.slice (IQ I.heap.size 0) 1 1) [0]:=by
  refine RowIn.own (l:=[0]) ?_ ?_ rfl (by decide)
  ·have :=ag (I.setCell ⟨b,0,none⟩ (.bool true)) Hn;rw[hs1]at this;exact this
  ·have :=ch.o;have :=aL.o;omega
 have gH:FlagIn ((I.setCell ⟨b,0,none⟩ (.bool true)).alloc Hn) b (gC n [0]):=aw C.o _;have X:((I.setCell ⟨b,0,none⟩ (.bool true)).alloc Hn).heap.size=I.heap.size+1:=by simp[hs1]
 have Jf:=ae (show I.heap.size=Z+1 by have :=ch.o;have :=aL.o;omega);generalize(I.setCell ⟨b,0,none⟩ (.bool true)).alloc Hn=w4 at fw r gH X⊢;generalize I.heap.size=g0 at r X Jf⊢;have Jk:=ae fw;have Ji:=ae r;have JC:=ae gH;have Jh:=ae X;clear fw r gH X hs1;refine mh (H.o.same Jk.o) ?_;rintro e w3 v3 rfl o3 k3;obtain⟨va,vn,rfl,_,om⟩:=o3;obtain⟨ng,nc,rfl⟩:∃ng nc,vn=.slice (IQ ng 0) A.next.length nc:=by
  obtain⟨vs,h1,_⟩:=om;exact dN h1 (by rw[aH.o];exact dp)
 rw[aH.o]at om⊢;obtain⟨W2,gJ⟩:∃W2,W2=w4.heap.size:=⟨_,rfl⟩;have JI:=ae gJ;rw[←gJ]at om;have Jj:=ae om;have a:RSt Z W2 w3 w3 n b (.slice (IQ g0 0) 1 1) [0]:=
  ⟨k3.at JC.o trivial,Ji.o.same k3,af _ _,fun g hg=>by
   simp[Value.ownBlock]at hg;subst hg;left;have :=Jh.o;omega,by have :=aL.o;have :=Jh.o;have :=Jf.o;have :=k3.size;omega⟩
 have Ju:=ae a;have JB:=ae (Jk.o.tr k3);clear om a k3 gJ;go_wp2_with fail
 go_loopw [4,6] (fun u i wr=>∃(k:Nat) (l:List Int),i=.int .i64 k∧k≤l.length∧l.length≤n∧Hid (BfsI A k l)∧Hid (RSt Z W2 w3 wr n b u l)) (fun _ i _=>n -(intOf i).toNat)
 case atStart=>exact⟨0,[0],rfl,Nat.zero_le _,dp,ae (BfsI.start A),Ju.o⟩
 case round=>
  obtain⟨k,l,rfl,hk,Jq,F,a⟩:=hrel;obtain⟨ua,uc,rfl⟩:=a.o.own.shape;by_cases N:k<l.length
  ·obtain⟨x,hx⟩:∃x,x=l[k]:=⟨_,rfl⟩;have IZ:l[k]?=some x:=by rw[hx];exact List.getElem?_eq_getElem N
   obtain⟨s,rfl,I2⟩:=F.o.rch x (by rw[hx];exact List.getElem_mem N);have Jn:s<n:=by rw[←G.o];exact I2.lt f.o
   have I6:∀y∈l,aK y:=fun y V=>by
    obtain⟨t,rfl,ht⟩:=F.o.rch y V;have :=ht.lt f.o;rw[G.o]at this;unfold aK;omega
   obtain⟨_,_,e1,_,Js,T⟩:=(a.o.own.ints I6).open;simp only[Value.slice.injEq]at e1;obtain⟨rfl,_,rfl⟩:=e1;obtain⟨lb,JF,rfl,_,Jb⟩:=T k N;have Jc:=Jb k N;rw[←hx]at Jc;have L:s<A.next.length:=by rw[aH.o];exact Jn
   obtain⟨rs,rc,q1,_,ho⟩:=Jj.o.elem (k:=s) (List.getElem?_eq_getElem L);have c:fF A s=A.next[s]:=by unfold fF;rw[List.getD_eq_getElem?_getD,List.getElem?_eq_getElem L];rfl
   have I5:=(f.o.2 _ (List.getElem_mem L)).1;have cH:=f.o.bounds.2 _ (List.getElem_mem L);have M:=f.o.2 _ (List.getElem_mem L);rw[G.o]at M;generalize A.next[s]=row at q1 ho c cH M
   have C:=ae c;have Jv:=ae M.2;have Jw:=ae cH;have bL:W2≤ng:=(ah Jj.o.choose_spec.1 (g:=ng) (by simp[Value.ownBlock])).1;have q2:=ak a.o.keep q1 (.inr bL);have HO:=ae ho;have JG:row.length≤64:=by rw[M.1];exact fp (by have :=f.o.1.1;have :=f.o.1.2.1;omega)
   have JD:=ae (And.intro F.o IZ);have o:=ae a.o;clear F a hx IZ I2 I6 T Jb q1 c cH M ho I5 bL;unfold maxLen at Js;go_wp2_with fail;clear Jc q2
   go_loopw [4,8,34] (fun u _ i wr=>∃(m:Nat) (l:List Int),i=.int .i64 m∧m≤row.length∧l.length≤n∧k<l.length∧Hid ((BfsI A k l∧l[k]?=some (s:Int))∧∀j y,j<m→row[j]?=some y→y∈l)∧Hid (RSt Z W2 w3 wr n b u l)) (fun _ _ i _=>row.length -(intOf i).toNat)
   case atStart=>exact⟨0,l,rfl,Nat.zero_le _,Jq,N,ae ⟨JD.o,fun j y hj _=>absurd hj (Nat.not_lt_zero _)⟩,o.o⟩
   case round=>
    obtain⟨m,U,rfl,hm,ce,fd,q,a⟩:=hrel;obtain⟨ua,uc,rfl⟩:=a.o.own.shape;by_cases dE:m<row.length
    ·obtain⟨y,V⟩:∃y,y=row[m]:=⟨_,rfl⟩;have Y:row[m]?=some y:=by rw[V];exact List.getElem?_eq_getElem dE
     have IW:=Jv.o y (List.mem_of_getElem? Y);obtain⟨t,rfl⟩:=Int.eq_ofNat_of_zero_le IW.1;have Jm:t<n:=by omega
     obtain⟨_,_,e1,_,Jr,O⟩:=((HO.o.keep a.o.keep fun b F=>.inr (HO.o.low F).1).ints Jw.o).open;simp only[Value.slice.injEq]at e1;obtain⟨rfl,_,rfl⟩:=e1;obtain⟨rb,JE,rfl,_,I3⟩:=O m dE;have Jo:=I3 m dE;rw[←V]at Jo;have Ja:=a.o.flag.get (xt (l:=U) Jm);have JH:=ao a.o.flag t;have Jy:=ae Y;have Jl:Hid (∀l3:List Int,(∀y∈U,y∈l3)→(t:Int)∈l3→∀j y,j<m+1→row[j]?=some y→y∈l3):=ae (fun l3 I0 ht j y hj cE=>by
      by_cases e:j=m
      ·subst e;rw[Jy.o]at cE;obtain rfl:=Option.some.inj cE;exact ht
      ·exact I0 y (q.o.2 j y (by omega) cE))
     have Jt:Hid ((t:Int)∈fF A (s:Int).toNat):=ae (by rw[Int.toNat_natCast,C.o];exact List.mem_of_getElem? Y);have D:=ae q.o.1;have z:=ae a.o;clear q a V Y IW O I3;unfold maxLen at Jr;by_cases E:(t:Int)∈U
     ·rw[decide_eq_true E]at Ja;have HF:=ae (Jl.o U (fun _ h=>h) E);clear E
      go_wp2_with fail;go_roundw
      case rel=>exact⟨m+1,U,by go_num,by omega,ce,fd,ae ⟨D.o,HF.o⟩,z.o⟩
      case measure=>simp[intOf];omega
     ·rw[decide_eq_false E]at Ja;obtain⟨g,cap,w',hr,a8⟩:=z.o.push t (by omega);have gI:BfsI A k (U++[(t:Int)]):=D.o.1.add f.o (Nat.le_of_lt fd) (List.mem_of_getElem? D.o.2) Jt.o E
      have I7:=gI.len f.o;rw[G.o]at I7;have HF:=ae (And.intro (And.intro gI (show(U++[(t:Int)])[k]?=some (s:Int) by rw[List.getElem?_append_left fd];exact D.o.2)) (Jl.o (U++[(t:Int)]) (fun _ h=>List.mem_append_left _ h) (by simp)));have HG:=ae a8;clear E gI a8
      go_wp2_with (at_builtin;refine ap rfl _ _ _ rfl rfl rfl hr ?_;clear hr)
      go_roundw
      case rel=>exact⟨m+1,U++[(t:Int)],by go_num,by omega,I7,by simp;omega,HF.o,HG.o⟩
      case measure=>simp[intOf];omega
    ·obtain rfl:m=row.length:=by omega
     have HN:=ae (q.o.1.1.next q.o.1.2 (fun y V=>by
      rw[Int.toNat_natCast,C.o]at V;obtain⟨j,hj⟩:=List.getElem?_of_mem V;exact q.o.2 j y (List.getElem?_eq_some_iff.1 hj).1 hj))
     have z:=ae a.o;clear q a;go_wp2_with fail;go_roundw
     case rel=>exact⟨k+1,U,by go_num,by omega,ce,HN.o,z.o⟩
     case measure=>simp[intOf];omega
  ·obtain rfl:k=l.length:=by omega
   have HB:=ae F.o;have o:=ae a.o;clear F a;go_wp2_with fail;refine lG o.o.own (by omega) ?_;rintro e w6 rfl o6 k6;have I1:l.mergeSort leI=rchL A:=HB.o.sorted f.o;rw[I1]at o6;have Je:∀y∈rchL A,aK y:=fun y V=>by
    obtain⟨t,rfl,ht⟩:=(lZ f.o).1 V;have :=ht.lt f.o;rw[G.o]at this;unfold aK;omega
   have HF:=ae (o6.ints Je);have I8:Same w w6:=(JB.o.trans o.o.keep (S'':=fun x=>x<Z) (fun x _ hx=>⟨trivial,.inl hx⟩)).trans k6 (fun x hx _=>by
    have h1:=Jg.o;refine⟨by omega,fun e=>?_⟩;have :=(o.o.own.low e).1;omega)
   have JA:=ae I8;clear o6 k6 I1 Je I8;go_wp2_with fail;exact HR.o _ _ _ rfl HF.o JA.o
end
section
attribute [local irreducible] wpQuiet ax au aQ
variable {R:Ending→World→Prop} {w:World} {A:Au} {B d:Nat}
theorem qr (a:Array Value) (w:World):(callFunc 170 a).run Tryz.prog w=.ok (.enter 170 a) w:=by kernel_rfl
theorem pK (a:Array Value) (w:World):(callFunc 115 a).run Tryz.prog w=.ok (.enter 115 a) w:=by kernel_rfl
theorem RowIn.get {b k:Nat} {l:List Int} {x:Int} (h:RowIn w b l) (a:l[k]?=some x):w.cell? ⟨b,k,none⟩=some (.int .i64 x):=by
 rw[ai h];simp[a]
theorem RowIn.keep {S:Nat→Prop} {a:World} {b:Nat} {l:List Int} (h:RowIn w b l) (k:Keeps S w a) (hs:S b):RowIn a b l:=k.at h hs
theorem F6 {x b q n t:Nat} {c:List Int} {m z:Int} (hx:w.cell? ⟨x,0,none⟩=some (.slice (IQ b 0) n n)) (j:RowIn w b c) (p:w.cell? ⟨q,0,none⟩=some (.int .i64 m)) (o:t<n) (i:c[t]?=some z)
 (k:∀e g,e=.returned (.bool (decide (z=m)))→Same w g→R e g):
 Calls Tryz.prog 170 #[IP t,.pointer (IQ x 0),.pointer (IQ q 0)] w R:=by
 have s:=ae k;clear k;have r:=j.get i;clear j i;go_enter Tryz.func170,Tryz.ntmps170;go_wp2_with fail;refine aq (by kernel_rfl) (by kernel_rfl) ?_
 iterate 7 (apply wpQuiet_step;intro K f;(first|(apply aA;rfl;go_simp)|(apply aJ;rfl;intro g a;obtain⟨y,v,u⟩:=xs3 a hx p r;go_simp;exact rfl;go_simp));refine f _ ?_;clear f K)
 apply wpQuiet_nil;intro C l;go_wp2_with fail;exact s.o _ _ rfl l
theorem Ei {x b q n t s:Nat} {c:List Int} {y z:Int} (hx:w.cell? ⟨x,0,none⟩=some (.slice (IQ b 0) n n)) (i:RowIn w b c) (C:w.cell? ⟨q,0,none⟩=some (.int .i64 (s:Int))) (u:t<n) (v:s<n) (j:c[t]?=some z) (k:c[s]?=some y) (o:0<y∧y≤400)
 (l:∀e g,e=.returned (.bool (decide (z=y -1)))→Same w g→R e g):
 Calls Tryz.prog 115 #[IP t,.pointer (IQ x 0),.pointer (IQ q 0)] w R:=by
 have F:=ae l;clear l;have E:=i.get j;have D:=i.get k;have r:wrap64 (y -1)=y -1:=IntWalk.wrap64_in _ (by omega);have p:IntKind.i64.wrap (y -1)=y -1:=by rw[IntKind.wrap_i64];omega
 clear i j k;go_enter Tryz.func115,Tryz.ntmps115;go_wp2_with fail;refine aq (by kernel_rfl) (by kernel_rfl) ?_
 iterate 11 (apply wpQuiet_step;intro K f;(first|(apply aA;rfl;go_simp)|(apply aJ;rfl;intro g a;obtain⟨J,I,H,G⟩:=xs4 a hx C E D;go_simp;exact rfl;go_simp));refine f _ ?_;clear f K)
 apply wpQuiet_nil;intro L m;go_wp2_with fail;exact F.o _ _ rfl m
def rB (w:World):Value→Nat
 | .pointer (some p)=>match w.cell? p with
  |some (.int _ x)=>x.toNat
  |_=>0
 |_=>0
structure AwSt (w wr:World) (n x b:Nat) (cur:List Int):Prop where
 keep:Same w wr
 box:wr.heap[x]?=some (.cells #[.slice (IQ b 0) n n] 41)
 row:RowIn wr b cur
 low:w.heap.size≤x∧w.heap.size≤b
 len:cur.length=n
theorem AwSt.same {wr a:World} {n x b:Nat} {c:List Int} (h:AwSt w wr n x b c) (k:Same wr a):AwSt w a n x b c:=
 ⟨h.keep.tr k,k.at h.box trivial,k.at h.row trivial,h.low,h.len⟩
theorem AwSt.set {wr:World} {n x b:Nat} {a:List Int} (h:AwSt w wr n x b a) (k:Nat) (y:Int):AwSt w (wr.setCell ⟨b,k,none⟩ (IP y)) n x b (a.set k y):=by
 refine⟨h.keep.setCell (fun c=>by have :=c.1;have :=h.low.2;simp at *;omega) _,?_,h.row.set k y,h.low,by simp[h.len]⟩;rw[aS (by rintro rfl;have h1:=h.box;rw[h.row]at h1;simp at h1)];exact h.box
theorem AwSt.cell {wr:World} {n x b:Nat} {a:List Int} (h:AwSt w wr n x b a):wr.cell? ⟨x,0,none⟩=some (.slice (IQ b 0) n n):=by
 rw[ai h.box];rfl
structure NumIn (w:World) (lo b q:Nat) (m:Nat):Prop where
 blk:w.heap[q]?=(ID m)
 low:lo≤q
 ne:q≠b
theorem NumIn.cell {a b q m:Nat} (h:NumIn w a b q m):w.cell? ⟨q,0,none⟩=some (.int .i64 (m:Int)):=by rw[ai h.blk];rfl
theorem NumIn.same {a:World} {c b q m:Nat} (h:NumIn w c b q m) (k:Same w a):NumIn a c b q m:=⟨k.at h.blk trivial,h.low,h.ne⟩
theorem NumIn.set {a b q m:Nat} (h:NumIn w a b q m) (k:Nat) (y:Value):NumIn (w.setCell ⟨b,k,none⟩ y) a b q m:=⟨by rw[aS h.ne];exact h.blk,h.low,h.ne⟩
theorem AwSt.num {wr:World} {n x b m:Nat} {a:List Int} (h:AwSt w wr n x b a):AwSt w (wr.alloc (Ic m)) n x b a∧NumIn (wr.alloc (Ic m)) w.heap.size b wr.heap.size m:=
 ⟨h.same ((af _ wr).alloc _),ag _ _,h.keep.size,fun e=>by have :=am h.row;omega⟩
theorem NumIn.n {a b q m:Nat} (h:NumIn w a b q m):rB w (IL q)=m:=by
 unfold rB;simp only[h.cell];simp
theorem Cj {v:Value} (h:DFAAt w B d A) (hv:RowsAt w v A.next) (hR:∀e w' b,e=.returned (.slice (IQ b 0) A.acc.length A.acc.length)→RowIn w' b (faL A A.acc.length)→w.heap.size≤b→Same w w'→R e w'):
 Calls Tryz.prog 113 #[.pointer (IQ d 0),v] w R:=by
 have HR:=ae hR;clear hR;have I2:=ae h.ok;have Je:0<A.acc.length:=h.ok.1.2.2.1;have Jd:A.acc.length≤400:=h.ok.1.2.2.2.1;have dZ:=ae h.ok.1.2.2.2.2;have H:=ae h;have HV:=ae hv;obtain⟨va,vc,rfl,Jb,Ja,_⟩:=hv.open;generalize IS:A.acc.length=n at Je Jd dZ HR;have g:=ae IS;rw[dZ.o]at Jb HV⊢;unfold maxLen at Ja;obtain⟨i0,IT,gH,fw,fu⟩:=info_parts cC;have cH:=run_make (P:=Tryz.prog) w 41 3 i0 _ Tryz.underlying41 IT gH .i64 .i64 n n (by omega) (by omega) (by rw[fu];omega) (by omega);rw[fw,Int.toNat_natCast,zZ]at cH;have f:RowIn (w.alloc (.cells ((List.replicate n (0:Int)).map (Value.int .i64)).toArray 3)) w.heap.size (List.replicate n 0):=ag _ _;have dp:=sal w (.cells ((List.replicate n (0:Int)).map (Value.int .i64)).toArray 3);have Y:(w.alloc (.cells ((List.replicate n (0:Int)).map (Value.int .i64)).toArray 3)).heap.size=w.heap.size+1:=by simp
 generalize w.alloc (.cells ((List.replicate n (0:Int)).map (Value.int .i64)).toArray 3)=w1 at cH f dp Y;obtain⟨b,hb⟩:∃b,b=w.heap.size:=⟨_,rfl⟩;rw[←hb]at cH f;have HB:=ae hb;have I0:=ae f;have I5:=ae dp;clear IT gH fw fu h hb Y f dp IS hv;go_enter Tryz.func113,Tryz.ntmps113;go_wp2_with fail;refine iq H.o ?_;rintro e rfl;rw[g.o];go_wp2_with fail;have a:AwSt w (w1.alloc (.cells #[.slice (IQ b 0) n n] 41)) n w1.heap.size b (f8 A 0):=
  ⟨I5.o.alloc _,ag _ _,by rw[xW,g.o];exact aw I0.o _,⟨I5.o.size,by rw[HB.o];exact Nat.le_refl _⟩,by rw[tp,g.o]⟩
 generalize w1.alloc _=w2 at a⊢;generalize w1.heap.size=x at a⊢;have Ji:=ae a;clear a
 go_loopw [6,15] (fun _ i wr=>∃k:Nat,i=.int .i64 k∧k≤n∧Hid (AwSt w wr n x b (f8 A k))) (fun _ i _=>n -(intOf i).toNat)
 case atStart=>exact⟨0,rfl,Nat.zero_le _,Ji.o⟩
 case round=>
  obtain⟨k,rfl,hk,a⟩:=hrel;by_cases F:k<n
  ·have X:=ae a.o;have Jn:Hid (gG A (k:Int)=ac A k):=ae (oh (by rw[g.o];exact F));have M:(f8 A k).set k (fa A 0 k)=f8 A (k+1):=A3;have aH:=a.o.len;have c0:=a.o.cell;generalize f8 A k=j at X M aH a;have C:=ae M;have c1:wr.cell? ⟨b,k,none⟩=some (.int .i64 (j[k]'(by omega))):=a.o.row.get (List.getElem?_eq_getElem _);have c2:=ao a.o.row k;generalize j[k]'(by omega)=y0 at c1;clear M aH a;go_wp2_with fail;have hs1:=X.o.set k (-1);generalize wr.setCell ⟨b,k,none⟩ (IP (-1))=wa at hs1⊢;have IZ:=ae hs1;refine eU (H.o.same hs1.keep) _ ?_;rintro e rfl;rw[Jn.o];have e0:=hs1.cell;have e1:wa.cell? ⟨b,k,none⟩=some (.int .i64 (-1)):=hs1.row.get (by rw[List.getElem?_set_self (by rw[X.o.len];exact F)]);have e2:=ao hs1.row k;clear hs1 c0 c1 c2
   cases V:ac A k with
   |true=>
    have E:=IZ.o.set k 0;have hf:fa A 0 k=0:=by rw[fa,if_pos V]
    rw[List.set_set,←hf,C.o,hf]at E;have G:=ae E;clear E hf V;go_wp2_with fail;go_roundw
    case rel=>exact⟨k+1,by go_num,by omega,G.o⟩
    case measure=>simp[intOf];omega
   |false=>
    have hf:fa A 0 k=-1:=by rw[fa,if_neg (by rw[V];decide)]
    have E:=IZ.o;rw[←hf,C.o]at E;have G:=ae E;clear E hf V;go_wp2_with fail;go_roundw
    case rel=>exact⟨k+1,by go_num,by omega,G.o⟩
    case measure=>simp[intOf];omega
  ·obtain rfl:n=k:=by omega
   have r:=a.o;rw[←g.o,A8,g.o]at r;have Jt:=ae r;have Jm:=ae (r.num (m:=0));clear a r;go_wp2_with fail;have U:=Jm.o;rw[Int.natCast_zero]at U;generalize wr.alloc _=wb at U⊢;have fd:=ae U;clear U
   go_loopw [7] (fun p wr=>∃m q:Nat,p=.pointer (IQ q 0)∧m≤n∧Hid (AwSt w wr n x b (faL A m))∧Hid (NumIn wr w.heap.size b q m)∧rB wr p=m) (fun p wr=>n -rB wr p)
   case atStart=>exact⟨0,_,rfl,Nat.zero_le _,fd.o.1,fd.o.2,fd.o.2.n⟩
   case round=>
    obtain⟨m,q,rfl,hm,a,c,Jg⟩:=hrel;have c0:=a.o.cell;have c1:=c.o.cell;have J:=ae a.o;have I3:=ae c.o;clear a c;by_cases Jp:m<n
    ·go_wp2_with fail;clear c0 c1
     go_loopw [8,9,36] (fun _ _ i wr=>∃k:Nat,i=.int .i64 k∧k≤n∧Hid (AwSt w wr n x b (eZ A m k))∧Hid (NumIn wr w.heap.size b q m)) (fun _ _ i _=>n -(intOf i).toNat)
     case atStart=>exact⟨0,rfl,Nat.zero_le _,ae (by rw[xw];exact J.o),I3.o⟩
     case round=>
      obtain⟨k,rfl,hk,a,c⟩:=hrel;by_cases F:k<n
      ·have D:=ae (AM (A:=A) I2.o (m:=m) (k:=k) (s:=k) (by rw[g.o];exact F));have hz:(eZ A m k)[k]?=some (fa A m k):=by rw[rp (by rw[g.o];exact F),if_neg (Nat.lt_irrefl _)]
       have C:=ae (AL (A:=A) (m:=m) (k:=k));have o:=ae (xx (A:=A) (m:=m) (k:=k));have O:Hid (fa A (m+1) k=if fa A m k<0∧(bS A k).any (fun t=>fa A m t==(m:Int))=true then(m:Int)+1 else fa A m k):=ae (by rw[fa]);have I8:=FW A m k;have c0:=a.o.cell;have c1:=a.o.row.get hz;have c2:=ao a.o.row k;have d0:=c.o.cell;have X:=ae a.o;have HQ:=ae c.o;obtain⟨_,_,e1,_,_,IW⟩:=(HV.o.same a.o.keep).open;have N:k<A.next.length:=by rw[dZ.o];exact F
       simp only[Value.slice.injEq]at e1;obtain⟨rfl,Jc,rfl⟩:=e1;clear Jc;obtain⟨vb,Jo,rfl,_,If⟩:=IW k N;obtain⟨u,hu,hi⟩:=If k N;have f:fF A k=A.next[k]:=by unfold fF;rw[List.getD_eq_getElem?_getD,List.getElem?_eq_getElem N];rfl
       have T:=(I2.o.2 _ (List.getElem_mem N)).2;rw[g.o]at T;rw[f]at D;generalize A.next[k]=row at hi D T
       generalize fa A m k=z at hz I8 o O c1;generalize(bS A k).any (fun t=>fa A m t==(m:Int))=I6 at D O;generalize aL:eZ A m k=j at X D C o hz;have a8:=ae aL;obtain⟨ra,rc,rfl,_⟩:=hi.open;have HI:=ae hi;have Jk:=ae T;clear aL a c IW If f T hi N hz;by_cases Z:z<0
       ·have I4:=ae Z;go_wp2_with fail;refine gj (p:=fun y=>decide (j.getD y.toNat 0=(m:Int))) (l:=row) qr HI.o (fun y hy w' R k hR=>?_) ?_
        ·have I9:=Jk.o y hy;obtain⟨t,rfl⟩:=Int.eq_ofNat_of_zero_le I9.1;have gI:t<n:=by omega
         have hs:=X.o.same k;have gJ:t<j.length:=by rw[hs.len];exact gI
         refine F6 (z:=j[t]) hs.cell hs.row (HQ.o.same k).cell gI (List.getElem?_eq_getElem gJ) fun e I7 he hk=>hR e I7 ?_ hk;rw[he]
         show _=Ending.returned (.bool (decide (j.getD (Int.toNat (t:Int)) 0=(m:Int))))
         rw[Int.toNat_natCast,List.getD_eq_getElem?_getD,List.getElem?_eq_getElem gJ];rfl
        rintro e w2 rfl k2;rw[D.o];have L:=X.o.same k2;have ch:=HQ.o.same k2;have Js:=L.cell;have Jq:=ch.cell;have Jf:k<j.length:=by rw[L.len];exact F
        have Jh:w2.cell? ⟨b,k,none⟩=some (.int .i64 j[k]):=L.row.get (List.getElem?_eq_getElem Jf);have Jr:=ao L.row k;generalize j[k]=y0 at Jh;have dE:=ae L;have I1:=ae ch;clear L ch c0 c1 c2 d0
        cases I:I6 with
        |false=>
         have G:Hid (AwSt w w2 n x b (eZ A m (k+1))):=ae (by
          rw[o.o (by rw[O.o,if_neg (fun hh=>by rw[I]at hh;exact absurd hh.2 (by decide))])]
          first|exact dE.o|(rw[←a8.o];exact dE.o))
         clear I;go_wp2_with fail;go_roundw
         case rel=>exact⟨k+1,by go_num,by omega,G.o,I1.o⟩
         case measure=>simp[intOf];omega
        |true=>
         have ce:=dE.o.set k ((m:Int)+1);have IR:=I1.o.set k (IP ((m:Int)+1));have bL:=C.o;rw[O.o,if_pos ⟨I4.o,I⟩]at bL;rw[bL]at ce;have Jj:=ae ce;have Jl:=ae IR;clear I ce IR bL;go_wp2_with fail;go_roundw
         case rel=>exact⟨k+1,by go_num,by omega,Jj.o,Jl.o⟩
         case measure=>simp[intOf];omega
       ·go_wp2_with fail;have G:Hid (AwSt w wr n x b (eZ A m (k+1))):=ae (by
         rw[o.o (by rw[O.o,if_neg (fun hh=>Z hh.1)])]
         first|exact X.o|(rw[←a8.o];exact X.o))
        go_roundw
        case rel=>exact⟨k+1,by go_num,by omega,G.o,HQ.o⟩
        case measure=>simp[intOf];omega
      ·obtain rfl:n=k:=by omega
       have r:=a.o;rw[←g.o,AN,g.o]at r;have c0:=c.o.cell;have cE:=r.num (m:=m+1);rw[Int.natCast_succ]at cE;have HF:=ae cE;clear a r c cE;go_wp2_with fail;go_roundw
       case rel=>exact⟨m+1,_,rfl,by omega,HF.o.1,HF.o.2,HF.o.2.n⟩
       case measure=>
        rw[HF.o.2.n,Jg];omega
    ·obtain rfl:n=m:=by omega
     go_wp2_with fail;exact HR.o _ _ _ rfl J.o.row J.o.low.2 J.o.keep
end
section
attribute [local irreducible] wpQuiet ax au aQ
attribute [local go_sem] nH
variable {R:Ending→World→Prop} {w:World} {A:Au} {B d:Nat}
theorem yQ (h:AuOk A):(rchL A).any (gG A)=true↔∃k,Dst A k 0:=by
 rw[List.any_eq_true];constructor
 ·rintro⟨x,hx,b⟩;obtain⟨s,rfl,a⟩:=(lZ h).1 hx;rw[oh (a.lt h)]at b;obtain⟨v,hv,rfl⟩:=El a;exact Dst.of_can (sS v 0 hv b)
 ·rintro⟨k,c⟩;obtain⟨f,_,e,_⟩:=fM h c;have a:=En A _ f;exact⟨_,(lZ h).2 ⟨_,rfl,a⟩,by rw[oh (a.lt h)];exact e⟩
theorem pr (h:DFAAt w B d A) (a:∀e b,e=.returned (.bool (!(rchL A).any (gG A)))→Same w b→R e b):
 Calls Tryz.prog 111 #[.pointer (IQ d 0)] w R:=Ae (fun _ _ h a=>Ad h a) h a
theorem nR (h:DFAAt w B d A) (a:¬∃k,Dst A k 0) (c:∀e b,e=.returned (.tuple #[IM,.bool false])→Same w b→R e b):
 Calls Tryz.prog 65 #[.pointer (IQ d 0)] w R:=by
 have i:=ae c;clear c;have j:Hid ((rchL A).any (gG A)=false):=ae (by rw[Bool.eq_false_iff];exact fun g=>a ((yQ h.ok).1 g));have H:=ae h;clear h a;go_enter Tryz.func65,Tryz.ntmps65;go_wp2_with fail;refine pr H.o ?_;rintro e l rfl f;rw[j.o];go_wp2_with fail;exact i.o _ _ rfl f
theorem E4 (h:AuOk A) {k s:Nat} (hs:s<A.acc.length) (o:Dst A (k+1) s):si (fun y=>decide ((faL A A.acc.length).getD y.toNat 0=((k+1:Nat):Int) -1)) (fF A s)=(ik A s k:Int):=by
 obtain⟨h1,h2,g⟩:=mJ h o;have a:(fF A s).length=2^A.T.toNat:=by rw[gL h hs,List.length_map,eW]
 have l:∀c (j:c<(fF A s).length),(fF A s)[c]=(nx A s c:Int):=fun c j=>by
  have e:=gL h hs;have g:(fF A s)[c]?=some (nx A s c:Int):=by rw[e,List.getElem?_map,fE (by rw[←a];exact j)];rfl
  rw[List.getElem?_eq_getElem j]at g;exact Option.some.inj g
 have m:∀t,t<A.acc.length→(faL A A.acc.length).getD t 0=far A t:=fun t n=>by
  rw[List.getD_eq_getElem?_getD];simp[faL,n,far]
 have f:ik A s k<(fF A s).length:=by rw[a];exact h1
 refine pz f ?_ fun i p=>?_
 ·simp only[l _ f,Int.toNat_natCast,m _ (ep h s _),iP h (ep h s _) h2,decide_eq_true_eq];omega
 ·have b:i<(fF A s).length:=by omega
  have e:(fF A s).getD i 0=(nx A s i:Int):=by rw[List.getD_eq_getElem?_getD,List.getElem?_eq_getElem b,l i b];rfl
  simp only[e,Int.toNat_natCast,m _ (ep h s i),decide_eq_false_iff_not];intro q;have :=g i (by rw[←a];exact b) ((sm h (ep h s i)).1 (by omega));omega
structure ShSt (W4:Nat) (w4 wr:World) (b q s:Nat) (u:Value) (l:List Int):Prop where
 keep:Same w4 wr
 own:OwnInts wr W4 u l
 num:NumIn wr W4 b q s
 ne:u.ownBlock≠some q
 low:W4=w4.heap.size∧b<W4
theorem ShSt.same {e b q s:Nat} {c wr a:World} {u:Value} {l:List Int} (h:ShSt e c wr b q s u l) (k:Same wr a):ShSt e c a b q s u l:=
 ⟨h.keep.tr k,h.own.same k,h.num.same k,h.ne,h.low⟩
theorem ShSt.push {k b q s:Nat} {j wr:World} {u:Value} {l:List Int} (h:ShSt k j wr b q s u l) (x:Int) (o:l.length≤1000):
 ∃g cap f,(Builtin.append_ #[41,41] 41 #[u,.slice (IQ wr.heap.size 0) 1 1]).run Tryz.prog (wr.alloc (Ic x))=.ok (.slice (IQ g 0) (l.length+1) cap) f∧
  ShSt k j f b q s (.slice (IQ g 0) (l.length+1) cap) (l++[x]):=by
 obtain⟨g,cap,f,m,a,c,i,_⟩:=bi (P:=Tryz.prog) wr 41 41 3 Tryz.underlying41 cC rfl h.own (by rw[h.low.1];exact h.keep.size) (IP x) rfl (by omega) (by decide);refine⟨g,cap,f,m,h.keep.trans c fun y n _=>⟨trivial,fun e=>?_⟩,?_,⟨c.at h.num.blk h.ne,h.num.low,h.num.ne⟩,?_,h.low⟩
 ·have :=(h.own.low e).1;have :=h.low.1;omega
 ·unfold OwnInts;simpa using a
 ·rcases i with i|i
  ·exact fun e=>h.ne (by simp[Value.ownBlock]at e;rw[i,e])
  ·intro e;simp[Value.ownBlock]at e;have :=am h.num.blk;omega
theorem ShSt.move {k b q s:Nat} {f wr:World} {u:Value} {l:List Int} (h:ShSt k f wr b q s u l) (a:Nat):
 ShSt k f ((wr.setCell ⟨q,0,none⟩ (IP (a:Int))).alloc (Ic a)) b wr.heap.size a u l:=by
 have c:(wr.setCell ⟨q,0,none⟩ (IP (a:Int))).heap.size=wr.heap.size:=by simp[World.setCell]
 have j:Keeps (·≠q) wr (wr.setCell ⟨q,0,none⟩ (IP (a:Int))):=(af (·≠q) wr).setCell (fun m=>m.2 rfl) _;have i:Same (wr.setCell ⟨q,0,none⟩ (IP (a:Int))) ((wr.setCell ⟨q,0,none⟩ (IP (a:Int))).alloc (Ic a)):=(af _ _).alloc _;have h1:=h.low;have h2:=h.num.low;have p:=h.keep.size;refine⟨(h.keep.trans j fun y o _=>⟨trivial,by rintro rfl;omega⟩).tr i,(h.own.keep j fun g n=>by rintro rfl;exact h.ne n).same i,⟨?_,by omega,by omega⟩,fun e=>?_,h.low⟩
 ·have :=ag (wr.setCell ⟨q,0,none⟩ (IP (a:Int))) (Ic a);rw[c]at this;exact this
 ·have :=(h.own.low e).2;omega
theorem l8 {K:Nat} (h:DFAAt w B d A) (Y:Dst A K 0) (hR:∀e w' v,e=.returned (.tuple (Id v true))→IntsAt w' v ((aY A K 0).map Int.ofNat)→Same w w'→R e w'):
 Calls Tryz.prog 65 #[.pointer (IQ d 0)] w R:=by
 have HR:=ae hR;clear hR;have HE:Hid ((rchL A).any (gG A)=true):=ae ((yQ h.ok).2 ⟨K,Y⟩);have a:=ae h.ok;have aL:0<A.acc.length:=h.ok.1.2.2.1;have Ja:A.acc.length≤400:=h.ok.1.2.2.2.1;have IW:=ae h.ok.1.2.2.2.2;have ch:=ae (Y.lt h.ok aL);have HD:=ae Y;have H:=ae h;generalize dZ:A.acc.length=n at aL Ja IW ch;have i:=ae dZ;clear h dZ Y;go_enter Tryz.func65,Tryz.ntmps65;go_wp2_with fail;refine pr H.o ?_;rintro e w1 rfl k1;rw[HE.o];have I0:=ae k1;clear k1;go_wp2_with fail;refine mh (H.o.same I0.o) ?_;rintro e w2 v2 rfl o2 k2;obtain⟨va,vn,rfl,_,om⟩:=o2;obtain⟨na,nc,rfl⟩:=om.shape;have IT:=ae (om.rows a.o.bounds.2);have IZ:=ae (I0.o.tr k2);clear om k2;go_wp2_with fail;refine Cj (H.o.same IZ.o) IT.o ?_;rintro e w3 b rfl gH fd k3;rw[i.o];have Jk:=ae gH;have Jf:=ae (IZ.o.tr k3);have IS:=ae (IT.o.same k3);clear k3 gH fd;go_wp2_with fail;have Z:=ag w3 (.cells #[.slice (IQ b 0) n n] 41);have N:=sal w3 (.cells #[.slice (IQ b 0) n n] 41);have V:(w3.alloc (.cells #[.slice (IQ b 0) n n] 41)).heap.size=w3.heap.size+1:=by simp
 generalize w3.alloc _=C at Z N V⊢;rw[←V];have E:=xc1 Z 0 rfl;generalize w3.heap.size=x at Z E V⊢;have I3:=ae E;have Je:=ae (Jf.o.tr N);have IR:=ae (IS.o.same N);have cH:Hid (RowIn C b (faL A A.acc.length)):=ae (N.at Jk.o trivial);obtain⟨W4,gI⟩:∃W4,W4=C.heap.size:=⟨_,rfl⟩;have f:ShSt W4 C ((C.alloc (.cells #[] 3)).alloc Hn) b (C.heap.size+1) 0 (.slice (IQ C.heap.size 0) 0 0) []:=by
  have h1:=yq C 3 (B:=W4) (by omega);have h2:=ag (C.alloc (.cells #[] 3)) Hn;rw[show(C.alloc (.cells #[] 3)).heap.size=C.heap.size+1 by simp]at h2;have hb:=am cH.o;exact⟨((af _ C).alloc _).alloc _,ar h1 ((af (fun _=>True) _).alloc _) fun _ _=>trivial,⟨h2,by omega,by omega⟩,by simp[Value.ownBlock],gI,by omega⟩
 generalize(C.alloc (.cells #[] 3)).alloc Hn=w5 at f⊢;generalize C.heap.size+1=q at f⊢;generalize C.heap.size=g0 at f⊢;have If:=ae f;clear f Z E N V gI
 go_loopw [6,7] (fun u p wr=>∃(q s k:Nat) (l:List Nat),p=.pointer (IQ q 0)∧s<n∧Hid (Dst A k s)∧Hid (l++aY A k s=aY A K 0)∧l.length+k=K∧rB wr p=s∧Hid (ShSt W4 C wr b q s u (l.map Int.ofNat))) (fun _ p wr=>(far A (rB wr p)).toNat)
 case atStart=>exact⟨q,0,K,[],rfl,aL,HD.o,rfl,by simp,If.o.num.n,If.o⟩
 case round=>
  obtain⟨q,s,k,l,rfl,D,Y,hg,Jb,fw,f⟩:=hrel;have j:=ae f.o;have c0:=ak f.o.keep I3.o trivial;have d0:=f.o.num.cell;have bL:(faL A A.acc.length)[s]?=some (k:Int):=by
   have :=iP a.o (by rw[i.o];exact D) Y.o;simp only[faL,List.getElem?_map,List.getElem?_range (show s<A.acc.length by rw[i.o];exact D),Option.map_some];exact congrArg some this
  have c1:=(cH.o.keep f.o.keep trivial).get bL;have I1:=ae bL;obtain⟨ua,uc,rfl⟩:∃ua uc,u6=.slice ua l.length uc:=by simpa using f.o.own.shape
  clear f bL;rcases k with _|k
  ·
   have HI:=ae (j.o.own.ints (fun y hy=>by
    obtain⟨z,hz,rfl⟩:=List.mem_map.1 hy;have :=(fM a.o HD.o).1 z (by rw[←hg.o];exact List.mem_append_left _ hz);have :=fp (show A.T.toNat≤6 by have :=a.o.1.1;have :=a.o.1.2.1;omega);unfold aK;simp;omega))
   have o:l=aY A K 0:=by have :=hg.o;rw[aY,List.append_nil]at this;exact this
   have HF:Hid (IntsAt wr (.slice ua l.length uc) ((aY A K 0).map Int.ofNat)):=ae (by rw[←o];exact HI.o);have c1:wr.cell? ⟨b,s,none⟩=some (.int .i64 0):=c1;clear o HI hg Jb fw;go_wp2_with fail;exact HR.o _ _ _ rfl HF.o (Je.o.tr j.o.keep)
  ·
   obtain⟨y,hy⟩:∃y:Int,y=((k+1:Nat):Int):=⟨_,rfl⟩;rw[←hy]at c1;have I6:0<y∧y≤400:=by have :=ch.o;omega
   have m:=ae (E4 a.o (by rw[i.o];exact D) Y.o);have F:=ae (mJ a.o Y.o);rw[←hy]at m;obtain⟨_,_,e1,_,I8,U⟩:=IR.o.open;have I:s<A.next.length:=by rw[IW.o];exact D
   have a8:=(a.o.2 _ (List.getElem_mem I)).1;simp only[Value.slice.injEq,true_and]at e1;obtain⟨rfl,rfl⟩:=e1;unfold maxLen at I8;obtain⟨vb,Jl,rfl,_,L⟩:=U s I;obtain⟨u,hu,hi⟩:=L s I;have J:fF A s=A.next[s]:=by unfold fF;rw[List.getD_eq_getElem?_getD,List.getElem?_eq_getElem I];rfl
   have X:=(a.o.2 _ (List.getElem_mem I)).2;rw[i.o]at X;rw[J]at m;have o:(A.next[s])[ik A s k]?=some (nx A s (ik A s k):Int):=by
    rw[←J,gL a.o (by rw[i.o];exact D),List.getElem?_map,fE F.o.1];rfl
   have M:=ep a.o s (ik A s k);rw[i.o]at M;have cE:Hid ((l++[ik A s k])++aY A k (nx A s (ik A s k))=aY A K 0):=ae (by
    rw[←hg.o,aY];simp)
   have aH:=ae F.o.2.1;have O:ik A s k<2^A.T.toNat:=F.o.1;generalize A.next[s]=row at hi m X o a8
   generalize ik A s k=c at m o M cE aH O F;generalize nx A s c=s2 at o M cE aH F;have Jj:=ae (List.getElem?_eq_some_iff.1 o);obtain⟨ra,rc,rfl,_⟩:=hi.open;have Jc:=ae hu;have Jg:=ae hi;have HI:=ae (hi.same j.o.keep);have hu:=ak j.o.keep hu trivial;have Jd:=ae X;have HY:=ae hy;have I2:Hid (c<row.length):=ae (by rw[a8];exact O);clear U L J X hi o hy a8 O hg F;go_wp2_with fail;refine rj (p:=fun z=>decide ((faL A A.acc.length).getD z.toNat 0=y -1)) (l:=row) pK HI.o (fun z hz w' R k hR=>?_) ?_
   ·have I5:=Jd.o z hz;obtain⟨t,rfl⟩:=Int.eq_ofNat_of_zero_le I5.1;have dp:t<n:=by omega
    have hs:=j.o.same k;have dE:t<(faL A A.acc.length).length:=by simp[faL,i.o];exact dp
    refine Ei (n:=n) (z:=(faL A A.acc.length)[t]) (y:=y) (ak hs.keep I3.o trivial) (cH.o.keep hs.keep trivial) hs.num.cell dp D (List.getElem?_eq_getElem dE) (by rw[HY.o];exact I1.o) I6 fun e I4 he hk=>hR e I4 ?_ hk;rw[he]
    show _=Ending.returned (.bool (decide ((faL A A.acc.length).getD (Int.toNat (t:Int)) 0=y -1)))
    rw[Int.toNat_natCast,List.getD_eq_getElem?_getD,List.getElem?_eq_getElem dE];rfl
   rintro e w6 rfl k6;rw[m.o];have gJ:=ae (j.o.same k6);clear c0 c1 d0 hu k6 m I1 HY;obtain⟨g,cap,w7,hr,G⟩:=gJ.o.push (c:Int) (by have :=ch.o;simp;omega);rw[List.length_map]at hr G;have r:=ae G;clear G;have Jp:=r.o.num.cell;have Jo:=ao r.o.num.blk 0;have Jn:=ak r.o.keep Jc.o trivial;obtain⟨_,_,e2,_,I7,U⟩:=(Jg.o.same r.o.keep).open;simp only[Value.slice.injEq,true_and]at e2;obtain⟨rfl,rfl⟩:=e2;unfold maxLen at I7;have fu:=I2.o;obtain⟨rb,Jm,rfl,_,L⟩:=U c fu;have I9:=L c fu;rw[Jj.o.2]at I9;have ce:=ae (r.o.move s2);have Jh:=ae (iP a.o (by rw[i.o];exact M) aH.o);have Ji:=ae (iP a.o (by rw[i.o];exact D) Y.o);clear U L
   go_wp2_with (at_builtin;refine ap rfl _ _ _ rfl rfl rfl hr ?_;clear hr)
   go_roundw
   case rel=>exact⟨_,s2,k,l++[c],rfl,M,aH.o,cE.o,by simp;omega,ce.o.num.n,by rw[List.map_append];exact ce.o⟩
   case measure=>rw[ce.o.num.n,fw,Jh.o,Ji.o];simp
end
section
attribute [local irreducible] wpQuiet ax au aQ
variable {R:Ending→World→Prop} {w:World} {A:Au} {B d:Nat}
def dw (D:List Dl) (W:List Nat):List Vl:=(D.zip (aZ W D.length W.length 0)).map fun p=>⟨p.1.name,p.1.ord,p.2⟩
def dx (D:List Dl) (vs:List Value):List (Value×Value×Value):=(D.zip vs).map fun p=>(.string p.1.name,.int .i64 p.1.ord,p.2)
theorem A9:(Tryz.prog.info? 43).map (fun i=>(i.zero,i.size,i.bytes))=some (some (.agg #[GA,IU,IM]),3,48):=by kernel_rfl
theorem ye {wr:World} {D:List Dl} {vs:List Value} {a:List (List Int)} {v:Value} (j:TriAt wr v (dx D vs)) (b:vs.length=D.length) (k:a.length=D.length)
 (m:∀(i:Nat) (u:Value) (l:List Int),vs[i]?=some u→a[i]?=some l→IntsAt wr u l) (n:∀d∈D,aK d.ord∧aK d.spot∧d.name.size≤maxLen):
 ValsAt wr v ((D.zip a).map fun p=>⟨p.1.name,p.1.ord,p.2⟩):=by
 refine⟨_,j,by simp[dx,b,k],fun i x l hx b=>?_⟩;simp only[dx,List.getElem?_map,Option.map_eq_some_iff,List.getElem?_zip_eq_some]at hx b;obtain⟨p,⟨f,h⟩,rfl⟩:=hx;obtain⟨q,⟨c,g⟩,rfl⟩:=b;rw[f]at c;have e:=Option.some.inj c;have :=n _ (List.mem_of_getElem? f);rw[←e];exact⟨rfl,rfl,m i _ _ h g,this.1,this.2.2⟩
theorem wL {v:Value} {D:List Dl} (h:DFAAt w B d A) (hv:DeclsAt w v D) (f:(¬∃k,Dst A k 0)∨A.T≠(D.length:Int)) (o:∀e m,e=.returned (.tuple #[IM,.bool false])→Same w m→R e m):
 Calls Tryz.prog 41 #[.pointer (IQ d 0),v] w R:=by
 have p:=ae o;clear o;have H:=ae h;obtain⟨a,c,rfl,t,l,_⟩:=hv.open;unfold maxLen at l;clear h hv;by_cases i:∃k,Dst A k 0
 ·obtain⟨K,j⟩:=i;have x:=ae j;have n:A.T≠(D.length:Int):=by
   rcases f with h|h
   ·exact absurd ⟨K,j⟩ h
   ·exact h
  have s:(A.T !=(D.length:Int))=true:=by rw[bne_iff_ne];exact n
  clear j f n;go_enter Tryz.func41,Tryz.ntmps41;go_wp2_with fail;refine l8 H.o x.o ?_;rintro e q y rfl r g;have b:=ae g;clear r g;go_wp2_with fail;refine dB (H.o.same b.o) ?_;rintro e rfl;go_wp2_with fail;exact p.o _ _ rfl b.o
 ·have u:=ae i;clear i f;go_enter Tryz.func41,Tryz.ntmps41;go_wp2_with fail;refine nR H.o u.o ?_;rintro e q rfl g;have b:=ae g;clear g;go_wp2_with fail;exact p.o _ _ rfl b.o
theorem Cd {K:Nat} {v:Value} {D:List Dl} (h:DFAAt w B d A) (hv:DeclsAt w v D) (hd:Dst A K 0) (hT:A.T=(D.length:Int)) (hR:∀e w' u,e=.returned (.tuple (Id u true))→ValsAt w' u (dw D (aY A K 0))→(∀(S:Nat→Prop) (o:World),(∀b,w.heap.size≤b→S b)→Keeps S w' o→ValsAt o u (dw D (aY A K 0)))→Same w w'→R e w'):
 Calls Tryz.prog 41 #[.pointer (IQ d 0),v] w R:=by
 have HR:=ae hR;clear hR;have H:=ae h;have fu:=ae hv.2;have HD:=ae hd;have gH:D.length≤6:=by have :=h.ok.1.2.1;omega
 have aL:∀y∈aY A K 0,y<64:=fun y hy=>by
  have h1:=(fM h.ok hd).1 y hy;have h2:=fp (show A.T.toNat≤6 by omega);omega
 have gJ:(aY A K 0).length≤400:=by
  rw[(fM h.ok hd).2.1];have h1:=hd.lt h.ok h.ok.1.2.2.1;have h2:=h.ok.1.2.2.2.1;omega
 obtain⟨a,c,rfl,I7,gI,z⟩:=hv.open;have HC:=ae z;unfold maxLen at gI;clear h hv z hd;have I6:(A.T !=(D.length:Int))=false:=by rw[hT];simp
 clear hT;have bL:Hid (dw D (aY A K 0)=(D.zip (aZ (aY A K 0) D.length (aY A K 0).length 0)).map fun p=>⟨p.1.name,p.1.ord,p.2⟩):=ae rfl;go_enter Tryz.func41,Tryz.ntmps41;go_wp2_with fail;refine l8 H.o HD.o ?_;rintro e w1 v1 rfl i1 k1;have ch:=ae k1;have M:=ae i1;clear i1 k1;generalize aY A K 0=W at HR bL M aL gJ;have If:=ae aL;clear aL;obtain⟨x1,x2,rfl,_,_,_⟩:=M.o.open;rw[List.length_map]at M⊢;go_wp2_with fail;refine dB (H.o.same ch.o) ?_;rintro e rfl;go_wp2_with fail;refine vR M.o If.o D.length gH (by omega) ?_;rintro e t b vs rfl V k2;have C:=ae (ch.o.tr k2);have dE:=ai V.blk;have X:=V.len;rw[dX]at X;have fw:=ae V.blk;have IT:Hid (∀(i:Nat) (u:Value) (l:List Int),vs[i]?=some u→(aZ W D.length W.length 0)[i]?=some l→IntsAt t u l):=ae fun i u l G E=>(V.own i u l G E).ints (jE W D.length W.length (by omega) l (List.mem_of_getElem? E));have U:Hid (∀(i:Nat) (u:Value) (l:List Int),vs[i]?=some u→(aZ W D.length W.length 0)[i]?=some l→OwnInts t w1.heap.size u l):=ae V.own;have IR:=ae ch.o.size;have I5:=ae (fun l E=>jE W D.length W.length (by omega) l E);have IZ:Hid (∀i (u:Value),vs[i]?=some u→∃s n c,u=.slice s n c):=ae fun i u G=>by
  have hi:=(List.getElem?_eq_some_iff.1 G).1;obtain⟨s,c,e⟩:=(V.own i u _ G (List.getElem?_eq_getElem (show i<(aZ W D.length W.length 0).length by rw[dX];omega))).shape;exact⟨s,_,c,e⟩
 have r:=ae X;clear V k2 dE X;obtain⟨B2,a8⟩:∃B2,B2=t.heap.size:=⟨_,rfl⟩;have N:=ae a8;have HO:=ae (BN t 43 (B:=B2) (by omega));have fd:Hid (Same t (t.alloc (.cells #[] 43))):=ae ((af _ t).alloc _);clear a8;go_wp2_with fail;generalize t.alloc _=w3 at HO fd⊢;generalize t.heap.size=g2 at HO⊢
 go_loopw [9,10,11,33] (fun u _ _ i wr=>∃k:Nat,i=.int .i64 k∧k≤D.length∧Hid (wr.ownsRow B2 43 3 u k (im ((dx D vs).take k)))∧Same t wr) (fun _ _ _ i _=>D.length -(intOf i).toNat)
 case atStart=>exact⟨0,rfl,Nat.zero_le _,HO,fd.o⟩
 case round=>
  obtain⟨k,rfl,hk,f,F⟩:=hrel;by_cases J:k<D.length
  ·obtain⟨bl,off,rfl,dE,q⟩:=HC.o k J;obtain⟨z0,z1,z2⟩:=q k J;have z0:=ak (C.o.tr F) z0 trivial;have z1:=ak (C.o.tr F) z1 trivial;have z2:=ak (C.o.tr F) z2 trivial;obtain⟨y,hy⟩:∃y,vs[k]?=some y:=⟨_,List.getElem?_eq_getElem (show k<vs.length by rw[r.o];exact J)⟩;obtain⟨ys,yn,yc,rfl⟩:=IZ.o k _ hy;have dp:=ak F ((ai fw.o k).trans (by simpa using hy)) trivial;have HT:Hid ((dx D vs).take (k+1)=(dx D vs).take k++[(.string D[k].name,.int .i64 D[k].ord,.slice ys yn yc)]):=ae (by
    rw[List.take_add_one]
    congr 1
    simp[dx,hy,List.getElem?_eq_getElem J,List.zip,List.getElem?_zipWith])
   have I4:Hid (((dx D vs).take k).length=k):=ae (by have :=r.o;simp[dx];omega);generalize D[k].name=nm at z0 HT;generalize D[k].ord=od at z1 HT;generalize D[k].spot=sp at z2;obtain⟨s4,c4,rfl⟩:=av f.o;have I1:=ae F;clear q F;go_wp2_with fail;have Z:=ag wr (In nm od sp);have L:=sal wr (In nm od sp);have aH:=ak L dp trivial;obtain⟨c0,c1⟩:=xc2 Z rfl rfl;have j:=ar f.o L fun _ _=>trivial;have ce:=ae (I1.o.tr L);generalize wr.alloc _=O at aH c0 c1 j ce⊢;have I:(Value.slice s4 k c4).ownBlock≠some wr.heap.size:=fun e=>by
    obtain⟨_,I8,hc⟩:=ah f.o e;exact absurd (am hc) (Nat.lt_irrefl _)
   have cE:(Value.slice s4 k c4).ownBlock≠some b:=fun e=>by
    have h1:=(ah f.o e).1;have h2:=am fw.o;rw[N.o]at h1;omega
   generalize wr.heap.size=x at c0 c1 I⊢;clear Z L dp f;have kd:Keeps (fun y=>(Value.slice s4 k c4).ownBlock≠some y) O O.drew:=al (af _ O);obtain⟨g,cap,w5,hr,m,cH,_,_⟩:=xV (P:=Tryz.prog) O.drew 35 35 43 Tryz.underlying35 A9 rfl I4.o.symm (ar j (al (af (fun _=>True) O)) fun _ _=>trivial) (by rw[N.o];exact ce.o.size) (.string nm,.int .i64 od,.slice ys yn yc) rfl rfl rfl (by omega) (by decide);rw[←HT.o]at m;have I0:=ae m;have Y:=kd.tr cH;have I3:Hid (Same t w5):=ae (ce.o.trans Y fun y hy _=>⟨trivial,fun e=>by
    have :=(ah j e).1;rw[N.o]at this;omega⟩)
   clear m cH j;refine az (.take 0 (.take 1 (.take 2 (.take 3 (.take 4 (.take 5 (.take 6 (.take 7 (.take 8 (.take 9 (.one 10 (.one 11 (.take 12 .done))))))))))))) (Keeps (fun y=>(Value.slice s4 k c4).ownBlock≠some y) O) (by kernel_rfl) (by kernel_rfl) kd ?_
   iterate 10 (first|(apply aF;rfl;rfl;go_simp)|(apply aD;rfl;rfl;intro w' hS;obtain⟨q0,q1,q2⟩:=xk3 hS c0 c1 aH I I cE;go_simp;exact rfl;go_simp))
   refine aP (ay rfl rfl fun K dZ=>?_);go_simp;refine dZ (Keeps (fun y=>(Value.slice s4 k c4).ownBlock≠some y) O) _ _ (kd.alloc _) (fun _ h=>h) ?_;clear dZ K;go_simp;refine aP ?_;refine bZ _ _ _ rfl rfl rfl ?hs ?hx hr (Keeps (fun y=>(Value.slice s4 k c4).ownBlock≠some y) O) Y (fun _ h=>h) ?_
   case hs=>rfl
   case hx=>rfl
   clear hr;go_simp
   iterate 1 (first|(apply aF;rfl;rfl;go_simp)|(apply aD;rfl;rfl;intro w' hS;go_simp;exact rfl;go_simp))
   apply aW;go_simp;clear c0 c1 aH I cE kd Y;go_wp2_with fail;go_roundw
   case rel=>exact⟨k+1,by go_num,by omega,I0,I3.o⟩
   case measure=>simp[intOf];omega
  ·obtain rfl:k=D.length:=by omega
   have IW:Hid (ValsAt wr u9 (dw D W)):=ae (by
    have q:(dx D vs).length=D.length:=by simp[dx];have :=r.o;omega
    have h1:=f.o;rw[List.take_of_length_le (by omega),←q]at h1;rw[bL.o];exact ye (nj h1) r.o (dX _ _ _ _) (fun i u l G E=>(IT.o i u l G E).same F) fu.o)
   have IS:Hid (∀(S:Nat→Prop) (o:World),(∀b,w.heap.size≤b→S b)→Keeps S wr o→ValsAt o u9 (dw D W)):=ae (fun S o hS k=>by
    have q:(dx D vs).length=D.length:=by simp[dx];have :=r.o;omega
    have h1:=f.o;rw[List.take_of_length_le (by omega),←q]at h1;have a8:w.heap.size≤B2:=by rw[N.o];exact C.o.size
    rw[bL.o];exact ye (nj (ar h1 k fun b hb=>hS b (by have :=(ah h1 hb).1;omega))) r.o (dX _ _ _ _) (fun i u l G E=>((eK (U.o i u l G E) F).keep k fun b hb=>hS b (by have h2:=(ah (U.o i u l G E) hb).1;have :=IR.o;omega)).ints (I5.o l (List.mem_of_getElem? E))) fu.o)
   have I2:=ae (C.o.tr F);clear f F;go_wp2_with fail;exact HR.o _ _ _ rfl IW.o IS.o I2.o
end
section
section
variable {P:Program} {ops:Array Oper} {Q:Exit→Act→World→Prop} {z:Nat}
inductive PlanT where
 |done
 |last
 |take (i:Nat) (r:PlanT)
 |one (i:Nat) (r:PlanT)
 |two (i j:Nat) (r s:PlanT)
 |three (i j k:Nat) (r s t:PlanT)
def PlanT.len:PlanT→Nat
 | .done=>0
 | .last=>1
 | .take _ r=>r.len+1
 | .one _ r=>r.len+1
 | .two _ _ r _=>r.len+1
 | .three _ _ _ r _ _=>r.len+1
def bO (P:Program) (ops:Array Oper) (Q:Exit→Act→World→Prop) (z:Nat):PlanT→(World→Prop)→Act→World→Prop
 | .done,_,a,w=>Q .normal a w
 | .last,_,a,w=>∀K:Act→World→Prop,(∀a' w',Q .normal a' w'→K a' w')→wpOp P ops Q z K a w
 | .take i r,S,a,w=>∃o v,ops[i]?=some o∧
  ((Region.wanted o (yielded ops a.tmps)=true∧∀w',S w'→dM v w' ((execOp a.eval o).run P w'))∨(Region.wanted o (yielded ops a.tmps)=false∧v=undef))∧
  bO P ops Q z r S (a.put o.dst v) w
 | .one i r,S,a,w=>aQ P ops Q i (bO P ops Q z r) S a w
 | .two i j r s,S,a,w=>aQ P ops Q i (bO P ops Q z r) S a w∧aQ P ops Q j (bO P ops Q z s) S a w
 | .three i j k r s t,S,a,w=>aQ P ops Q i (bO P ops Q z r) S a w∧aQ P ops Q j (bO P ops Q z s) S a w∧aQ P ops Q k (bO P ops Q z t) S a w
def eS (ops:Array Oper) (z:Nat):PlanT→Array Bool→Bool
 | .done,listed=>(Region.ready .any ops listed).isEmpty
 | .last,listed=>(Region.ready .any ops listed==[z])&&(Region.ready .any ops (listed.setIfInBounds z true)).isEmpty
 | .take i r,listed=>(Region.ready .any ops listed).contains i&&!(i==z)&&Region.free .any ops listed i&&eS ops z r (listed.setIfInBounds i true)
 | .one i r,listed=>(Region.ready .any ops listed==[i])&&eS ops z r (listed.setIfInBounds i true)
 | .two i j r s,listed=>(Region.ready .any ops listed==[i,j])&&(r.len==s.len)&&eS ops z r (listed.setIfInBounds i true)&&eS ops z s (listed.setIfInBounds j true)
 | .three i j k r s t,listed=>(Region.ready .any ops listed==[i,j,k])&&(r.len==s.len)&&(r.len==t.len)&&eS ops z r (listed.setIfInBounds i true)&&eS ops z s (listed.setIfInBounds j true)&&eS ops z t (listed.setIfInBounds k true)
theorem df (x:rh .any ops z=true) (hs:Region.noSelect ops=true) (u:∀c d v a w,Q (.panic c) (Act.put a d v) w→Q (.panic c) a w):
 ∀(π:PlanT) (b:Array Bool) (S:World→Prop) (a:Act) (w:World),Closed .any ops b→eS ops z π b=true→S w→bO P ops Q z π S a w→fQ P .any ops Q S z π.len b a w
 | .done,b,S,a,w,_,hB,_,h=>⟨by simpa [eS]using hB,h⟩
 | .last,b,S,a,w,hc,hB,hS,h=>by
  simp only[eS,Bool.and_eq_true,beq_iff_eq]at hB;obtain⟨g,q⟩:=hB;refine⟨fun h0=>(by rw[h0]at g;cases g),fun j e=>?_⟩;rw[g]at e;simp only[List.mem_singleton]at e;subst e;exact h _ fun n f p=>⟨fun D=>absurd rfl D,by simpa using q,p⟩
 | .take i r,b,S,a,w,hc,hB,hS,h=>by
  obtain⟨o,v,ho,I,h⟩:=h;simp only[eS,Bool.and_eq_true]at hB;obtain⟨⟨⟨g,G⟩,J⟩,q⟩:=hB;have B:i∈Region.ready .any ops b:=by simpa using g
  refine lD x ho (Region.noSelect_spec hs) (by simpa using G) (fun c a w=>u c _ _ a w) _ _ _ _ hc (Region.free_spec ho J) B ?_ hS (df x hs u r _ S _ w (hc.set B) q hS h);rcases I with⟨h1,h2⟩|h1
  ·refine .inl ⟨h1,fun f C=>?_⟩;have :=h2 f C;unfold dM at this
   split at this
   ·obtain⟨rfl,rfl⟩:=this;assumption
   ·exact this.elim
  ·exact .inr h1
 | .one i r,b,S,a,w,hc,hB,hS,h=>by
  simp only[eS,Bool.and_eq_true,beq_iff_eq]at hB;obtain⟨g,q⟩:=hB;refine⟨fun h0=>(by rw[h0]at g;cases g),fun j e=>?_⟩;have m:=hc.set e;rw[g]at e;simp only[List.mem_singleton]at e;subst e;exact h _ fun S' n f h1 h2 p=>⟨fun _=>h2 _ h1,cW h2 _ _ _ _ (df x hs u r _ S' n f m q h1 p)⟩
 | .two i k r s,b,S,a,w,hc,hB,hS,h=>by
  simp only[eS,Bool.and_eq_true,beq_iff_eq]at hB;obtain⟨⟨⟨g,F⟩,A⟩,y⟩:=hB;refine⟨fun h0=>(by rw[h0]at g;cases g),fun j e=>?_⟩;have m:=hc.set e;rw[g]at e;simp only[List.mem_cons,List.not_mem_nil,or_false]at e;rcases e with rfl|rfl
  ·exact h.1 _ fun S' n f h1 h2 p=>⟨fun _=>h2 _ h1,cW h2 _ _ _ _ (df x hs u r _ S' n f m A h1 p)⟩
  ·refine h.2 _ fun S' n f h1 h2 p=>⟨fun _=>h2 _ h1,cW h2 _ _ _ _ ?_⟩
   show fQ P .any ops Q S' z r.len _ n f
   rw[F];exact df x hs u s _ S' n f m y h1 p
 | .three i k l r s t,b,S,a,w,hc,hB,hS,h=>by
  simp only[eS,Bool.and_eq_true,beq_iff_eq]at hB;obtain⟨⟨⟨⟨⟨g,F⟩,E⟩,A⟩,y⟩,H⟩:=hB;refine⟨fun h0=>(by rw[h0]at g;cases g),fun j e=>?_⟩;have m:=hc.set e;rw[g]at e;simp only[List.mem_cons,List.not_mem_nil,or_false]at e;rcases e with rfl|rfl|rfl
  ·exact h.1 _ fun S' n f h1 h2 p=>⟨fun _=>h2 _ h1,cW h2 _ _ _ _ (df x hs u r _ S' n f m A h1 p)⟩
  ·refine h.2.1 _ fun S' n f h1 h2 p=>⟨fun _=>h2 _ h1,cW h2 _ _ _ _ ?_⟩
   show fQ P .any ops Q S' z r.len _ n f
   rw[F];exact df x hs u s _ S' n f m y h1 p
  ·refine h.2.2 _ fun S' n f h1 h2 p=>⟨fun _=>h2 _ h1,cW h2 _ _ _ _ ?_⟩
   show fQ P .any ops Q S' z r.len _ n f
   rw[E];exact df x hs u t _ S' n f m H h1 p
theorem nN {id:Nat} {a:Act} {w:World} (z:Nat) (π:PlanT) (S:World→Prop) (e:P.follows .mixedOrders=true)
 (b:(Region.noSelect ops&&(π.len==ops.size)&&rh .any ops z&&eS ops z π (Array.replicate ops.size false))=true) (f:S w.drew) (h:bO P ops (NP Q) z π S a w.drew):(Code.region id ops true).wp P Q a w:=by
 refine Code.wp_mono NP.imp ?_;simp only[Bool.and_eq_true,beq_iff_eq]at b;obtain⟨⟨⟨h1,h2⟩,g⟩,i⟩:=b;refine wp_region_any e (kN (S:=S) (z:=z) _ _ _ _ ?_);have :=df g h1 (fun c d v a w h=>h) π (Array.replicate ops.size false) S a w.drew (Closed.start _) i f h;rw[h2]at this;exact this
theorem Eo {i:Nat} {r:PlanT} {S:World→Prop} {a:Act} {w:World} {o:Oper} {v:Value} (ho:ops[i]?=some o) (hw:Region.wanted o (yielded ops a.tmps)=true)
 (hv:∀b,S b→dM v b ((execOp a.eval o).run P b)) (h:bO P ops Q z r S (a.put o.dst v) w):bO P ops Q z (.take i r) S a w:=⟨o,v,ho,.inl ⟨hw,hv⟩,h⟩
theorem BD {i:Nat} {r:PlanT} {S:World→Prop} {a:Act} {w:World} (h:aQ P ops Q i (bO P ops Q z r) S a w):bO P ops Q z (.one i r) S a w:=h
theorem FG {i j:Nat} {r s:PlanT} {S:World→Prop} {a:Act} {w:World} (h:aQ P ops Q i (bO P ops Q z r) S a w) (b:aQ P ops Q j (bO P ops Q z s) S a w):bO P ops Q z (.two i j r s) S a w:=⟨h,b⟩
theorem BC {i j k:Nat} {r s t:PlanT} {S:World→Prop} {a:Act} {w:World} (h:aQ P ops Q i (bO P ops Q z r) S a w) (c:aQ P ops Q j (bO P ops Q z s) S a w) (b:aQ P ops Q k (bO P ops Q z t) S a w):bO P ops Q z (.three i j k r s t) S a w:=⟨h,c,b⟩
theorem Er {S:World→Prop} {a:Act} {w:World} {o:Oper} (ho:ops[z]?=some o) (hw:Region.wanted o (yielded ops a.tmps)=true)
 (h:∀K:Act→World→Prop,(∀c b,Q .normal c b→K c b)→o.wp P a w K Q):bO P ops Q z .last S a w:=fun K d=>by
 unfold wpOp;simp only[ho,hw,if_true];exact .inl (h K d)
end
end
end Go.Proofs.YtojegnbejmeehaaGreatDoor
