/- Helpers of the proof of TopNames. -/
import Derived.Test.YtojegnbejmeehaaGreatDoorJBN
import Derived.Test.YtojegnbejmeehaaGreatDoorJBP
namespace Go.Proofs.YtojegnbejmeehaaGreatDoor
open Go.RowKit
set_option maxRecDepth 10000
set_option maxHeartbeats 16000000
set_option linter.all false
section
attribute [local irreducible] wpQuiet ax au aQ
variable {R:Ending→World→Prop} {w:World}
structure MaSt (w:World) (B x p mm mt:Nat) (vl:Value) (L:List (List Nat)) (n:Int) (G:Nat→Prop):Prop where
 blk:w.heap[x]?=some (.cells #[IL p,IL mt] 266)
 pool:PoolSt w B p mm vl L G
 met:MeterAt w mt n false
theorem MaSt.same {a:World} {B x p d c:Nat} {b:Value} {L:List (List Nat)} {n:Int} {G:Nat→Prop} (h:MaSt w B x p d c b L n G) (k:Same w a):MaSt a B x p d c b L n G:=
 ⟨k.at h.blk trivial,h.pool.same k,k.at h.met trivial⟩
theorem zX {B x p A z:Nat} {y v:Value} {L:List (List Nat)} {l:List Nat} {n:Int} {G:Nat→Prop} (h:MaSt w B x p A z y L n G) (hv:IntsAt w v (l.map Int.ofNat)) (r:l.Pairwise (·<·)) (j:l≠[]) (b:∀n∈l,n<100) (d:l.length≤400) (i:l∈L)
 (t:∀e o,e=.returned (.tuple (Iz ((gF L l:Nat):Int) true))→Same w o→R e o):
 Calls Tryz.prog 209 #[.pointer (IQ x 0),v] w R:=by
 have u:=ae t;clear t;have C:=xc1 h.blk 0 rfl;have k:gF L l<L.length:=l9 i;have f:=ae h;have D:=ae hv;have g:=ae b;have F:=ae r;have E:=ae i;obtain⟨I,J,rfl⟩:∃s c,v=.slice s (l.map Int.ofNat).length c:=by obtain⟨a,c,e,_⟩:=hv.open;exact⟨a,c,e⟩
 clear h hv i r b;go_enter Tryz.func209,Tryz.ntmps209;go_wp2_with fail;refine lL f.o.pool ?_;rintro e rfl;go_wp2_with fail;refine BJ f.o.pool (by simpa only[List.length_map]using D.o) F.o j g.o d E.o ?_;rintro e H rfl q;have m:=ae q;clear q;generalize gF L l=id at k u⊢;go_wp2_with fail;exact u.o _ _ rfl m.o
theorem uk {B x p I u:Nat} {vl v:Value} {L:List (List Nat)} {l:List Nat} {n:Int} {G:Nat→Prop} (h:MaSt w B x p I u vl L n G) (hv:IntsAt w v (l.map Int.ofNat)) (hl:l.Pairwise (·<·)) (a8:l≠[]) (A:∀n∈l,n<100) (Z:l.length≤400) (hp:l∉L) (hB:B≤w.heap.size) (hL:L.length+1≤400) (hn:1≤n) (cH:n≤1000000) (hG:∀b,w.heap.size≤b→G b)
 (hR:∀e w' O,e=.returned (.tuple (Iz L.length true))→MaSt w' B x p I u O (L++[l]) (n -1) G→Keeps (fun b=>b≠p∧b≠I∧b≠u∧vl.ownBlock≠some b) w w'→(∀b,O.ownBlock=some b→vl.ownBlock=some b∨w.heap.size≤b)→R e w'):
 Calls Tryz.prog 209 #[.pointer (IQ x 0),v] w R:=by
 have HR:=ae hR;clear hR;have c0:=xc1 h.blk 0 rfl;have d:=ae h;have HV:=ae hv;have aL:=ae A;have HL:=ae hl;have HP:=ae hp;have HB:=ae hB;have cE:=ae hG;obtain⟨sv,cv,rfl⟩:∃s c,v=.slice s (l.map Int.ofNat).length c:=by obtain⟨a,c,e,_⟩:=hv.open;exact⟨a,c,e⟩
 clear h hv hp hl A hB hG;go_enter Tryz.func209,Tryz.ntmps209;go_wp2_with fail;refine lL d.o.pool ?_;rintro e rfl;go_wp2_with fail;refine ED d.o.pool (by simpa only[List.length_map]using HV.o) HL.o a8 aL.o Z HP.o HB.o (by omega) cE.o ?_;rintro e w2 N rfl T k2 aH;have U:x≠p:=fun e=>by
  have h1:=d.o.blk;have h2:=d.o.pool.blk;rw[e,h2]at h1;simp at h1
 have E:u≠p:=fun e=>by
  have h1:=d.o.met;have h2:=d.o.pool.blk;unfold MeterAt at h1;rw[e,h2]at h1;simp at h1
 have m:∀{b:Nat} {cs:Array Value} {t:TypeId},w.heap[b]?=some (.cells cs t (0,0))→b≠I:=fun g e=>by
  obtain⟨es,ce,hm,_⟩:=d.o.pool.map;subst e;rw[hm]at g;cases g
 have k:∀{b:Nat} {cs:Array Value} {t:TypeId},w.heap[b]?=some (.cells cs t (0,0))→t≠41→vl.ownBlock≠some b:=fun g ht e=>by
  obtain⟨vs,q1,_⟩:=d.o.pool.own;obtain⟨_,i,M⟩:=ah q1 e;rw[g]at M;simp only[Option.some.injEq,Obj.cells.injEq]at M;exact ht M.2.1
 have r:=k2.at d.o.blk ⟨U,m d.o.blk,k d.o.blk (by decide)⟩;have y:MeterAt w2 u n false:=k2.at d.o.met ⟨E,m d.o.met,k d.o.met (by decide)⟩;have c1:=xc1 r 1 rfl;have C:=ae r;have f:=ae y;have j:=ae T;have H:=ae (And.intro k2 (And.intro aH E));clear r y T k2 aH m k c0 E;go_wp2_with fail;refine Bq 1 f.o (by decide) (by omega) (by omega) ?_;rintro e w3 rfl m3 J;have X:fg n 1 false=true:=by simp[fg];omega
 rw[X];rw[show cY n 1 false=n -1 by unfold cY;rw[if_neg (by simp),if_pos hn],show dy n 1 false=false by simp[dy];omega]at m3;have Y:p≠u:=fun e=>H.o.2.2 e.symm;have V:x≠u:=fun e=>by
  have h1:=C.o;have h2:=f.o;unfold MeterAt at h2;rw[e,h2]at h1;simp at h1
 have z:I≠u:=fun e=>by
  obtain⟨es,ce,hm,_⟩:=j.o.map;have h2:=f.o;unfold MeterAt at h2;rw[e,h2]at hm;cases hm
 have o:∀b i,w2.heap[b]?=some (.cells i 3 (0,0))→b≠u:=fun b i g F=>by
  subst F;have h2:=f.o;unfold MeterAt at h2;rw[h2]at g;simp at g
 have D:PoolSt w3 B p I N (L++[l]) G:=⟨J.at j.o.blk Y,j.o.map.keep J z,j.o.own.keep2 J (fun b g F=>by
  obtain⟨vs,q1,_⟩:=j.o.own;obtain⟨_,i,M⟩:=ah q1 g;subst F;have h2:=f.o;unfold MeterAt at h2;rw[h2]at M;simp at M) (fun b i g _=>o b i g),j.o.low⟩
 have q:=J.at C.o V;have c0:=xc1 q 0 rfl;have HF:=ae (HR.o _ w3 N rfl ⟨q,D,m3⟩ (H.o.1.trans J fun b _ g=>⟨⟨g.1,g.2.1,g.2.2.2⟩,g.2.2.1⟩) H.o.2.1);have ch:=ae D;clear D q m3 J o c1 X V Y z U;go_wp2_with fail;refine lL ch.o ?_;rintro e rfl;have bL:(L++[l]).length=L.length+1:=by simp
 have hd:decide ((L.length:Int)+1≤400)=true:=decide_eq_true (by omega);have HD:=ae hd;clear hd;rw[bL];go_wp2_with fail;have hf:=HF.o;rw[←HD.o]at hf;exact hf
theorem tR {B d:Nat} {A:Au} {t:Nat} (h:DFAAt w B d A) (f:(t:Int)<A.T) (b:∀e a,e=.returned (.bool true)→Same w a→R e a):
 Calls Tryz.prog 232 (Ia (IL d) t) w R:=by
 have c:=ae b;clear b;have H:=ae h;clear h;go_enter Tryz.func232,Tryz.ntmps232;go_wp2_with fail;refine dB H.o ?_;rintro e rfl;go_wp2_with fail;exact c.o _ _ rfl (af _ _)
theorem EI {c t:Nat} (a:c<2^t) (b:t≤5):bits .or .i64 (c:Int) (wrap64 ((2:Int)^t))=((c+2^t:Nat):Int):=by
 have f:2^t≤64:=fp (by omega);have e:c|||2^t=c+2^t:=wF a
 rw[show((2:Int)^t)=((2^t:Nat):Int) by simp];generalize d:2^t=q at *;rw[IntWalk.wrap64_in _ ⟨by omega,by omega⟩,iO _ _ (by omega) (by omega),e]
theorem BR {c t a:Nat} (b:c<2^t) (f:t≤5) (h2:a=c+2^t):bits .or .i64 (c:Int) (IntKind.i64.wrap ((2:Int)^t))=(a:Int):=by
 have h:2^t≤64:=fp (by omega);have e:c|||2^t=c+2^t:=wF b
 rw[show((2:Int)^t)=((2^t:Nat):Int) by simp,h2];generalize g:2^t=q at *;have d:IntKind.i64.wrap (q:Int)=(q:Int):=by rw[IntKind.wrap_i64];omega
 rw[d,iO _ _ (by omega) (by omega),e]
theorem Fs {c t:Nat} (d:c<2^t) (a:t≤5):bits .and .i64 (c:Int) (wrap64 (wrap64 ((2:Int)^t) -1))=(c:Int):=by
 have e:2^t≤32:=by have :=Nat.pow_le_pow_right (n:=2) (by decide) a;simpa using this
 have h0:0<2^t:=Nat.pow_pos (by decide);have b:bits .and .i64 (c:Int) (((2^t:Nat):Int) -1)=((c%2^t:Nat):Int):=by
  rw[show(((2^t:Nat):Int) -1)=((2^t -1:Nat):Int) by omega,nD _ _ (by omega) (by omega),Nat.and_two_pow_sub_one_eq_mod]
 rw[show((2:Int)^t)=((2^t:Nat):Int) by simp];rw[IntWalk.wrap64_in ((2^t:Nat):Int) ⟨by omega,by omega⟩,IntWalk.wrap64_in _ ⟨by omega,by omega⟩,b,Nat.mod_eq_of_lt d]
theorem EH {c:Nat} (a:c<64):bits .or .i64 (c:Int) 0=(c:Int):=by
 have :=iO c 0 (by omega) (by omega)
 simpa using this
theorem wJ (A:Au) (t c:Nat) (l:List Nat) (s:Nat):dR A t (l++[s]) c=dR A t l c++[nx A s c,nx A s (c+2^t)]:=by
 unfold dR;rw[List.flatMap_append];rfl
theorem mG (A:Au) (t c:Nat) (l:List Nat):(dR A t l c).length=2*l.length:=by
 unfold dR
 induction l with
 |nil=>rfl
 |cons x l ih=>rw[List.flatMap_cons,List.length_append,ih];simp;omega
theorem CI (w:World) {x y:Int} (hx:aK x) (b:aK y):IntsAt (w.alloc (.cells #[x,y] 3)) (.slice (IQ w.heap.size 0) 2 2) [x,y]:=by
 refine⟨⟨_,2,rfl,Nat.le_refl _,by unfold maxLen;omega,.inr ⟨w.heap.size,0,It x y,_,_,rfl,ag w _,fun i v hv=>?_⟩⟩,fun z a=>?_⟩
 ·match i,hv with
  |0,hv=>simpa using hv
  |1,hv=>simpa using hv
 ·simp at a;rcases a with rfl|rfl
  ·exact hx
  ·exact b
theorem BE {v rv:Value} {A:Au} {t c:Nat} {l:List Nat} (hr:RowsAt w rv A.next) (cH:AuOk A) (hT:A.T=(t:Int)+1) (ht:t≤5) (hc:c<2^t) (hv:IntsAt w v (l.map Int.ofNat)) (hl:∀s∈l,s<A.acc.length) (Je:l.length≤400) (I0:l≠[])
 (hR:∀e X u,e=.returned u→OwnInts X w.heap.size u ((eD (dR A t l c)).map Int.ofNat)→Same w X→R e X):
 Calls Tryz.prog 212 #[rv,v,IP c,IP t] w R:=by
 have HR:=ae hR;clear hR;obtain⟨ra,rc,rfl,Ja,cE,D⟩:=hr.open;obtain⟨va,vc,rfl,aL,aH,o⟩:=hv.open;rw[List.length_map]at aL;unfold maxLen at cE aH;have gI:=ae D;have HC:=ae o;have g:=ae cH;have HL:=ae hl;have HT:=ae hT;have p:=ae hc;simp only[List.length_map];clear D o hv hr cH hl hT hc;have Jm:2^t≤32:=by have :=Nat.pow_le_pow_right (n:=2) (by decide) ht;simpa using this
 have Jc:=Fs p.o ht;have Jb:=EH (c:=c) (by have :=p.o;omega);have I4:=EI p.o ht;obtain⟨V,z⟩:∃V:Nat,V=c+2^t:=⟨_,rfl⟩;rw[←z]at I4;have Jf:bits .or .i64 (c:Int) (IntKind.i64.wrap ((2:Int)^t))=(V:Int):=BR p.o ht z;have I9:=ae z;have Jk:wrap64 0=0:=IntWalk.wrap64_in 0 ⟨by omega,by omega⟩;clear z;go_enter Tryz.func212,Tryz.ntmps212;go_wp2_with fail
 go_loopw [11,13,27] (fun u _ i wr=>∃k:Nat,i=.int .i64 (k:Int)∧k≤l.length∧Hid (OwnInts wr w.heap.size u ((dR A t (l.take k) c).map Int.ofNat))∧Hid (Same w wr)) (fun _ _ i _=>l.length -(intOf i).toNat)
 case atStart=>exact⟨0,rfl,Nat.zero_le _,ae (World.ownsRow_nil _ _ _ _),ae (af _ _)⟩
 case round=>
  obtain⟨k,rfl,hk,N,U⟩:=hrel;obtain⟨su,cu,rfl⟩:=N.o.shape;by_cases q:k<l.length
  ·obtain⟨bl,ol,rfl,_,fw⟩:=HC.o k (by rw[List.length_map];exact q);have r:=ak U.o (fw k (by rw[List.length_map];exact q)) trivial;rw[List.getElem_map]at r;have I:=HL.o _ (List.getElem_mem q);have H:=wJ A t c (l.take k) l[k];rw[←List.take_succ_eq_append_getElem q]at H;have C:=ae H;clear fw H;generalize l[k]=s at r I C;have Jd:wr.cell? ⟨bl,ol+k,none⟩=some (.int .i64 (s:Int)):=r;have IZ:A.next.length=A.acc.length:=g.o.1.2.2.2.2
   have a:s<A.next.length:=by omega
   clear IZ;obtain⟨br,Jj,rfl,_,a8⟩:=gI.o s a;obtain⟨ru,J,ch⟩:=a8 s a;have bL:A.next[s]∈A.next:=List.getElem_mem a
   have IR:A.next[s].length=2^(t+1):=by
    have :=(g.o.2 _ bL).1;rw[this,HT.o]
    congr 1
   have IW:2^(t+1)=2^t+2^t:=by rw[Nat.pow_succ];omega
   have Jl:=p.o;have G:=I9.o;have fu:A.next[s][c]'(by omega)=((nx A s c:Nat):Int):=by
    have :=gL g.o I;unfold fF at this;rw[List.getD_eq_getElem?_getD,List.getElem?_eq_getElem a,Option.getD_some]at this;have h2:=fE (A:=A) (s:=s) (c:=c) (by rw[HT.o];show c<2^(t+1);omega);have h3:A.next[s][c]?=some ((nx A s c:Nat):Int):=by rw[this,List.getElem?_map,h2];rfl
    rw[List.getElem?_eq_getElem (by omega)]at h3;exact Option.some.inj h3
   have fd:A.next[s][V]'(by omega)=((nx A s (c+2^t):Nat):Int):=by
    subst G;have :=gL g.o I;unfold fF at this;rw[List.getD_eq_getElem?_getD,List.getElem?_eq_getElem a,Option.getD_some]at this;have h2:=fE (A:=A) (s:=s) (c:=c+2^t) (by rw[HT.o];show c+2^t<2^(t+1);omega);have h3:A.next[s][c+2^t]?=some ((nx A s (c+2^t):Nat):Int):=by rw[this,List.getElem?_map,h2];rfl
    rw[List.getElem?_eq_getElem (by omega)]at h3;exact Option.some.inj h3
   obtain⟨Ji,Jh,rfl,IT,IS,j⟩:=ch.open;obtain⟨b2,o2,rfl,_,L⟩:=j c (by omega);have Z:=L c (by omega);have Y:=L V (by omega);rw[fu]at Z;rw[fd]at Y;have ce:c<A.next[s].length∧V<A.next[s].length:=⟨by omega,by omega⟩
   have I2:=ep g.o s c;have I1:=ep g.o s (c+2^t);have Jg:A.acc.length≤400:=g.o.1.2.2.2.1;unfold maxLen at IS;generalize A.next[s].length=rl at IT ce J Z Y
   clear L j fu fd ch a8 bL r IR IW G;generalize nx A s c=x1 at Z I2 C;generalize nx A s (c+2^t)=x2 at Y I1 C;have HV:=ae (And.intro J (And.intro Z Y));have O:Same wr wr.drew:=al (af (fun _=>True) wr);have m:Keeps (fun _=>True) wr.drew (wr.drew.alloc (.cells #[x1,x2] 3)):=(af _ _).alloc _;have f:((dR A t (l.take k) c).map Int.ofNat).length=2*k:=by rw[List.length_map,mG,List.length_take];omega
   obtain⟨v',w5,M,d,dZ,I5⟩:=nM (B:=w.heap.size) (w:=wr.drew.alloc (.cells #[x1,x2] 3)) (eK N.o (O.tr m)) (CI wr.drew (x:=(x1:Int)) (y:=(x2:Int)) ⟨by omega,by omega⟩ ⟨by omega,by omega⟩) (by have :=U.o.size;have :=m.size;have :=O.size;omega) (by rw[f];simp;omega);have F:Same w w5:=((U.o.tr O).tr m).trans dZ fun b hb _=>⟨trivial,fun e=>by have :=(ah N.o e).1;omega⟩;obtain⟨s5,c5,rfl⟩:=d.shape;have I6:=ae d;have gJ:=ae F;have I7:=ae ((U.o.tr O).tr m);have I8:=ae (U.o.tr O);simp only[f]at M⊢;clear d dZ I5 F m O J Z Y;go_wp2_with fail;refine az (.take 0 (.take 1 (.take 2 (.take 3 (.take 4 (.take 5 (.take 6 (.take 7 (.take 8 (.take 9 (.take 10 (.take 11 (.take 12 (.take 13 (.take 14 (.take 15 (.take 16 (.take 17 (.one 18 (.one 19 (.take 20 .done))))))))))))))))))))) (Same w) (by kernel_rfl) (by kernel_rfl) I8.o ?_
   iterate 18 (first|(apply aF;rfl;rfl;go_simp)|(apply aD;rfl;rfl;intro X hS;have r0:=ak hS HV.o.1 trivial;have r1:=ak hS HV.o.2.1 trivial;have r2:=ak hS HV.o.2.2 trivial;go_simp;exact rfl;go_simp))
   refine aP (ay rfl rfl fun K gH=>?_);go_simp;refine gH (Same w) _ _ I7.o (fun _ h=>h) ?_;clear gH K;refine aP (bZ _ _ _ rfl rfl rfl ?hs ?hx M (Same w) gJ.o (fun _ h=>h) ?_)
   case hs=>rfl
   case hx=>rfl
   clear M;go_simp
   iterate 1 (first|(apply aF;rfl;rfl;go_simp)|(apply aD;rfl;rfl;intro X hS;go_simp;exact rfl;go_simp))
   refine aW ?_;go_wp2_with fail;go_roundw
   case rel=>
    refine⟨k+1,by go_num,by omega,ae ?_,gJ⟩;have :=I6.o;rw[C.o,List.map_append]
    simpa [f]using this
   case measure=>simp[intOf];omega
  ·obtain rfl:k=l.length:=by omega
   have f:((dR A t l c).map Int.ofNat).length≤1000000:=by rw[List.length_map,mG];omega
   have E:(dR A t l c).map Int.ofNat≠[]:=fun e=>by
    have :=congrArg List.length e;rw[List.length_map,mG]at this;have :=List.length_pos_iff.2 I0;simp at *;omega
   rw[List.take_length]at N⊢;have If:=ae (rE (dR A t l c));obtain⟨li,dE⟩:∃li,li=(dR A t l c).map Int.ofNat:=⟨_,rfl⟩;rw[←dE]at f E If N⊢;clear dE;go_wp2_with fail;refine lG N.o f ?_;rintro e w2 rfl o2 k2;have HB:Hid (∀b,(Value.slice su li.length cu).ownBlock=some b→w.heap.size≤b):=ae (fun b hb=>(ah N.o hb).1);have I3:(li.mergeSort leI).length≤1000000:=by rw[List.length_mergeSort];exact f
   have dp:li.mergeSort leI≠[]:=fun e=>E (List.eq_nil_of_length_eq_zero (by have :=congrArg List.length e;rwa [List.length_mergeSort]at this));have O2:=ae o2;have K2:Hid (Same w w2):=ae (U.o.trans k2 fun x hx _=>⟨trivial,fun e=>by have :=HB.o x e;omega⟩);clear o2 k2;go_wp2_with fail;refine lk O2.o I3 dp ?_;rintro e w3 u3 rfl o3 k3;have K3:Hid (Same w w3):=ae (K2.o.trans k3 fun x hx _=>⟨trivial,fun e=>by have :=HB.o x e;omega⟩);rw[Cz,If.o]at o3;obtain⟨s3,c3,rfl⟩:=o3.shape;have O3:=ae o3;clear o3 k3;go_wp2_with fail;exact HR.o _ _ (.slice s3 ((eD (dR A t l c)).map Int.ofNat).length c3) (by simp) O3.o K3.o
theorem OwnMat.keepE {S:Nat→Prop} {g:World} {B:Nat} {v:Value} {c:List (List Int)} (h:OwnMat w B v c) (k:Keeps S w g) (hs:∀b a e,w.heap[b]?=some (.cells a e (0,0))→(e=41∨e=3)→S b):OwnMat g B v c:=by
 obtain⟨vs,h1,h2,n⟩:=h;refine⟨vs,ar h1 k fun b f=>?_,h2,fun i u l j m=>(n i u l j m).keep k fun b f=>?_⟩
 ·obtain⟨_,a,d⟩:=ah h1 f;exact hs b a _ d (.inl rfl)
 ·obtain⟨_,a,d⟩:=ah (n i u l j m) f;exact hs b a _ d (.inr rfl)
def BlAt (w:World) (g:Nat) (l:List Bool):Prop:=∃cur,w.heap[g]?=some (.cells cur 4 (0,0))∧∀j (hj:j<l.length),cur[j]?=some (.bool l[j])
theorem BlAt.keep {S:Nat→Prop} {b:World} {g:Nat} {l:List Bool} (h:BlAt w g l) (k:Keeps S w b) (hs:S g):BlAt b g l:=by
 obtain⟨a,h1,h2⟩:=h;exact⟨a,k.at h1 hs,h2⟩
theorem BlAt.cell {g:Nat} {l:List Bool} (h:BlAt w g l) {j:Nat} (a:j<l.length):w.cell? ⟨g,j,none⟩=some (.bool (l.getD j false)):=by
 obtain⟨b,h1,h2⟩:=h;rw[ai h1,h2 j a];simp[List.getD,List.getElem?_eq_getElem a]
theorem BlAt.free {g:Nat} {l:List Bool} (h:BlAt w g l) (j:Nat):w.frozen? ⟨g,j,none⟩=false:=by
 obtain⟨a,h1,h2⟩:=h;exact ao h1 j
theorem BlAt.set {g:Nat} {l:List Bool} (h:BlAt w g l) {j:Nat} (f:j<l.length) (b:Bool):BlAt (w.setCell ⟨g,j,none⟩ (.bool b)) g (l.set j b):=by
 obtain⟨d,h1,h2⟩:=h;refine⟨_,aj h1 j (.bool b),fun i k=>?_⟩;have c:i<l.length:=by simpa using k
 have a:j<d.size:=by
  have :=h2 j f;exact(Array.getElem?_eq_some_iff.1 this).1
 rw[List.getElem_set];by_cases e:j=i
 ·subst e;simp[Array.getElem?_setIfInBounds,a]
 ·rw[if_neg e,Array.getElem?_setIfInBounds,if_neg e];exact h2 i c
theorem BlAt.own {B g n c:Nat} {l:List Bool} (h:OwnBools w B (.slice (IQ g 0) n c) l):BlAt w g l∧l.length≤c∧c≤maxLen∧n=l.length:=by
 obtain⟨h0,⟨h1,_⟩|⟨p,cap,a,b,o,k,f,e,m,d⟩⟩:=h
 ·cases h1
 ·simp only[Value.slice.injEq,Option.some.injEq,Addr.mk.injEq,and_true,true_and]at b;obtain⟨rfl,rfl,rfl⟩:=b;refine⟨⟨a,k,fun j i=>?_⟩,f,e,rfl⟩;have :(a.toList.take (l.length*1))[j]?=some (.bool l[j]):=by rw[d];simp[i]
  rw[List.getElem?_take,if_pos (by omega)]at this
  simpa using this
theorem BlAt.bools {g c:Nat} {l:List Bool} (h:BlAt w g l) (h1:l.length≤c) (h2:c≤maxLen):BoolsAt w (.slice (IQ g 0) l.length c) l:=by
 obtain⟨b,e,d⟩:=h;refine⟨_,c,by rw[List.length_map],by rw[List.length_map];exact h1,h2,.inr ⟨g,0,b,_,_,rfl,e,fun i x hx=>?_⟩⟩;rw[List.getElem?_map]at hx;rcases Nat.lt_or_ge i l.length with a|a
 ·rw[List.getElem?_eq_getElem a]at hx;rw[Nat.zero_add,d i a];exact hx
 ·rw[List.getElem?_eq_none a]at hx;cases hx
def Cg (w:World) (g n:Nat):Nat:=(List.range n).countP fun j=>match w.cell? ⟨g,j,none⟩with |some (.bool false)=>true|_=>false
theorem uq {g:Nat} {l:List Bool} (h:BlAt w g l):Cg w g l.length=rX l:=by
 have e:l=(List.range l.length).map fun j=>l.getD j false:=by
  apply List.ext_getElem
  ·simp
  ·intro i h1 h2;simp[List.getD,List.getElem?_eq_getElem h1]
 have c:rX l=((List.range l.length).map fun j=>l.getD j false).countP (fun b=>!b):=by rw[←e];rfl
 rw[c,List.countP_map];unfold Cg;refine List.countP_congr fun j a=>?_;rw[h.cell (List.mem_range.1 a)];simp only[Function.comp];generalize l.getD j false=b
 cases b<;>simp
def CloseR (A:Au) (t:Nat) (acc:List Bool) (more:Bool):Prop:=acc.length=A.acc.length∧(∃f,rX acc<f∧ll A t f acc=cq A t)∧(more=false→acc=cq A t)
theorem CloseR.start (A:Au) (t:Nat):CloseR A t A.acc true:=⟨rfl,⟨A.acc.length+1,Nat.lt_succ_of_le List.countP_le_length,rfl⟩,fun h=>by cases h⟩
def PassR (A:Au) (t k:Nat) (acc0 acc:List Bool) (more:Bool):Prop:=acc=fc A t k acc0∧(more=false→acc=acc0)∧(more=true→rX acc<rX acc0)
theorem CloseR.next {A:Au} {t:Nat} {a acc:List Bool} {m more:Bool} (h:CloseR A t a m) (p:PassR A t A.acc.length a acc more):CloseR A t acc more:=by
 obtain⟨h1,⟨f,h2,b⟩,_⟩:=h;obtain⟨c,l,k⟩:=p;have j:acc.length=A.acc.length:=by rw[c,dC,h1]
 obtain⟨f,rfl⟩:∃g,f=g+1:=⟨f -1,by omega⟩;unfold ll at b
 cases more with
 |false=>
  have e:=l rfl;subst e;rw[if_pos c.symm]at b;exact⟨j,⟨f+1,h2,by unfold ll;rw[if_pos c.symm];exact b⟩,fun _=>b⟩
 |true=>
  have i:=k rfl;have d:fc A t A.acc.length a≠a:=fun e=>by
   rw[c,e]at i;omega
  rw[if_neg d,←c]at b;exact⟨j,⟨f,by omega,b⟩,fun h=>by cases h⟩
theorem PassR.skip {A:Au} {t k:Nat} {a acc:List Bool} {more:Bool} (p:PassR A t k a acc more) (h:(!acc.getD k false&&(acc.getD (nx A k 0) false||acc.getD (nx A k (2^t)) false))=false):PassR A t (k+1) a acc more:=by
 obtain⟨d,c,b⟩:=p;refine⟨?_,c,b⟩;rw[gD,←d];unfold jZ;rw[h];rfl
theorem PassR.turn {A:Au} {t k:Nat} {a acc:List Bool} {more:Bool} (p:PassR A t k a acc more) (e:k<acc.length) (h0:acc.getD k false=false) (h:(acc.getD (nx A k 0) false||acc.getD (nx A k (2^t)) false)=true):PassR A t (k+1) a (acc.set k true) true:=by
 obtain⟨d,c,b⟩:=p;have hs:=uo e h0;refine⟨?_,fun h=>(by cases h),fun _=>?_⟩
 ·rw[gD,←d];unfold jZ;rw[h0,h];rfl
 ·cases more with
  |false=>have :=c rfl;subst this;omega
  |true=>have :=b rfl;omega
theorem yu {A:Au} (b:AuOk A) {s c:Nat} (hs:s<A.acc.length) (d:c<2^A.T.toNat) (a:s<A.next.length):A.next[s][c]?=some ((nx A s c:Nat):Int):=by
 have :=gL b hs;unfold fF at this;rw[List.getD_eq_getElem?_getD,List.getElem?_eq_getElem a,Option.getD_some]at this;rw[this,List.getElem?_map,fE d];rfl
theorem tT {t:Nat} (a:t≤5):IntKind.i64.wrap ((2:Int)^t)=((2^t:Nat):Int)∧wrap64 ((2:Int)^t)=((2^t:Nat):Int):=by
 have b:2^t≤64:=fp (by omega);rw[show((2:Int)^t)=((2^t:Nat):Int) by simp];generalize 2^t=q at *;exact⟨by rw[IntKind.wrap_i64];omega,IntWalk.wrap64_in _ ⟨by omega,by omega⟩⟩
theorem zq {B d t:Nat} {A:Au} (h:DFAAt w B d A) (hT:A.T=(t:Int)+1) (ht:t≤5)
 (hR:∀e O d',e=.returned (.tuple (Ia (IL d') 0))→DFAAt O w.heap.size d' (iS A t)→Same w O→R e O):
 Calls Tryz.prog 207 (Ia (IL d) t) w R:=by
 have HR:=ae hR;clear hR;have I1:=h.ok;have p:=ae I1;have H:=ae h;have HT:=ae hT;have Jk:2^t≤32:=by have :=Nat.pow_le_pow_right (n:=2) (by decide) ht;simpa using this
 clear h I1;go_enter Tryz.func207,Tryz.ntmps207;go_wp2_with fail;refine tR H.o (by omega) ?_;rintro e w1 rfl k1;have H1:=ae (H.o.same k1);have K1:=ae k1;clear k1 H hT;go_wp2_with fail;refine mh H1.o ?_;rintro e w2 N rfl o2 k2;obtain⟨va,vn,rfl,Z,ce⟩:=o2;obtain⟨sa,ca,rfl⟩:=av Z;have Js:0<A.acc.length:=p.o.1.2.2.1;have I9:∃g,sa=some ⟨g,0,none⟩:=by
  rcases Z.2 with⟨_,h0⟩|⟨g,cap,I5,e1,_⟩
  ·omega
  ·simp at e1;exact⟨g,e1.1⟩
 obtain⟨g,rfl⟩:=I9;have JD:w1.heap.size≤g:=(ah Z rfl).1;obtain⟨M,I4,cH,_⟩:=BlAt.own Z;obtain⟨sn,cn,rfl⟩:=ce.shape;have C:=ce.rows p.o.bounds.2;obtain⟨_,_,en,Jt,I3,cE⟩:=C.open;simp only[Value.slice.injEq,true_and]at en;obtain⟨rfl,rfl⟩:=en;have I8:=ae (And.intro I4 cH);have Jm:=ae C;have I6:=ae cE;have kx:=sal w2 (Ij A.T (IQ g 0) A.acc.length ca sn A.next.length cn);have If:=ag w2 (Ij A.T (IQ g 0) A.acc.length ca sn A.next.length cn);have J:=ae (M.keep kx trivial);have aH:=ae If;have K2:=ae (K1.o.tr k2);have KX:=ae kx;have IR:=k2.size;have JB:=K1.o.size;unfold maxLen at cH I3;have Jo:=ae ce;clear Z ce M C cE kx If k2 Jm I6;go_wp2_with fail;generalize w2.alloc _=w3 at J aH KX⊢;generalize hx:w2.heap.size=x at aH IR⊢;clear hx;obtain⟨a8,aL⟩:=tT ht;obtain⟨q,hq⟩:∃q:Nat,q=2^t:=⟨_,rfl⟩;rw[←hq]at a8 aL Jk;have HQ:=ae hq;have Jn:=ae (And.intro a8 aL);clear hq a8 aL;have I7:Hid (∀O,Keeps (·≠g) w3 O→RowsAt O (.slice sn A.next.length cn) A.next):=ae (fun O k=>by
  refine((Jo.o.same KX.o).keepE k fun b I5 e z ht Jg=>?_).rows p.o.bounds.2;obtain⟨Jv,h1,_⟩:=J.o;rw[Jg,h1]at z;simp at z;rcases ht with h|h<;>exact absurd (z.2.trans h) (by decide))
 go_loopw [7] (fun m wr=>∃(more:Bool) (acc:List Bool),m=.bool more∧Hid (BlAt wr g acc)∧Hid (CloseR A t acc more)∧Hid (Keeps (·≠g) w3 wr)) (fun m wr=>Cg wr g A.acc.length+(match m with | .bool true=>1|_=>0))
 case atStart=>exact⟨true,A.acc,rfl,J,ae (CloseR.start A t),ae (af _ _)⟩
 case round=>
  obtain⟨more,acc,rfl,M,y,r⟩:=hrel;have I2:x≠g:=fun e=>by
   obtain⟨I5,h1,_⟩:=J.o;have h2:=aH.o;rw[e,h1]at h2;simp at h2
  have v:=r.o.at aH.o I2;obtain⟨x0,F,x2⟩:=xc3 v rfl rfl rfl;have fu:=uq M.o;rw[y.o.1]at fu;have Jq:=ae fu;clear v fu
  cases more with
  |false=>
   go_wp2_with fail;refine iz (A:=iS A t) ⟨_,_,rfl,?_,I7.o _ r.o,p.o.bounds.1⟩ (DK p.o t) ?_
   ·have z:=M.o.bools (by rw[y.o.1];exact I8.o.1) I8.o.2;rw[y.o.2.2 rfl]at z;have hl:(cq A t).length=A.acc.length:=by rw[←y.o.2.2 rfl];exact y.o.1
    rw[hl]at z;exact z
   rintro e w8 d8 rfl h8 k8;have dE:Same w wr:=((K2.o.tr KX.o).trans r.o fun b z _=>⟨trivial,by omega⟩);have HF:=ae (HR.o _ w8 d8 rfl (h8.below dE.size) (dE.tr k8));clear h8 k8 dE;go_wp2_with fail;exact HF.o
  |true=>
   go_wp2_with fail
   go_loopw [7,8,9,20] (fun m _ _ i w5=>∃(k:Nat) (o:Bool) (f:List Bool),m=.bool o∧i=.int .i64 (k:Int)∧k≤A.next.length∧Hid (BlAt w5 g f)∧Hid (PassR A t k acc f o)∧Hid (Keeps (·≠g) w3 w5)) (fun _ _ _ i _=>A.next.length -(intOf i).toNat)
   case atStart=>exact⟨0,false,acc,rfl,rfl,Nat.zero_le _,M,ae ⟨rfl,fun _=>rfl,fun h=>by cases h⟩,r⟩
   case round=>
    obtain⟨k,o,f,rfl,rfl,hk,l,Y,D⟩:=hrel;clear x0 F x2;have v:=D.o.at aH.o I2;obtain⟨x0,F,x2⟩:=xc3 v rfl rfl rfl;by_cases L:k<A.next.length
    ·have dZ:k<A.acc.length:=by rw[←p.o.1.2.2.2.2];exact L
     have Jf:f.length=A.acc.length:=by rw[Y.o.1,dC,y.o.1]
     obtain⟨_,_,en,_,_,IT⟩:=(I7.o _ D.o).open;simp only[Value.slice.injEq,true_and]at en;obtain⟨rfl,rfl⟩:=en;obtain⟨br,JA,rfl,_,IS⟩:=IT k L;obtain⟨ru,X,I0⟩:=IS k L;have IW:A.next[k]∈A.next:=List.getElem_mem L
     have I:2^A.T.toNat=2^t+2^t:=by rw[HT.o,show((t:Int)+1).toNat=t+1 from rfl,Nat.pow_succ];omega
     have JC:0<q:=by rw[HQ.o];exact Nat.pow_pos (by decide)
     have Ja:A.next[k].length=q+q:=by rw[(p.o.2 _ IW).1,I,HQ.o]
     have e1:=yu p.o (c:=0) dZ (by rw[I,←HQ.o];omega) L;have e2:=yu p.o (c:=q) dZ (by rw[I,←HQ.o];omega) L;obtain⟨Jz,Jy,rfl,Jc,Jb,G⟩:=I0.open;obtain⟨b2,o2,rfl,_,dp⟩:=G 0 (by omega);have U:=dp 0 (by omega);have N:=dp q (by omega);rw[List.getElem?_eq_getElem (by omega)]at e1 e2;rw[Option.some.inj e1,Nat.add_zero]at U;rw[Option.some.inj e2]at N;have Je:=ep p.o k 0;have Jd:=ep p.o k q;have IZ:0<A.next[k].length∧q<A.next[k].length:=⟨by omega,by omega⟩
     have a1:=l.o.cell (j:=k) (by omega);have a2:=l.o.cell (j:=nx A k 0) (by omega);have a3:=l.o.cell (j:=nx A k q) (by omega);have f1:=l.o.free k;have Ju:A.acc.length≤400:=p.o.1.2.2.2.1;have PS:=ae (fun h=>Y.o.skip (k:=k) h);have PT:=ae (fun h0 h=>Y.o.turn (k:=k) (by omega) h0 h);rw[←HQ.o]at PS PT;unfold maxLen at Jb;clear IT IS I0 IW G dp e1 e2 I Ja;generalize A.next[k].length=rl at Jc IZ X U N
     generalize nx A k 0=y1 at U Je a2 PS PT;generalize nx A k q=y2 at N Jd a3 PS PT;generalize Jj:f.getD k false=b1 at a1 PS PT;generalize Ji:f.getD y1 false=Jl at a2 PS PT;generalize Jh:f.getD y2 false=b3 at a3 PS PT;have Jw:=ae (l.o.set (j:=k) (by omega) true);have bL:A.next.length=A.next.length:=rfl
     clear Jj Ji Jh bL Jf;obtain⟨a8,aL⟩:=Jn.o;have ch:Hid (k<f.length):=ae (by rw[Y.o.1,dC,y.o.1];exact dZ)
     cases b1 with
     |true=>
      go_wp2_with fail;refine aq (by kernel_rfl) (by kernel_rfl) ?_
      iterate 26 (apply wpQuiet_step;intro K r;(first|(apply aA;rfl;go_simp)|(apply aJ;rfl;intro O a;obtain⟨s1,s2,s3,s4,s5,s6⟩:=xs6 a F U N a1 a2 a3;go_simp;exact rfl;go_simp));refine r _ ?_;clear r K)
      apply wpQuiet_nil;intro w6 u;have gJ:=ae (l.o.keep u trivial);have E:=ae (D.o.trans u fun b _ z=>⟨z,trivial⟩);clear u a1 a2 a3 U N x0 F x2 f1 X;go_wp2_with fail;go_roundw
      case rel=>exact⟨k+1,o,f,rfl,by go_num,by omega,gJ,ae (PS.o (by simp)),E⟩
      case measure=>simp[intOf];omega
     |false=>
      cases Jl with
      |true=>
       go_wp2_with fail;refine aq (by kernel_rfl) (by kernel_rfl) ?_
       iterate 26 (apply wpQuiet_step;intro K r;(first|(apply aA;rfl;go_simp)|(apply aJ;rfl;intro O a;obtain⟨s1,s2,s3,s4,s5,s6⟩:=xs6 a F U N a1 a2 a3;go_simp;exact rfl;go_simp));refine r _ ?_;clear r K)
       apply wpQuiet_nil;intro w6 u;have s:=l.o.keep u trivial;have z1:=s.cell (j:=k) ch.o;have f6:=s.free k;have yx:=ak u F trivial;have gI:=ae (s.set (j:=k) ch.o true);have E:=ae (D.o.trans u fun b _ z=>⟨z,trivial⟩);have V:Keeps (·≠g) w6 (w6.setCell ⟨g,k,none⟩ (.bool true)):=(af (·≠g) w6).setCell (fun hh=>hh.2 rfl) _;have gH:=ae (E.o.tr V);clear V;clear u a1 a2 a3 U N x0 F x2 f1 X s;go_wp2_with fail;go_roundw
       case rel=>exact⟨k+1,true,f.set k true,rfl,by go_num,by omega,gI,ae (PT.o trivial (by simp)),gH⟩
       case measure=>simp[intOf];omega
      |false=>
       cases b3 with
       |true=>
        go_wp2_with fail;refine aq (by kernel_rfl) (by kernel_rfl) ?_
        iterate 26 (apply wpQuiet_step;intro K r;(first|(apply aA;rfl;go_simp)|(apply aJ;rfl;intro O a;obtain⟨s1,s2,s3,s4,s5,s6⟩:=xs6 a F U N a1 a2 a3;go_simp;exact rfl;go_simp));refine r _ ?_;clear r K)
        apply wpQuiet_nil;intro w6 u;have s:=l.o.keep u trivial;have z1:=s.cell (j:=k) ch.o;have f6:=s.free k;have yx:=ak u F trivial;have gI:=ae (s.set (j:=k) ch.o true);have E:=ae (D.o.trans u fun b _ z=>⟨z,trivial⟩);have V:Keeps (·≠g) w6 (w6.setCell ⟨g,k,none⟩ (.bool true)):=(af (·≠g) w6).setCell (fun hh=>hh.2 rfl) _;have gH:=ae (E.o.tr V);clear V;clear u a1 a2 a3 U N x0 F x2 f1 X s;go_wp2_with fail;go_roundw
        case rel=>exact⟨k+1,true,f.set k true,rfl,by go_num,by omega,gI,ae (PT.o trivial (by simp)),gH⟩
        case measure=>simp[intOf];omega
       |false=>
        go_wp2_with fail;refine aq (by kernel_rfl) (by kernel_rfl) ?_
        iterate 26 (apply wpQuiet_step;intro K r;(first|(apply aA;rfl;go_simp)|(apply aJ;rfl;intro O a;obtain⟨s1,s2,s3,s4,s5,s6⟩:=xs6 a F U N a1 a2 a3;go_simp;exact rfl;go_simp));refine r _ ?_;clear r K)
        apply wpQuiet_nil;intro w6 u;have gJ:=ae (l.o.keep u trivial);have E:=ae (D.o.trans u fun b _ z=>⟨z,trivial⟩);clear u a1 a2 a3 U N x0 F x2 f1 X;go_wp2_with fail;go_roundw
        case rel=>exact⟨k+1,o,f,rfl,by go_num,by omega,gJ,ae (PS.o (by simp)),E⟩
        case measure=>simp[intOf];omega
    ·obtain rfl:k=A.next.length:=by omega
     have bL:A.next.length=A.acc.length:=p.o.1.2.2.2.2
     have hp:=Y.o;rw[bL]at hp;have fw:=y.o.next hp
     have fd:=uq l.o;rw[fw.1]at fd;have Jp:=ae fd;clear fd;have HP:=ae hp;have Jr:=ae fw;clear bL hp fw;go_wp2_with fail;go_roundw
     case rel=>exact⟨o,f,rfl,l,Jr,D⟩
     case measure=>
      rw[Jq.o,Jp.o];obtain⟨p1,p2,p3⟩:=HP.o
      cases o with
      |false=>have :=p2 rfl;subst this;simp
      |true=>have :=p3 rfl;simp;omega
end
section
attribute [local irreducible] wpQuiet ax au aQ
variable {R:Ending→World→Prop} {w w':World}
def Px (p mm mt:Nat) (vl:Value):Nat→Prop:=fun b=>b=p∨b=mm∨b=mt∨vl.ownBlock=some b
theorem CF {p d c:Nat} {a:Value} (k:Keeps (fun b=>b≠p∧b≠d∧b≠c∧a.ownBlock≠some b) w w'):Keeps (fun b=>¬Px p d c a b) w w':=
 k.mono fun b _ h=>⟨fun e=>h (.inl e),fun e=>h (.inr (.inl e)),fun e=>h (.inr (.inr (.inl e))),fun e=>h (.inr (.inr (.inr e)))⟩
variable {B x p mm mt:Nat} {vl:Value} {L:List (List Nat)} {n:Int} {G:Nat→Prop}
theorem MaSt.other (h:MaSt w B x p mm mt vl L n G) {b:Nat} {cs:Array Value} {c:TypeId} (a:w.heap[b]?=some (.cells cs c (0,0))) (h1:c≠289) (h2:c≠97) (i:c≠41):¬Px p mm mt vl b:=by
 rintro(rfl|rfl|rfl|e)
 ·rw[h.pool.blk]at a;simp at a;exact h1 a.2.symm
 ·obtain⟨l,k,f,_⟩:=h.pool.map;rw[f]at a;cases a
 ·have :=h.met;unfold MeterAt at this;rw[this]at a;simp at a;exact h2 a.2.symm
 ·obtain⟨vs,d,_⟩:=h.pool.own;obtain⟨_,j,g⟩:=ah d e;rw[g]at a;simp at a;exact i a.2.symm
theorem MaSt.keep2 {S:Nat→Prop} (h:MaSt w B x p mm mt vl L n G) (k:Keeps S w w') (hx:S x) (a:∀b,Px p mm mt vl b→S b) (h2:∀b c,w.heap[b]?=some (.cells c 3 (0,0))→G b→S b):MaSt w' B x p mm mt vl L n G:=
 ⟨k.at h.blk hx,h.pool.keep2 k (a _ (.inl rfl)) (a _ (.inr (.inl rfl))) (fun b d=>a b (.inr (.inr (.inr d)))) h2,k.at h.met (a _ (.inr (.inr (.inl rfl))))⟩
theorem MaSt.mono {G':Nat→Prop} (h:MaSt w B x p mm mt vl L n G) (a:∀b,b<w.heap.size→G b→G' b):MaSt w B x p mm mt vl L n G':=
 ⟨h.blk,⟨h.pool.blk,h.pool.map,h.pool.own.mono a,h.pool.low⟩,h.met⟩
theorem MaSt.lt (h:MaSt w B x p mm mt vl L n G) {b:Nat} (f:Px p mm mt vl b):b<w.heap.size:=by
 rcases f with rfl|rfl|rfl|e
 ·exact am h.pool.blk
 ·obtain⟨j,i,c,_⟩:=h.pool.map;exact am c
 ·exact am h.met
 ·obtain⟨vs,a,_⟩:=h.pool.own;obtain⟨_,g,d⟩:=ah a e;exact am d
theorem OutP.keepM {N o:Nat} {T:Int} {g d:Value} {acc:List Bool} {c:List (List Int)} {S:Nat→Prop} (h:OutP w N o T g d acc c) (k:Keeps S w w') (h1:∀b a t,w.heap[b]?=some (.cells a t (0,0))→(t=166∨t=4∨t=3)→S b) (h2:∀b,d.ownBlock=some b→S b):OutP w' N o T g d acc c:=by
 refine⟨k.at h.blk (h1 _ _ _ h.blk (.inl rfl)),ar h.acc k fun b f=>?_,?_⟩
 ·obtain⟨_,a,e⟩:=ah h.acc f;exact h1 b a _ e (.inr (.inl rfl))
 ·obtain⟨vs,s,r,j⟩:=h.mat;refine⟨vs,ar s k h2,r,fun i u l m q=>(j i u l m q).keep k fun b f=>?_⟩;obtain⟨_,a,e⟩:=ah (j i u l m q) f;exact h1 b a _ e (.inr (.inr rfl))
theorem OutP.same {N o:Nat} {T:Int} {c b:Value} {acc:List Bool} {a:List (List Int)} (h:OutP w N o T c b acc a) (k:Same w w'):OutP w' N o T c b acc a:=h.keepM k (fun _ _ _ _ _=>trivial) fun _ _=>trivial
theorem yR {A:Au} {t:Nat}:∀(l:List Nat),(∀s∈l,s<A.acc.length)→(l.map Int.ofNat).any (gG (iS A t))=l.any fun s=>(cq A t).getD s false
 | [],_=>rfl
 |s::l,h=>by
  have b:=yR (A:=A) (t:=t) l fun x hx=>h x (List.mem_cons_of_mem _ hx);have a:s<(iS A t).acc.length:=by
   show s<(cq A t).length
   have :(cq A t).length=A.acc.length:=gY A t _ _
   rw[this];exact h s (List.mem_cons_self ..)
  rw[List.map_cons,List.any_cons,List.any_cons,b];have :gG (iS A t) (Int.ofNat s)=(cq A t).getD s false:=oh a;rw[this]
structure PrSt (A:Au) (t:Nat) (w2 w6 wr:World) (z5 x p mm mt o:Nat) (i:Nat) (vl ua vn:Value) (L:List (List Nat)) (outs:List (List Nat)):Prop where
 mak:MaSt wr w2.heap.size x p mm mt vl L (401 -(L.length:Int)) fun _=>True
 ot:OutP wr w6.heap.size o (t:Int) ua vn ((L.take i).map fun l=>l.any fun s=>(cq A t).getD s false) (outs.map fun r=>r.map Int.ofNat)
 k2:Keeps (·≠mt) w2 wr
 k6:Keeps (z5≤·) w6 wr
 vlo:∀b,vl.ownBlock=some b→b<z5∨w6.heap.size≤b
 sep:∀b,vl.ownBlock=some b→vn.ownBlock≠some b
 law:cA A t i=(L,outs)
 len:outs.length=i
 good:∀l∈L,GoodS A.acc.length l
structure PjSt (A:Au) (t:Nat) (wg wi:World) (z2 x p mm mt:Nat) (vi:Value) (Li:List (List Nat)) (l:List Nat) (c:Nat) (vl:Value) (L:List (List Nat)) (r:List Nat) (rv:Value):Prop where
 mak:MaSt wi z2 x p mm mt vl L (401 -(L.length:Int)) fun b=>rv.ownBlock≠some b
 row:OwnInts wi wg.heap.size rv (r.map Int.ofNat)
 run:aT id Li ((fR A t l).take c)=(L,r)
 kp:Keeps (fun b=>¬Px p mm mt vi b) wg wi
 vlo:∀b,vl.ownBlock=some b→vi.ownBlock=some b∨wg.heap.size≤b
 good:∀m∈L,GoodS A.acc.length m
theorem PjSt.step {A:Au} {t:Nat} {v u s I:World} {F c id g cap:Nat} {J f j:Value} {V q:List (List Nat)} {l r:List Nat} (h:PjSt A t v u F x p mm mt J V l c vl L r j)
 (U:MaSt s F x p mm mt f q (401 -(q.length:Int)) fun b=>j.ownBlock≠some b) (X:Keeps (fun b=>¬Px p mm mt vl b) u s) (hv:∀b,f.ownBlock=some b→vl.ownBlock=some b∨u.heap.size≤b)
 (y:aT (σ:=List Nat) (κ:=List Nat) _root_.id V ((fR A t l).take (c+1))=(q,r++[id])) (o:∀m∈q,GoodS A.acc.length m)
 (D:OwnInts I v.heap.size (.slice (IQ g 0) (r.length+1) cap) ((r++[id]).map Int.ofNat)) (E:Keeps (fun b=>j.ownBlock≠some b) s I) (Y:j.ownBlock=some g∨s.heap.size≤g):
 PjSt A t v I F x p mm mt J V l (c+1) f q (r++[id]) (.slice (IQ g 0) (r.length+1) cap):=by
 have z:∀b,j.ownBlock=some b→v.heap.size≤b∧b<u.heap.size∧∃a,u.heap[b]?=some (.cells a 3 (0,0)):=fun b d=>by
  obtain⟨h1,a,i⟩:=ah h.row d;exact⟨h1,am i,a,i⟩
 have C:∀b,j.ownBlock=some b→∃a,s.heap[b]?=some (.cells a 3 (0,0)):=fun b d=>by
  obtain⟨_,_,a,i⟩:=z b d;exact⟨a,X.at i (h.mak.other i (by decide) (by decide) (by decide))⟩
 have O:∀b,Px p mm mt f b→j.ownBlock≠some b:=fun b d e=>by
  obtain⟨a,i⟩:=C b e;exact U.other i (by decide) (by decide) (by decide) d
 have N:j.ownBlock≠some x:=fun e=>by
  obtain⟨a,i⟩:=C x e;rw[U.blk]at i;simp at i
 have M:∀b,Px p mm mt vl b→Px p mm mt J b∨v.heap.size≤b:=fun b d=>by
  rcases d with e|e|e|e
  ·exact .inl (.inl e)
  ·exact .inl (.inr (.inl e))
  ·exact .inl (.inr (.inr (.inl e)))
  ·exact(h.vlo b e).imp (fun e=>.inr (.inr (.inr e))) (fun e=>e)
 have T:MaSt s F x p mm mt f q (401 -(q.length:Int)) fun b=>j.ownBlock≠some b∧b≠g:=U.mono fun b d k=>⟨k,fun e=>by
  subst e;rcases Y with e|e
  ·exact k e
  ·omega⟩
 refine⟨(T.keep2 E N O fun b a _ d=>d.1).mono fun b d k e=>?_,D,y,?_,fun b d=>?_,o⟩
 ·simp[Value.ownBlock]at e;exact k.2 e.symm
 ·refine(h.kp.trans X fun b d H=>⟨H,fun Z=>(M b Z).elim H fun e=>by omega⟩).trans E fun b d H=>⟨H,fun e=>by have :=(z b e).1;omega⟩
 ·rcases hv b d with e|e
  ·exact h.vlo b e
  ·exact .inr (Nat.le_trans h.kp.size e)
end
end Go.Proofs.YtojegnbejmeehaaGreatDoor
