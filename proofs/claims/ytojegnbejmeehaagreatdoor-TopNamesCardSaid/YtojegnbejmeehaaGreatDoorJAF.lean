/- Helpers of the proof of TopNames. -/
import Derived.Test.YtojegnbejmeehaaGreatDoorChecked
import Derived.Test.YtojegnbejmeehaaGreatDoorJAD
import Derived.Test.YtojegnbejmeehaaGreatDoorJAE
namespace Go.Proofs.YtojegnbejmeehaaGreatDoor
open Go.RowKit
set_option maxRecDepth 10000
set_option maxHeartbeats 16000000
set_option linter.all false
section
def Nd.val:Nd→Value
 | .leaf v=>.iface 330 (.agg #[v])
 | .fork t lo hi=>.iface 332 (Iy t lo hi)
theorem Aw:(Tryz.prog.info? 330).map (·.comparable)=some true:=by kernel_rfl
theorem Ax:(Tryz.prog.info? 332).map (·.comparable)=some true:=by kernel_rfl
theorem nI {P:Program} {b t:TypeId} {d:Array (String×TypeId)} {x y:Value} {w:World} (e:P.underlying b=some (.interface d)) (g:(P.info? t).map (·.comparable)=some true):
 (Op.equal b (.iface t x) (.iface t y)).run P w=(Op.equalIn 9999 t x y).run P w:=by
 obtain⟨i,f,c⟩:=Option.map_eq_some_iff.1 g
 show(Op.equalIn (9999+1) b (.iface t x) (.iface t y)).run P w=_
 conv=>lhs;unfold Op.equalIn
 simp[run_underlying e,typeInfo,f,c]
theorem kl {P:Program} {b t u:TypeId} {c:Array (String×TypeId)} {x y:Value} {w:World} (d:P.underlying b=some (.interface c)) (e:t≠u):
 (Op.equal b (.iface t x) (.iface u y)).run P w=.ok false w:=by
 show(Op.equalIn (9999+1) b (.iface t x) (.iface u y)).run P w=_
 unfold Op.equalIn;simp[run_underlying d,e]
theorem FJ (x y:Nd) (w:World):(Op.equal 300 x.val y.val).run Tryz.prog w=.ok (decide (x=y)) w:=by
 cases x with
 |leaf v=>cases y with
  |leaf u=>
   refine(nI Tryz.underlying300 Aw).trans ?_;simp[go_sem];by_cases h:v=u<;>simp[h]
  |fork t lo hi=>rw[show Op.equal 300 (Nd.leaf v).val (Nd.fork t lo hi).val=Op.equal 300 (.iface 330 _) (.iface 332 _)from rfl,kl Tryz.underlying300 (by decide)];simp
 |fork t lo hi=>cases y with
  |leaf u=>rw[show Op.equal 300 (Nd.fork t lo hi).val (Nd.leaf u).val=Op.equal 300 (.iface 332 _) (.iface 330 _)from rfl,kl Tryz.underlying300 (by decide)];simp
  |fork t' lo' hi'=>
   refine(nI Tryz.underlying300 Ax).trans ?_;simp[go_sem];by_cases h1:t=t'<;>by_cases h2:lo=lo'<;>by_cases b:hi=hi'<;>simp[h1,h2,b,Int.ofNat_inj]
theorem ue:KeyT Tryz.prog 300 Nd.val where
 find:=ro (fun d _ x y=>by cases x<;>cases d<;>rfl) FJ Tryz.underlying300
 check:=fun b x w=>by cases x<;>(cases b<;>kernel_rfl)
 stays:=fun x w=>by
  unfold Instr.keyThatStays;rw[if_pos]
  ·rfl
  ·cases x
   ·show Instr.sameBits (9998+1+1) (.iface _ (.agg _)) (.iface _ (.agg _))=true
    simp[Instr.sameBits]
   ·show Instr.sameBits (9998+1+1) (.iface _ (.agg _)) (.iface _ (.agg _))=true
    simp[Instr.sameBits]
def iM (L:List Nd):List (Nd×Value):=L.zipIdx.map fun p=>(p.1,.int .i64 (p.2:Int))
theorem pj (n:Nd):∀(L:List Nd) (i:Nat),((L.zipIdx i).map fun p=>(p.1,Value.int .i64 (p.2:Int))).lookup n=if n∈L then some (.int .i64 ((i+L.idxOf n:Nat):Int))else none
 | [],_=>by simp
 |x::L,i=>by
  by_cases h:n=x
  ·subst h;simp
  ·have h1:(n==x)=false:=by simpa using h
   have h2:(x==n)=false:=by simpa using fun e=>h e.symm
   simp only[List.zipIdx_cons,List.map_cons,List.lookup,h1,pj n L (i+1),List.mem_cons,h,false_or,List.idxOf_cons,h2];simp[Nat.add_assoc,Nat.add_comm 1]
theorem jq (n:Nd) (L:List Nd):(iM L).lookup n=if n∈L then some (.int .i64 ((L.idxOf n:Nat):Int))else none:=by
 have :=pj n L 0
 simpa [iM]using this
theorem sj (L:List Nd) (n:Nd):iM (L++[n])=iM L++[(n,.int .i64 (L.length:Int))]:=by
 simp[iM,List.zipIdx_append]
structure StoreAt (w:World) (a:Nat) (T:Nat) (L:List Nd):Prop where
 wf:WF T L
 st:∃v m,w.heap[a]?=some (.cells #[T,v,.map (some m)] 231)∧w.ownsRow 0 300 1 v L.length (L.map Nd.val)∧MapAt Nd.val w m (iM L)
def de (w:World) (a b:Nat):Prop:=b=a∨∃t v m,w.heap[a]?=some (.cells #[t,v,.map (some m)] 231)∧(b=m∨v.ownBlock=some b)
structure Grew (a:Nat) (w w':World):Prop where
 keeps:Keeps (fun b=>¬de w a b) w w'
 foot:∀b,de w' a b→de w a b∨w.heap.size≤b
theorem Grew.refl (a:Nat) (w:World):Grew a w w:=⟨af _ _,fun _ h=>.inl h⟩
theorem Grew.trans {a:Nat} {w d c:World} (h:Grew a w d) (k:Grew a d c):Grew a w c:=
 ⟨h.keeps.trans k.keeps fun x hx e=>⟨e,fun f=>(h.foot x f).elim e (by omega)⟩,
  fun b g=>(k.foot b g).elim (fun h1=>h.foot b h1) fun h1=>.inr (Nat.le_trans h.keeps.size h1)⟩
theorem dO {a:Nat} {w c:World} (h:c.heap[a]?=w.heap[a]?) (b:Nat):de c a b↔de w a b:=by
 unfold de;rw[h]
theorem Grew.of_same {a:Nat} {w c:World} {o:Obj} (h:w.heap[a]?=some o) (k:Same w c):Grew a w c:=
 ⟨k.mono fun _ _ _=>trivial,fun b d=>.inl ((dO ((k.at h trivial).trans h.symm) b).1 d)⟩
theorem Grew.below {a B:Nat} {w c:World} (h:Grew a w c) (e:∀b,de w a b→B≤b):Keeps (·<B) w c:=
 h.keeps.mono fun x _ hx d=>by have :=e x d;omega
theorem Grew.footB {a B:Nat} {w c:World} (h:Grew a w c) (d:∀b,de w a b→B≤b) (f:B≤w.heap.size):∀b,de c a b→B≤b:=
 fun b e=>(h.foot b e).elim (d b) fun h1=>Nat.le_trans f h1
theorem fI {w:World} {a b T:Nat} {L:List Nd} {cs:Array Value} {t:TypeId} {j:Nat×Nat} (h:StoreAt w a T L) (c:w.heap[b]?=some (.cells cs t j)) (h1:t≠231) (h2:t≠300):¬de w a b:=by
 obtain⟨v,m,f,l,s,o,k,_⟩:=h.st;rintro(rfl|⟨q,p,r,e,d⟩)
 ·rw[f]at c;simp at c;exact h1 c.2.1.symm
 ·rw[f]at e;simp only[Option.some.injEq,Obj.cells.injEq,Array.mk.injEq,List.cons.injEq,Value.map.injEq]at e;obtain⟨⟨_,rfl,rfl,_⟩,_⟩:=e;rcases d with rfl|d
  ·rw[k]at c;cases c
  ·rcases l.2 with⟨rfl,_⟩|⟨g,cap,n,rfl,_,i,_⟩
   ·simp[Value.ownBlock]at d
   ·simp[Value.ownBlock]at d;subst d;rw[i]at c;simp at c;exact h2 c.2.1.symm
theorem StoreAt.same {w d:World} {a T:Nat} {L:List Nd} (h:StoreAt w a T L) (k:Same w d):StoreAt d a T L:=by
 obtain⟨v,m,n,e,l⟩:=h.st;refine⟨h.wf,v,m,k.at n trivial,?_,l.keep k trivial⟩;refine⟨e.1,?_⟩;rcases e.2 with j|⟨g,cap,c,rfl,i,f,b⟩
 ·exact .inl j
 ·exact .inr ⟨g,cap,c,rfl,i,k.at f trivial,b⟩
theorem StoreAt.keep {S:Nat→Prop} {w f:World} {a T:Nat} {L:List Nd} (h:StoreAt w a T L) (k:Keeps S w f) (hs:∀b,de w a b→S b):StoreAt f a T L:=by
 obtain⟨v,m,d,i,o⟩:=h.st;refine⟨h.wf,v,m,k.at d (hs _ (.inl rfl)),?_,o.keep k (hs _ (.inr ⟨_,_,_,d,.inl rfl⟩))⟩;refine⟨i.1,?_⟩;rcases i.2 with n|⟨g,cap,e,rfl,l,j,c⟩
 ·exact .inl n
 ·exact .inr ⟨g,cap,e,rfl,l,k.at j (hs _ (.inr ⟨_,_,_,d,.inr rfl⟩)),c⟩
variable {R:Ending→World→Prop} {w:World} {a T:Nat} {L:List Nd}
theorem tG (h:StoreAt w a T L) (f:∀e,e=.returned (IP (L.length:Int))→R e w):Calls Tryz.prog 257 #[.pointer (IQ a 0)] w R:=by
 have d:=ae f;clear f;obtain⟨v,m,c,b,i⟩:=h.st;have k:w.cell? ⟨a,1,none⟩=some v:=ai c 1;rcases b.2 with⟨rfl,h0⟩|⟨g,cap,j,rfl,_⟩
 ·rw[h0]at d;clear c b i h h0;go_enter Tryz.func257,Tryz.ntmps257;go_wp2_with fail;exact d.o _ rfl
 ·clear c b i h;go_enter Tryz.func257,Tryz.ntmps257;go_wp2_with fail;exact d.o _ rfl
theorem dh (h:StoreAt w a T L) (b:∀e,e=.returned (IP (T:Int))→R e w):Calls Tryz.prog 117 #[.pointer (IQ a 0)] w R:=by
 have d:=ae b;clear b;obtain⟨v,m,c,_⟩:=h.st;have f:w.cell? ⟨a,0,none⟩=some (.int .i64 T):=ai c 0;clear c h;go_enter Tryz.func117,Tryz.ntmps117;go_wp2_with fail;exact d.o _ rfl
theorem dF (h:StoreAt w a T L) (i:Int) (b:∀e,e=.returned (.bool (decide (0≤i)&&decide (i<L.length)))→R e w):
 Calls Tryz.prog 223 (Ia (IL a) i) w R:=by
 have c:=ae b;clear b;by_cases h0:0≤i
 ·go_enter Tryz.func223,Tryz.ntmps223;go_wp2_with fail;refine tG h ?_;rintro e rfl;go_wp2_with fail;exact c.o _ (be (by simp[h0]))
 ·go_enter Tryz.func223,Tryz.ntmps223;go_wp2_with fail;exact c.o _ (be (by simp;omega))
theorem sf (i:Int) (b:∀e,e=.returned (.bool (decide (0≤i)&&decide (i≤1099511627776)))→R e w):
 Calls Tryz.prog 249 #[IP i] w R:=by
 have c:=ae b;clear b;by_cases h0:0≤i
 ·go_enter Tryz.func249,Tryz.ntmps249;go_wp2_with fail;exact c.o _ (be (by simp[h0]))
 ·go_enter Tryz.func249,Tryz.ntmps249;go_wp2_with fail;exact c.o _ (be (by simp;omega))
end
section
variable {R:Ending→World→Prop} {w:World} {a T:Nat} {L:List Nd}
theorem zT:(Tryz.prog.info? 300).map (fun i=>(i.zero,i.size,i.bytes))=some (some .nilIface,1,16):=by kernel_rfl
theorem gB (w:World):(zeroValue 3).run Tryz.prog w=.ok IU w:=by kernel_rfl
theorem Nd.val_oneCell (n:Nd):n.val.oneCell'=true:=by cases n<;>rfl
theorem yg (h:StoreAt w a T L) (n:Nd) (X:NdOk T L L.length n) (hb:L.length<1099511627776)
 (hR:∀e M,e=.returned (IP ((fs L n).2:Nat))→StoreAt M a T (fs L n).1→Grew a w M→R e M):
 Calls Tryz.prog 292 #[.pointer (IQ a 0),n.val] w R:=by
 have J:=ae hR;clear hR;obtain⟨v,m,j,C,e3⟩:=h.st;have c2:w.cell? ⟨a,2,none⟩=some (.map (some m)):=ai j 2;have z:=b8 ue Tryz.underlying229 (gB w) e3 n;rw[jq]at z;by_cases o:n∈L
 ·rw[if_pos o]at z;simp only[Option.getD_some,Option.isSome_some]at z;rw[jx o]at J;have H:=ae h;clear j C e3 h X;go_enter Tryz.func292,Tryz.ntmps292;go_wp2_with fail;exact J.o _ _ rfl H.o (Grew.refl _ _)
 ·rw[if_neg o]at z;simp only[Option.getD_none,Option.isSome_none]at z;rw[jw o]at J;obtain⟨q,cap,hv⟩:∃q cap,v=.slice q L.length cap:=by
   rcases C.2 with⟨h1,h2⟩|⟨g,cap,k,h1,_⟩
   ·exact⟨none,0,by rw[h1,h2]⟩
   ·exact⟨_,cap,h1⟩
  subst hv;have c1:w.cell? ⟨a,1,none⟩=some (.slice q L.length cap):=ai j 1;obtain⟨g,c,F,U,l,f,d,_⟩:=bi (P:=Tryz.prog) w 228 228 300 Tryz.underlying228 zT rfl C (Nat.zero_le _) n.val n.val_oneCell (by omega) (by decide);have E:(Value.slice q L.length cap).ownBlock≠some a:=by
   intro hx;rcases C.2 with⟨h1,_⟩|⟨g,p,k,h1,_,d,_⟩
   ·rw[h1]at hx;simp[Value.ownBlock]at hx
   ·rw[h1]at hx;simp[Value.ownBlock]at hx;subst hx;rw[j]at d;simp at d
  have A:=f.at j E;have g1:F.cell? ⟨a,1,none⟩=some (.slice q L.length cap):=ai A 1;have g2:F.cell? ⟨a,2,none⟩=some (.map (some m)):=ai A 2;have z1:F.frozen? ⟨a,1,none⟩=false:=ao A 1;obtain⟨es,aH,B,e5⟩:=e3;have u:(Value.slice q L.length cap).ownBlock≠some m:=by
   intro hx;rcases C.2 with⟨h1,_⟩|⟨g,p,k,h1,_,d,_⟩
   ·rw[h1]at hx;simp[Value.ownBlock]at hx
   ·rw[h1]at hx;simp[Value.ownBlock]at hx;subst hx;rw[B]at d;cases d
  have y:m≠a:=by rintro rfl;rw[j]at B;cases B
  have m2:MapAt Nd.val (F.setCell ⟨a,1,none⟩ (.slice (IQ g 0) (L.length+1) c)) m (iM L):=⟨es,aH,(aS y 1 _).trans (f.at B u),e5⟩;obtain⟨w2,O,m3,G⟩:=aR ue Tryz.underlying229 m2 n (IP (L.length:Int)) (by rw[jq,if_neg o]);have N:=G.at (aj A 1 (.slice (IQ g 0) (L.length+1) c)) (Ne.symm y);have HF:Hid (StoreAt w2 a T (L++[n])∧Grew a w w2):=by
   obtain⟨V,s⟩:=l;rcases s with⟨h1,_⟩|⟨g',p,k,h1,_,i,r⟩
   ·simp at h1
   ·simp only[Value.slice.injEq,Option.some.injEq,Addr.mk.injEq,and_true,true_and]at h1;obtain⟨rfl,rfl⟩:=h1;have Z:g≠a:=by rintro rfl;rw[A]at i;simp at i
    have Y:g≠m:=by
     rintro rfl;have :=f.at B u;rw[this]at i;cases i
    have D:=G.at ((aS Z 1 (.slice (IQ g 0) (L.length+1) c)).trans i) Y;refine⟨⟨h.wf.snoc X o,_,m,by simpa using N,⟨by simp,.inr ⟨g,c,k,by simp,Nat.zero_le _,D,by simpa using r⟩⟩,by rw[sj];exact m3⟩,?_,?_⟩
    ·refine(f.trans (S':=fun b=>b≠a∧b≠m) ((Keeps.setCell (af _ _) (by simp) _).trans G fun x _ hx=>⟨hx,hx.2⟩) fun x hx t=>?_);have q1:x≠a:=fun e=>t (.inl e);have q2:x≠m:=fun e=>t (.inr ⟨_,_,_,j,.inl e⟩);have q3:(Value.slice q L.length cap).ownBlock≠some x:=fun e=>t (.inr ⟨_,_,_,j,.inr e⟩);exact⟨q3,q1,q2⟩
    ·intro b hb;rcases hb with rfl|⟨t',v',m',e6,I⟩
     ·exact .inl (.inl rfl)
     ·rw[N]at e6;simp at e6;obtain⟨_,rfl,rfl⟩:=e6;rcases I with rfl|I
      ·exact .inl (.inr ⟨_,_,_,j,.inl rfl⟩)
      ·simp[Value.ownBlock]at I;subst I;rcases d with d|d
       ·exact .inl (.inr ⟨_,_,_,j,.inr d⟩)
       ·exact .inr d
  have HM:=ae o;clear h j C B e5 l f E u m2 m3 G A N X o hb y d
  cases n
  all_goals
   simp only[Nd.val]at z U O⊢;go_enter Tryz.func292,Tryz.ntmps292
   go_wp2_with (at_builtin;refine ap rfl _ _ _ rfl rfl rfl U ?_;clear U)
   exact J.o _ _ rfl HF.o.1 HF.o.2
theorem vG (x:Value) (w:World):(Instr.typeAssert (.iface 332 x) 300 332 true).run Tryz.prog w=.ok (.tuple (Id x true)) w:=by kernel_rfl
theorem vF (x:Value) (w:World):(Instr.typeAssert (.iface 330 x) 300 332 true).run Tryz.prog w=.ok (.tuple (Id (Iy 0 0 0) false)) w:=by kernel_rfl
attribute [go_sem] vG vF
theorem StoreAt.node (h:StoreAt w a T L):∃d cap,w.cell? ⟨a,1,none⟩=some (.slice d L.length cap)∧w.cell? ⟨a,0,none⟩=some (.int .i64 T)∧L.length≤cap∧cap≤maxLen∧
 ∀k (_:k<L.length),∃g,d=some ⟨g,0,none⟩∧∀i n,L[i]?=some n→w.cell? ⟨g,i,none⟩=some n.val:=by
 obtain⟨v,m,b,p,r⟩:=h.st;rcases p.2 with⟨rfl,h0⟩|⟨g,cap,c,rfl,_,o,h1,h2,q,f⟩
 ·refine⟨none,0,?_,ai b 0,by omega,by unfold maxLen;omega,fun k j=>by omega⟩;rw[h0];exact ai b 1
 ·refine⟨_,cap,ai b 1,ai b 0,h1,h2,fun k j=>⟨g,rfl,fun i n e=>?_⟩⟩;rw[ai o];rw[Nat.mul_one]at f;have l:=(List.getElem?_eq_some_iff.1 e).1;have :(c.toList.take L.length)[i]?=some n.val:=by rw[f];simp[e]
  rw[List.getElem?_take,if_pos l]at this
  simpa using this
def fe (L:List Nd) (i t:Int):Bool:=
 decide (0≤i)&&decide (i<L.length)&&(match L[i.toNat]? with |some (.fork u _ _)=>decide (t<u)|_=>true)
theorem iG {i t:Nat}:fe L i t=true↔Under L i t:=by
 unfold fe Under;by_cases h:i<L.length
 ·simp only[h,Bool.and_eq_true,decide_eq_true_eq,Int.toNat_natCast,true_and];obtain⟨n,b⟩:∃n,L[i]?=some n:=⟨_,List.getElem?_eq_getElem h⟩;rw[b]
  cases n with
  |leaf v=>simp;omega
  |fork u lo hi=>simp;omega
 ·simp[h]
theorem eQ (h:StoreAt w a T L) (i t:Int) (p:∀e j,e=.returned (.bool (fe L i t))→Same w j→R e j):
 Calls Tryz.prog 293 (Il (IL a) i t) w R:=by
 have d:=ae p;clear p;by_cases o:0≤i∧i<L.length
 ·obtain⟨k,rfl⟩:=Int.eq_ofNat_of_zero_le o.1;have f:k<L.length:=by omega
  obtain⟨s,cap,x,y,z,r,m⟩:=h.node;obtain⟨g,rfl,l⟩:=m k f;obtain⟨n,c⟩:∃n,L[k]?=some n:=⟨_,List.getElem?_eq_getElem f⟩;have q:=l k n c;unfold maxLen at r;have H:=ae h;have b:fe L k t=(match L[k]? with |some (.fork u _ _)=>decide (t<(u:Int))|_=>true):=by unfold fe;rw[Int.toNat_natCast];simp[f]
  rw[c]at b;clear h m l c
  cases n with
  |leaf v=>
   simp only[Nd.val]at q;simp only[]at b;rw[b]at d;clear b;go_enter Tryz.func293,Tryz.ntmps293;go_wp2_with fail;refine dF H.o _ ?_;rintro e rfl;rw[show(decide (0≤(k:Int))&&decide ((k:Int)<L.length))=true by simp;omega];go_wp2_with fail;exact d.o _ _ rfl ((af _ _).alloc _)
  |fork u lo o=>
   simp only[Nd.val]at q;simp only[]at b;rw[b]at d;clear b;go_enter Tryz.func293,Tryz.ntmps293;go_wp2_with fail;refine dF H.o _ ?_;rintro e rfl;rw[show(decide (0≤(k:Int))&&decide ((k:Int)<L.length))=true by simp;omega];go_wp2_with fail;exact d.o _ _ rfl ((af _ _).alloc _)
 ·go_enter Tryz.func293,Tryz.ntmps293;go_wp2_with fail;refine dF h _ ?_;rintro e rfl;rw[show(decide (0≤i)&&decide (i<L.length))=false by simp;omega];go_wp2_with fail;refine d.o _ _ (be ?_) (af _ _);unfold fe;simp;omega
end
section
variable {R:Ending→World→Prop} {w:World} {a T:Nat} {L:List Nd}
theorem tF (t:Int) (h0:0≤t) (p:t≤6) (h:∀e c b,e=.returned (IL b)→StoreAt c b t.toNat []→Same w c→(∀x,de c b x→w.heap.size≤x)→R e c):
 Calls Tryz.prog 215 #[IP t] w R:=by
 have l:=ae h;clear h;have i:=@run_makeMap Tryz.prog;obtain⟨T,rfl⟩:=Int.eq_ofNat_of_zero_le h0;go_enter Tryz.func215,Tryz.ntmps215;go_wp2_with fail;have g:=ag (w.alloc (.map #[] 0)) (.cells #[T,IM,.map (some w.heap.size)] 231);have k:=aw (ag w (.map #[] 0)) (.cells #[T,IM,.map (some w.heap.size)] 231);have j:(w.alloc (.map #[] 0)).heap.size=w.heap.size+1:=by simp
 rw[j]at g;refine l.o _ _ (w.heap.size+1) (by simp) ⟨WF.nil (by omega),_,_,g,World.ownsRow_nil _ _ _ _,_,_,k,rfl⟩ (((af _ _).alloc _).alloc _) ?_;rintro x (rfl|⟨n,m,o,f,d⟩)
 ·omega
 ·rw[g]at f;simp at f;obtain⟨_,rfl,rfl⟩:=f;rcases d with rfl|d
  ·omega
  ·simp[Value.ownBlock]at d
def fW (L:List Nd) (v:Int):List Nd×Int:=
 if 0≤v∧v≤1099511627776 then((fs L (.leaf v)).1,((fs L (.leaf v)).2:Int))else(L,-1)
theorem qC (h:StoreAt w a T L) (v:Int) (g:L.length<1099511627776)
 (d:∀e c,e=.returned (IP (fW L v).2)→StoreAt c a T (fW L v).1→Grew a w c→R e c):
 Calls Tryz.prog 270 (Ia (IL a) v) w R:=by
 have b:=ae d;clear d;by_cases hv:0≤v∧v≤1099511627776
 ·have e:fW L v=((fs L (.leaf v)).1,((fs L (.leaf v)).2:Int)):=if_pos hv;rw[e]at b;clear e;go_enter Tryz.func270,Tryz.ntmps270;go_wp2_with fail;refine sf v ?_;rintro e rfl;rw[show(decide (0≤v)&&decide (v≤1099511627776))=true by simp[hv]];go_wp2_with fail;refine yg h (.leaf v) hv g ?_;rintro e j rfl f i;go_wp2_with fail;exact b.o _ _ rfl f i
 ·have e:fW L v=(L,-1):=if_neg hv;rw[e]at b;clear e;have H:=ae hv;clear hv;go_enter Tryz.func270,Tryz.ntmps270;go_wp2_with fail;refine sf v ?_;rintro e rfl;rw[show(decide (0≤v)&&decide (v≤1099511627776))=false by have :=H.o;simp;omega];go_wp2_with fail;exact b.o _ _ rfl h (Grew.refl _ _)
def mkA (T:Nat) (L:List Nd) (t lo hi:Int):List Nd×Int:=
 if t<0∨T≤t∨fe L lo t=false∨fe L hi t=false then(L,-1)
 else if lo=hi then(L,lo)else((fs L (.fork t.toNat lo.toNat hi.toNat)).1,((fs L (.fork t.toNat lo.toNat hi.toNat)).2:Int))
theorem ku {i t:Int} (h:fe L i t=true):0≤i∧i<L.length:=by
 unfold fe at h;simp only[Bool.and_eq_true,decide_eq_true_eq]at h;exact h.1
theorem Grew.under (h:StoreAt w a T L) {b:World} (k:Same w b):Grew a w b:=by
 obtain⟨v,m,e,_⟩:=h.st;exact Grew.of_same e k
def cD:=@Grew.under
theorem yf (h:StoreAt w a T L) (t b c:Int) (v:L.length<1099511627776)
 (s:∀e p,e=.returned (IP (mkA T L t b c).2)→StoreAt p a T (mkA T L t b c).1→Grew a w p→R e p):
 Calls Tryz.prog 271 #[.pointer (IQ a 0),IP t,IP b,IP c] w R:=by
 have f:=ae s;clear s;by_cases h1:t<0
 ·rw[show mkA T L t b c=(L,-1)from if_pos (.inl h1)]at f;go_enter Tryz.func271,Tryz.ntmps271;go_wp2_with fail;exact f.o _ _ rfl h (Grew.refl _ _)
 by_cases h2:T≤t
 ·rw[show mkA T L t b c=(L,-1)from if_pos (.inr (.inl h2))]at f;go_enter Tryz.func271,Tryz.ntmps271;go_wp2_with fail;refine dh h ?_;rintro e rfl;go_wp2_with fail;exact f.o _ _ rfl h (Grew.refl _ _)
 cases g:fe L b t with
 |false=>
  rw[show mkA T L t b c=(L,-1)from if_pos (.inr (.inr (.inl g)))]at f;have l:=ae g;clear g;go_enter Tryz.func271,Tryz.ntmps271;go_wp2_with fail;refine dh h ?_;rintro e rfl;go_wp2_with fail;refine eQ h b t ?_;rintro e o rfl d;rw[l.o];go_wp2_with fail;exact f.o _ _ rfl (h.same d) (cD h d)
 |true=>
  cases i:fe L c t with
  |false=>
   rw[show mkA T L t b c=(L,-1)from if_pos (.inr (.inr (.inr i)))]at f;have l:=ae g;have n:=ae i;clear g i;go_enter Tryz.func271,Tryz.ntmps271;go_wp2_with fail;refine dh h ?_;rintro e rfl;go_wp2_with fail;refine eQ h b t ?_;rintro e o rfl d;rw[l.o];go_wp2_with fail;refine eQ (h.same d) c t ?_;rintro e r rfl k;rw[n.o];go_wp2_with fail;exact f.o _ _ rfl ((h.same d).same k) (cD h (d.tr k))
  |true=>
   have A:=ku g;have z:=ku i;have j:¬(t<0∨(T:Int)≤t∨fe L b t=false∨fe L c t=false):=by simp[g,i];omega
   by_cases m:b=c
   ·rw[show mkA T L t b c=(L,b) by unfold mkA;rw[if_neg j,if_pos m]]at f;have l:=ae g;have n:=ae i;have x:(b==c)=true:=by simpa using m
    clear g i j m;go_enter Tryz.func271,Tryz.ntmps271;go_wp2_with fail;refine dh h ?_;rintro e rfl;go_wp2_with fail;refine eQ h b t ?_;rintro e o rfl d;rw[l.o];go_wp2_with fail;refine eQ (h.same d) c t ?_;rintro e r rfl k;rw[n.o];go_wp2_with fail;exact f.o _ _ rfl ((h.same d).same k) (cD h (d.tr k))
   ·rw[show mkA T L t b c=((fs L (.fork t.toNat b.toNat c.toNat)).1,((fs L (.fork t.toNat b.toNat c.toNat)).2:Int)) by unfold mkA;rw[if_neg j,if_neg m]]at f;have x:(b==c)=false:=by simpa using m
    obtain⟨t,rfl⟩:=Int.eq_ofNat_of_zero_le (show 0≤t by omega);obtain⟨b,rfl⟩:=Int.eq_ofNat_of_zero_le A.1;obtain⟨c,rfl⟩:=Int.eq_ofNat_of_zero_le z.1;simp only[Int.toNat_natCast]at f;have q:NdOk T L L.length (.fork t b c):=⟨by omega,by omega,by omega,by omega,iG.1 g,iG.1 i⟩;have l:=ae g;have n:=ae i;clear g i j m;go_enter Tryz.func271,Tryz.ntmps271;go_wp2_with fail;refine dh h ?_;rintro e rfl;go_wp2_with fail;refine eQ h b t ?_;rintro e o rfl d;rw[l.o];go_wp2_with fail;refine eQ (h.same d) c t ?_;rintro e r rfl k;rw[n.o];go_wp2_with fail;refine yg ((h.same d).same k) (.fork t b c) q v ?_;rintro e B rfl u y;go_wp2_with fail;exact f.o _ _ rfl u ((cD h (d.tr k)).trans y)
def bh (L:List Nd) (i:Int):Int:=
 if 0≤i∧i<L.length then(match L[i.toNat]? with |some (.fork u _ _)=>(u:Int)|_=>-1)else -2
def jv (L:List Nd) (i:Int):Int×Int:=
 if 0≤i∧i<L.length then(match L[i.toNat]? with |some (.fork _ lo hi)=>((lo:Int),(hi:Int))|_=>(-1,-1))else(-1,-1)
theorem kO (h:StoreAt w a T L) (i:Int) (p:∀e j,e=.returned (IP (bh L i))→Same w j→R e j):
 Calls Tryz.prog 310 (Ia (IL a) i) w R:=by
 have c:=ae p;clear p;by_cases d:0≤i∧i<L.length
 ·obtain⟨k,rfl⟩:=Int.eq_ofNat_of_zero_le d.1;have o:k<L.length:=by omega
  obtain⟨s,cap,t,x,y,r,m⟩:=h.node;obtain⟨g,rfl,l⟩:=m k o;obtain⟨n,b⟩:∃n,L[k]?=some n:=⟨_,List.getElem?_eq_getElem o⟩;have q:=l k n b;unfold maxLen at r;have H:=ae h;have f:bh L k=(match L[k]? with |some (.fork u _ _)=>(u:Int)|_=>-1):=by unfold bh;rw[if_pos d,Int.toNat_natCast]
  rw[b]at f;rw[f]at c;clear h m l b f
  cases n with
  |leaf v=>
   simp only[Nd.val]at q;simp only[]at c;go_enter Tryz.func310,Tryz.ntmps310;go_wp2_with fail;refine dF H.o _ ?_;rintro e rfl;rw[show(decide (0≤(k:Int))&&decide ((k:Int)<L.length))=true by simp;omega];go_wp2_with fail;exact c.o _ _ rfl ((af _ _).alloc _)
  |fork u lo d=>
   simp only[Nd.val]at q;simp only[]at c;go_enter Tryz.func310,Tryz.ntmps310;go_wp2_with fail;refine dF H.o _ ?_;rintro e rfl;rw[show(decide (0≤(k:Int))&&decide ((k:Int)<L.length))=true by simp;omega];go_wp2_with fail;exact c.o _ _ rfl ((af _ _).alloc _)
 ·rw[show bh L i=-2 from if_neg d]at c;go_enter Tryz.func310,Tryz.ntmps310;go_wp2_with fail;refine dF h _ ?_;rintro e rfl;rw[show(decide (0≤i)&&decide (i<L.length))=false by simp;omega];go_wp2_with fail;exact c.o _ _ rfl (af _ _)
theorem zf (h:StoreAt w a T L) (i:Int) (q:∀e j,e=.returned (.tuple (It (jv L i).1 (jv L i).2))→Same w j→R e j):
 Calls Tryz.prog 311 (Ia (IL a) i) w R:=by
 have c:=ae q;clear q;by_cases d:0≤i∧i<L.length
 ·obtain⟨k,rfl⟩:=Int.eq_ofNat_of_zero_le d.1;have p:k<L.length:=by omega
  obtain⟨t,cap,x,y,z,s,o⟩:=h.node;obtain⟨g,rfl,m⟩:=o k p;obtain⟨n,b⟩:∃n,L[k]?=some n:=⟨_,List.getElem?_eq_getElem p⟩;have r:=m k n b;unfold maxLen at s;have H:=ae h;have f:jv L k=(match L[k]? with |some (.fork _ l d)=>((l:Int),(d:Int))|_=>(-1,-1)):=by unfold jv;rw[if_pos d,Int.toNat_natCast]
  rw[b]at f;rw[f]at c;clear h o m b f
  cases n with
  |leaf v=>
   simp only[Nd.val]at r;simp only[]at c;go_enter Tryz.func311,Tryz.ntmps311;go_wp2_with fail;refine dF H.o _ ?_;rintro e rfl;rw[show(decide (0≤(k:Int))&&decide ((k:Int)<L.length))=true by simp;omega];go_wp2_with fail;exact c.o _ _ rfl ((af _ _).alloc _)
  |fork u l d=>
   simp only[Nd.val]at r;simp only[]at c;go_enter Tryz.func311,Tryz.ntmps311;go_wp2_with fail;refine dF H.o _ ?_;rintro e rfl;rw[show(decide (0≤(k:Int))&&decide ((k:Int)<L.length))=true by simp;omega];go_wp2_with fail
   go_quiet (fail)
   go_wp2_with fail;exact c.o _ _ rfl (((af _ _).alloc _).drewN _)
 ·rw[show jv L i=(-1,-1)from if_neg d]at c;go_enter Tryz.func311,Tryz.ntmps311;go_wp2_with fail;refine dF h _ ?_;rintro e rfl;rw[show(decide (0≤i)&&decide (i<L.length))=false by simp;omega];go_wp2_with fail;exact c.o _ _ rfl (af _ _)
end
end Go.Proofs.YtojegnbejmeehaaGreatDoor
