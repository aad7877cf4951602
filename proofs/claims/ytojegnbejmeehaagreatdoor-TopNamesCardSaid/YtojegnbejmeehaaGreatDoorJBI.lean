/- Helpers of the proof of TopNames. -/
import Derived.Lib.SlicesCompact
import Derived.Lib.ItoaNum
import Derived.Lib.AppendStr
import Derived.Lib.ItoaWalk
import Derived.Lib.Strings
import Derived.Test.YtojegnbejmeehaaGreatDoorJAP
import Derived.Test.YtojegnbejmeehaaGreatDoorJBH
namespace Go.Proofs.YtojegnbejmeehaaGreatDoor
open Go.RowKit
set_option maxRecDepth 10000
set_option maxHeartbeats 16000000
set_option linter.all false
section
def nx (A:Au) (s c:Nat):Nat:=((A.next.getD s []).getD c 0).toNat
def ac (A:Au) (s:Nat):Bool:=A.acc.getD s false
def bS (A:Au) (s:Nat):List Nat:=(List.range (2^A.T.toNat)).map (nx A s)
def j0 (A:Au) (s:Nat) (l:List Nat):Nat:=l.foldl (nx A) s
def sig (A:Au) (cls:List Nat) (s:Nat):Nat×List Nat:=(cls.getD s 0,(bS A s).map fun t=>cls.getD t 0)
def cK (A:Au):Nat→List Nat
 |0=>dP A.acc
 |k+1=>dP ((List.range A.acc.length).map (sig A (cK A k)))
def it (A:Au):Nat→Nat
 |0=>(nub A.acc).length
 |k+1=>(nub ((List.range A.acc.length).map (sig A (cK A k)))).length
def ff (A:Au):List Nat:=cK A A.acc.length
def nQ (A:Au):List Nat×List (List Nat):=bfs (bS A) (fun s=>(ff A).getD s 0) 0 A.acc.length
def dV (A:Au):Au:=⟨A.T,(nQ A).1.map (ac A),(nQ A).2.map fun r=>r.map Int.ofNat⟩
variable {A B:Au}
theorem ep (h:AuOk A) (s c:Nat):nx A s c<A.acc.length:=by
 have h1:=h.1.2.2.1;unfold nx;by_cases hs:s<A.next.length
 ·have b:=h.2 _ (List.getElem_mem hs);rw[show A.next.getD s []=A.next[s] by simp[List.getD,List.getElem?_eq_getElem hs]];by_cases a:c<(A.next[s]).length
  ·have :=b.2 _ (List.getElem_mem a);rw[show(A.next[s]).getD c 0=(A.next[s])[c] by simp[List.getD,List.getElem?_eq_getElem a]];omega
  ·rw[show(A.next[s]).getD c 0=0 by simp[List.getD,List.getElem?_eq_none (Nat.le_of_not_lt a)]];omega
 ·rw[show A.next.getD s []=[] by simp[List.getD,List.getElem?_eq_none (Nat.le_of_not_lt hs)]];simp;omega
theorem eW (A:Au) (s:Nat):(bS A s).length=2^A.T.toNat:=by simp[bS]
theorem fE {s c:Nat} (a:c<2^A.T.toNat):(bS A s)[c]?=some (nx A s c):=by
 unfold bS;rw[List.getElem?_map,List.getElem?_range a];rfl
theorem yk (h:AuOk A) {s t:Nat} (a:t∈bS A s):t<A.acc.length:=by
 obtain⟨c,_,rfl⟩:=List.mem_map.1 a;exact ep h s c
theorem dk (A:Au):∀k,(cK A k).length=A.acc.length
 |0=>dU _
 |k+1=>by unfold cK;rw[dU];simp
theorem yi {cls:List Nat} {i j:Nat}:sig A cls i=sig A cls j↔cls.getD i 0=cls.getD j 0∧∀c,c<2^A.T.toNat→cls.getD (nx A i c) 0=cls.getD (nx A j c) 0:=by
 unfold sig bS;rw[Prod.mk.injEq,List.map_map,List.map_map];constructor
 ·rintro⟨h1,h2⟩;refine⟨h1,fun c a=>?_⟩;have :=List.map_inj_left.1 h2 c (List.mem_range.2 a);exact this
 ·rintro⟨h1,h2⟩;exact⟨h1,List.map_inj_left.2 fun c a=>h2 c (List.mem_range.1 a)⟩
theorem jT {α:Type} [DecidableEq α] (l:List α):dP (dP l)=dP l∧(nub (dP l)).length=(nub l).length:=by
 have :=qR (l:=dP l) (m:=l) (dU l) (fun i d j c=>by
  have b:i<l.length:=by rwa [dU]at d
  have a:j<l.length:=by rwa [dU]at c
  have :=BY b a;rw[List.getElem?_eq_getElem d,List.getElem?_eq_getElem c,Option.some.injEq]at this;exact this)
 exact this
theorem lV (A:Au) (k:Nat):(nub (cK A k)).length=it A k∧dP (cK A k)=cK A k:=by
 cases k with
 |zero=>exact⟨(jT _).2,(jT _).1⟩
 |succ k=>exact⟨(jT _).2,(jT _).1⟩
theorem mo (A:Au) (k:Nat):it A k≤it A (k+1)∧(it A k=it A (k+1)→cK A (k+1)=cK A k):=by
 have a:((List.range A.acc.length).map (sig A (cK A k))).length=(cK A k).length:=by rw[dk];simp
 have h:=zQ a (fun i f j d e=>by
  have c:i<A.acc.length:=by simpa using f
  have b:j<A.acc.length:=by simpa using d
  have g:sig A (cK A k) i=sig A (cK A k) j:=by simpa using e
  have :=(yi.1 g).1;have m:i<(cK A k).length:=by rw[dk];exact c
  have l:j<(cK A k).length:=by rw[dk];exact b
  simpa [List.getD,List.getElem?_eq_getElem m,List.getElem?_eq_getElem l]using this)
 rw[(lV A k).1,(lV A k).2]at h;exact⟨h.1,h.2⟩
theorem sR (A:Au):∀k,it A k≤A.acc.length
 |0=>wG _
 |k+1=>by unfold it;have :=wG ((List.range A.acc.length).map (sig A (cK A k)));simpa using this
theorem sQ (h:0<A.acc.length):∀k,0<it A k
 |0=>EJ h
 |k+1=>Nat.lt_of_lt_of_le (sQ h k) (mo A k).1
theorem mp {k:Nat} (h:cK A (k+1)=cK A k):∀m,cK A (k+m)=cK A k
 |0=>rfl
 |m+1=>by
  show dP ((List.range A.acc.length).map (sig A (cK A (k+m))))=_
  rw[mp h m];exact h
theorem rA (A:Au):∀k,(∃j,j<k∧cK A (j+1)=cK A j)∨it A 0+k≤it A k
 |0=>.inr (Nat.le_refl _)
 |k+1=>by
  rcases rA A k with⟨j,a,e⟩|h
  ·exact .inl ⟨j,by omega,e⟩
  ·by_cases e:it A k=it A (k+1)
   ·exact .inl ⟨k,by omega,(mo A k).2 e⟩
   ·right;have :=(mo A k).1;omega
theorem DJ (h:0<A.acc.length):∃j,j<A.acc.length∧cK A (j+1)=cK A j:=by
 rcases rA A A.acc.length with h1|h1
 ·exact h1
 ·have :=sQ (A:=A) h 0;have :=sR A A.acc.length;omega
theorem Eg {k:Nat} (h:0<A.acc.length) (b:cK A (k+1)=cK A k):cK A k=ff A:=by
 obtain⟨j,c,e⟩:=DJ h;have h1:ff A=cK A j:=by
  have :=mp e (A.acc.length -j)
  rwa [show j+(A.acc.length -j)=A.acc.length by omega]at this
 rw[h1];rcases Nat.le_total j k with a|a
 ·have :=mp e (k -j)
  rwa [show j+(k -j)=k by omega]at this
 ·have :=mp b (j -k);rw[show k+(j -k)=j by omega]at this;exact this.symm
theorem gz:∀(n:Nat) (l:List Nat),l.Nodup→(∀x∈l,x<n)→l.length≤n
 |0,l,_,h=>by
  cases l with
  |nil=>simp
  |cons x l=>exact absurd (h x (by simp)) (Nat.not_lt_zero _)
 |n+1,l,hn,h=>by
  have b:=gz n (l.erase n) (hn.erase n) (fun x hx=>by
   have h1:=(hn.mem_erase_iff).1 hx;have :=h x h1.2;have :=h1.1;omega)
  by_cases a:n∈l
  ·have :=List.length_erase_of_mem a;omega
  ·rw[List.erase_of_not_mem a]at b;omega
theorem Eh (h:0<A.acc.length) (s:Nat):(ff A).getD s 0<A.acc.length:=by
 have b:(ff A).length=A.acc.length:=dk A _;by_cases hs:s<(ff A).length
 ·rw[show(ff A).getD s 0=(ff A)[s] by simp[List.getD,List.getElem?_eq_getElem hs]];have a:=List.getElem_mem hs;have c:=sR A A.acc.length;have :∀x∈ff A,x<it A A.acc.length:=by
   unfold ff
   cases A.acc.length with
   |zero=>exact rU
   |succ k=>exact rU
  have :=this _ a;omega
 ·rw[show(ff A).getD s 0=0 by simp[List.getD,List.getElem?_eq_none (Nat.le_of_not_lt hs)]];exact h
theorem rV (h:AuOk A) (k:Nat):(bfs (bS A) (fun s=>(ff A).getD s 0) 0 k).1.length≤A.acc.length:=by
 have a:=ek (bS A) (fun s=>(ff A).getD s 0) 0 k;have :=gz A.acc.length _ a.nodup (fun x hx=>by
  obtain⟨s,_,rfl⟩:=List.mem_map.1 hx;exact Eh (by have :=h.1.2.2.1;omega) s)
 simpa using this
theorem yA (h:AuOk A) (k:Nat):∀s∈(bfs (bS A) (fun s=>(ff A).getD s 0) 0 k).1,s<A.acc.length:=fun s hs=>by
 rcases(ek (bS A) (fun s=>(ff A).getD s 0) 0 k).from_ s hs with rfl|⟨u,_,a⟩
 ·have :=h.1.2.2.1;omega
 ·exact yk h a
theorem qW (h:AuOk A):(nQ A).2.length=(nQ A).1.length:=vw (rV h)
theorem EP (h:AuOk A) {k:Nat} (a:(bfs (bS A) (fun s=>(ff A).getD s 0) 0 k).2.length=(bfs (bS A) (fun s=>(ff A).getD s 0) 0 k).1.length):bfs (bS A) (fun s=>(ff A).getD s 0) 0 k=nQ A:=by
 rcases Nat.le_total k A.acc.length with h1|h1
 ·exact(jI a _ h1).symm
 ·exact jI (qW h) _ h1
theorem Gh (A:Au):(dV A).T=A.T:=rfl
theorem nX (A:Au):(dV A).acc.length=(nQ A).1.length:=by simp[dV]
theorem FN (h:AuOk A):AuOk (dV A):=by
 obtain⟨⟨h1,h2,z,v,u⟩,q⟩:=h;have h:AuOk A:=⟨⟨h1,h2,z,v,u⟩,q⟩;have m:(nQ A).1.length≤A.acc.length:=rV h _;have p:=qW h;have a:=(ek (bS A) (fun s=>(ff A).getD s 0) 0 A.acc.length).first;have e:0<(nQ A).1.length:=(List.getElem?_eq_some_iff.1 a).1;refine⟨⟨h1,h2,by rw[nX];omega,by rw[nX];omega,by rw[nX];simp[dV,p]⟩,fun l n=>?_⟩;rw[Gh,nX];obtain⟨r,k,rfl⟩:=List.mem_map.1 n;obtain⟨i,o,rfl⟩:=List.getElem_of_mem k;have b:=ek (bS A) (fun s=>(ff A).getD s 0) 0 A.acc.length
 change BfsInv (bS A) (fun s=>(ff A).getD s 0) 0 (nQ A).1 (nQ A).2 at b
 have c:i<(nQ A).1.length:=by omega
 obtain⟨f,d⟩:=b.here i _ _ (List.getElem?_eq_getElem c) (List.getElem?_eq_getElem o);refine⟨by rw[List.length_map,d,List.length_map,eW],fun x hx=>?_⟩;rw[d]at hx;obtain⟨y,g,rfl⟩:=List.mem_map.1 hx;obtain⟨t,j,rfl⟩:=List.mem_map.1 g;have :=List.idxOf_lt_length_of_mem (f t j);rw[List.length_map]at this;exact⟨Int.natCast_nonneg _,Int.ofNat_lt.2 this⟩
end
inductive AOp where
 |tru|sub|non|uni|int|mns|sing|flag|less|plus|num
 deriving DecidableEq
def AOp.name:AOp→ByteArray
 | .tru=>GU
 | .sub=>GE
 | .non=>Hk
 | .uni=>Ha
 | .int=>Hb
 | .mns=>G9
 | .sing=>GP
 | .flag=>GV
 | .less=>G4
 | .plus=>Hj
 | .num=>GH
def AOp.vars:AOp→Nat
 | .tru=>0
 | .non| .sing| .flag| .num=>1
 | .sub| .less| .plus=>2
 | .uni| .int| .mns=>3
def AOp.isNum:AOp→Bool
 | .plus| .num=>true
 |_=>false
def fY (o:AOp) (N:Nat):Nat:=
 match o with
 | .sing| .flag=>1
 | .less=>2
 | .plus| .num=>N+1
 |_=>0
def gA (o:AOp) (N s:Nat) (a b c:Bool):Option Nat:=
 match o with
 | .tru=>some 0
 | .sub=>if !a||b then some 0 else none
 | .non=>if !a then some 0 else none
 | .uni=>if c==(a||b)then some 0 else none
 | .int=>if c==(a&&b)then some 0 else none
 | .mns=>if c==(a&&!b)then some 0 else none
 | .sing=>if !a then some s else if s=0 then some 1 else none
 | .flag=>if s=1∨a=true then some 1 else none
 | .less=>if a=false∧b=false then some s else if s=0∧a=true∧b=false then some 1 else if s=1∧b=true∧a=false then some 2 else none
 | .plus=>if s=0∧a=true∧b=decide (N=0)then some 1 else if(s=0∧a=false∧b=false)∨(s=N+1∧a=false∧b=false)then some s else if 0<s∧s<N+1∧a=false∧b=decide (s=N)then some (s+1)else none
 | .num=>if s<N+1∧a=decide (s=N)then some (s+1)else if s=N+1∧a=false then some (N+1)else none
def nxO (o:AOp) (N A B C s l:Nat):Nat:=
 if s<fY o N+1 then(gA o N s (l.testBit A) (l.testBit B) (l.testBit C)).getD (fY o N+1)else fY o N+1
def ew (o:AOp) (N A B C n:Nat):Au:=
 ⟨n,(List.range (fY o N+2)).map fun s=>decide (s=fY o N),(List.range (fY o N+2)).map fun s=>(List.range (2^n)).map fun l=>(nxO o N A B C s l:Int)⟩
section
attribute [local irreducible] wpQuiet
variable {R:Ending→World→Prop} {w:World}
theorem ln (a b:ByteArray):(a==b)=true↔a=b:=by
 show(a.data==b.data)=true↔a=b
 rw[beq_iff_eq];exact⟨fun h=>ByteArray.ext h,fun h=>by rw[h]⟩
theorem nE (x:ByteArray):∀(b:List MapEntry) (A:List (ByteArray×Value)) (i:Nat),b.map (fun e=>(e.key,e.val))=A.map (fun p=>(Value.string p.1,p.2))→
 Instr.findNow .string (.string x) b i=some (((A.zipIdx i).find? fun p=>decide (x=p.1.1)).map fun p=>(p.2,p.1.2))
 | [],A,i,h=>by
  have :A=[]:=by simpa using h.symm
  subst this;simp[Instr.findNow]
 |e::b,A,i,h=>by
  cases A with
  |nil=>simp at h
  |cons p A=>
   simp only[List.map_cons,List.cons.injEq,Prod.mk.injEq]at h;obtain⟨⟨h1,h2⟩,d⟩:=h;have c:=nE x b A (i+1) d;unfold Instr.findNow;rw[h1];by_cases hx:x=p.1
   ·have a:(x==p.1)=true:=(ln x p.1).2 hx;rw[hx]at a;simp[Instr.sameNow,hx,h2,a]
   ·have a:(x==p.1)=false:=by
     cases h:(x==p.1)with
     |false=>rfl
     |true=>exact absurd ((ln x p.1).1 h) hx
    simp[Instr.sameNow,hx,a,c]
theorem cP {P:Program} {a:TypeId} (c:P.underlying a=some .string):KeyT P a Value.string where
 find:=fun x w d A h=>by
  unfold Instr.findKey;simp only[Sem.run_bind,run_underlying c,Result.andThen_ok,nE x d A 0 h];rfl
 check:=fun b x w=>by
  show(Instr.checkKey b (9999+1) a (.string x)).run P w=_
  unfold Instr.checkKey;simp[run_underlying c]
 stays:=fun x w=>by
  unfold Instr.keyThatStays;rw[if_pos]
  ·rfl
  ·show Instr.sameBits (9999+1) _ _=true
   simp[Instr.sameBits,(ln x x).2 rfl]
def dG:List (ByteArray×Value):=
 [(GU,(Ii 0 false 0)),
  (GE,(Ii 2 false 0)),
  (GP,(Ii 1 false 0)),
  (GV,(Ii 1 false 0)),
  (Hk,(Ii 1 false 0)),
  (G4,(Ii 2 false 0)),
  (Hj,(Ii 2 true 0)),
  (GH,(Ii 1 true 0)),
  (Ha,(Ii 3 false 0)),
  (Hb,(Ii 3 false 0)),
  (G9,(Ii 3 false 0)),
  (GJ,(Ii 0 false 1)),
  (GD,(Ii 0 false 2)),
  (GB,(Ii 1 false 1))]
theorem iR (hR:∀e y m,e=.returned (.map (some m))→MapAt Value.string y m dG→Same w y→R e y):
 Calls Tryz.prog 202 #[] w R:=by
 have HR:=ae hR;clear hR;have ch:=@run_makeMap Tryz.prog;have I:MapAt Value.string (w.alloc (.map #[] 0)) w.heap.size []:=⟨#[],0,ag w _,rfl⟩;have Y:Same w (w.alloc (.map #[] 0)):=(af _ w).alloc _;obtain⟨w1,r1,H,j1⟩:=aR (P:=Tryz.prog) (cP Tryz.underlying9) Tryz.underlying249 I GU (Ii 0 false 0) rfl;have X:Same w w1:=Y.trans j1 fun x hx _=>⟨trivial,Nat.ne_of_lt hx⟩;obtain⟨w2,r2,G,j2⟩:=aR (P:=Tryz.prog) (cP Tryz.underlying9) Tryz.underlying249 H GE (Ii 2 false 0) rfl;have V:Same w w2:=X.trans j2 fun x hx _=>⟨trivial,Nat.ne_of_lt hx⟩;obtain⟨w3,r3,F,j3⟩:=aR (P:=Tryz.prog) (cP Tryz.underlying9) Tryz.underlying249 G GP (Ii 1 false 0) rfl;have U:Same w w3:=V.trans j3 fun x hx _=>⟨trivial,Nat.ne_of_lt hx⟩;obtain⟨w4,r4,E,j4⟩:=aR (P:=Tryz.prog) (cP Tryz.underlying9) Tryz.underlying249 F GV (Ii 1 false 0) rfl;have T:Same w w4:=U.trans j4 fun x hx _=>⟨trivial,Nat.ne_of_lt hx⟩;obtain⟨w5,r5,D,j5⟩:=aR (P:=Tryz.prog) (cP Tryz.underlying9) Tryz.underlying249 E Hk (Ii 1 false 0) rfl;have O:Same w w5:=T.trans j5 fun x hx _=>⟨trivial,Nat.ne_of_lt hx⟩;obtain⟨w6,r6,C,j6⟩:=aR (P:=Tryz.prog) (cP Tryz.underlying9) Tryz.underlying249 D G4 (Ii 2 false 0) rfl;have N:Same w w6:=O.trans j6 fun x hx _=>⟨trivial,Nat.ne_of_lt hx⟩;obtain⟨w7,r7,B,j7⟩:=aR (P:=Tryz.prog) (cP Tryz.underlying9) Tryz.underlying249 C Hj (Ii 2 true 0) rfl;have M:Same w w7:=N.trans j7 fun x hx _=>⟨trivial,Nat.ne_of_lt hx⟩;obtain⟨w8,r8,A,j8⟩:=aR (P:=Tryz.prog) (cP Tryz.underlying9) Tryz.underlying249 B GH (Ii 1 true 0) rfl;have L:Same w w8:=M.trans j8 fun x hx _=>⟨trivial,Nat.ne_of_lt hx⟩;obtain⟨w9,r9,z,Z⟩:=aR (P:=Tryz.prog) (cP Tryz.underlying9) Tryz.underlying249 A Ha (Ii 3 false 0) rfl;have J:Same w w9:=L.trans Z fun x hx _=>⟨trivial,Nat.ne_of_lt hx⟩;obtain⟨v,ce,g,r⟩:=aR (P:=Tryz.prog) (cP Tryz.underlying9) Tryz.underlying249 z Hb (Ii 3 false 0) rfl;have l:Same w v:=J.trans r fun x hx _=>⟨trivial,Nat.ne_of_lt hx⟩;obtain⟨u,bL,f,q⟩:=aR (P:=Tryz.prog) (cP Tryz.underlying9) Tryz.underlying249 g G9 (Ii 3 false 0) rfl;have k:Same w u:=l.trans q fun x hx _=>⟨trivial,Nat.ne_of_lt hx⟩;obtain⟨t,a8,d,p⟩:=aR (P:=Tryz.prog) (cP Tryz.underlying9) Tryz.underlying249 f GJ (Ii 0 false 1) rfl;have j:Same w t:=k.trans p fun x hx _=>⟨trivial,Nat.ne_of_lt hx⟩;obtain⟨s,aL,c,o⟩:=aR (P:=Tryz.prog) (cP Tryz.underlying9) Tryz.underlying249 d GD (Ii 0 false 2) rfl;have i:Same w s:=j.trans o fun x hx _=>⟨trivial,Nat.ne_of_lt hx⟩;obtain⟨a,aH,b,n⟩:=aR (P:=Tryz.prog) (cP Tryz.underlying9) Tryz.underlying249 c GB (Ii 1 false 1) rfl;have h:Same w a:=i.trans n fun x hx _=>⟨trivial,Nat.ne_of_lt hx⟩;have HM:Hid (MapAt Value.string a w.heap.size dG):=ae b
 have HK:=ae h;clear I H G F E D C B A z g f d c b Y X V U T O N M L J l k j i h j1 j2 j3 j4 j5 j6 j7 j8 Z r q p o n;go_enter Tryz.func202,Tryz.ntmps202;go_wp2_with fail;exact HR.o _ _ _ rfl HM.o HK.o
end
section
variable {A B:Au}
def gt (A B:Au) (p:Nat×Nat):List (Nat×Nat):=(List.range (2^A.T.toNat)).map fun c=>(nx A p.1 c,nx B p.2 c)
def dQ (A B:Au) (k:Nat):List (Nat×Nat)×List (List Nat):=bfs (gt A B) id (0,0) k
def eu (t:Nat) (x y:Bool):Bool:=t.testBit (2*(if x then 1 else 0)+(if y then 1 else 0))
def fS (A B:Au) (t:Nat):Au:=⟨A.T,(dQ A B (A.acc.length*B.acc.length)).1.map (fun p=>eu t (ac A p.1) (ac B p.2)),(dQ A B (A.acc.length*B.acc.length)).2.map fun r=>r.map Int.ofNat⟩
theorem jg (A B:Au) (p:Nat×Nat):(gt A B p).length=2^A.T.toNat:=by simp[gt]
theorem Bw {p:Nat×Nat} {c:Nat} (a:c<2^A.T.toNat):(gt A B p)[c]?=some (nx A p.1 c,nx B p.2 c):=by
 unfold gt;rw[List.getElem?_map,List.getElem?_range a];rfl
theorem oH (b:AuOk A) (a:AuOk B) (k:Nat):∀p∈(dQ A B k).1,p.1<A.acc.length∧p.2<B.acc.length:=fun p e=>by
 rcases(ek (gt A B) id (0,0) k).from_ p e with rfl|⟨u,_,d⟩
 ·have :=b.1.2.2.1;have :=a.1.2.2.1;exact⟨by simp;omega,by simp;omega⟩
 ·obtain⟨c,_,rfl⟩:=List.mem_map.1 d;exact⟨ep b _ _,ep a _ _⟩
theorem tX:∀(m n:Nat) (l:List (Nat×Nat)),l.Nodup→(∀p∈l,p.1<m∧p.2<n)→l.length≤m*n:=fun m n l j h=>by
 have h1:(l.map fun p=>p.1*n+p.2).Nodup:=by
  rw[List.nodup_iff_pairwise_ne,List.pairwise_map];refine List.Pairwise.imp_of_mem ?_ (List.nodup_iff_pairwise_ne.1 j);intro a b o k f e;have h2:=(h a o).2;have g:=(h b k).2;apply f;have c:a.2=b.2:=by
   have :=congrArg (·%n) e;simp only[Nat.mul_add_mod_self_right]at this
   rwa [Nat.mod_eq_of_lt h2,Nat.mod_eq_of_lt g]at this
  have d:a.1=b.1:=by
   rw[c]at e;have :a.1*n=b.1*n:=by omega
   exact Nat.eq_of_mul_eq_mul_right (by omega) this
  exact Prod.ext d c
 have h2:=gz (m*n) _ h1 (fun x hx=>by
  obtain⟨p,i,rfl⟩:=List.mem_map.1 hx;obtain⟨g,q⟩:=h p i;have :(p.1+1)*n≤m*n:=Nat.mul_le_mul_right _ g;rw[Nat.succ_mul]at this;omega)
 simpa using h2
theorem tS (b:AuOk A) (a:AuOk B) (k:Nat):(dQ A B k).1.length≤A.acc.length*B.acc.length:=
 tX _ _ _ (by have :=(ek (gt A B) id (0,0) k).nodup;rwa [List.map_id]at this) (oH b a k)
theorem qH (b:AuOk A) (a:AuOk B):(dQ A B (A.acc.length*B.acc.length)).2.length=(dQ A B (A.acc.length*B.acc.length)).1.length:=vw (tS b a)
theorem Eu (c:AuOk A) (b:AuOk B) {k:Nat} (a:(dQ A B k).2.length=(dQ A B k).1.length):dQ A B k=dQ A B (A.acc.length*B.acc.length):=by
 rcases Nat.le_total k (A.acc.length*B.acc.length)with h1|h1
 ·exact(jI a _ h1).symm
 ·exact jI (qH c b) _ h1
theorem lJ (A B:Au) (t:Nat):(fS A B t).acc.length=(dQ A B (A.acc.length*B.acc.length)).1.length:=by simp[fS]
theorem Et (c:AuOk A) (p:AuOk B) (t:Nat) (f:(dQ A B (A.acc.length*B.acc.length)).1.length≤400):AuOk (fS A B t):=by
 have o:=qH c p;have a:=ek (gt A B) id (0,0) (A.acc.length*B.acc.length);have e:0<(dQ A B (A.acc.length*B.acc.length)).1.length:=(List.getElem?_eq_some_iff.1 a.first).1;refine⟨⟨c.1.1,c.1.2.1,by rw[lJ];omega,by rw[lJ];omega,by rw[lJ];simp[fS,o]⟩,fun l m=>?_⟩;rw[lJ];obtain⟨r,k,rfl⟩:=List.mem_map.1 m;obtain⟨i,n,rfl⟩:=List.getElem_of_mem k
 change BfsInv (gt A B) id (0,0) (dQ A B (A.acc.length*B.acc.length)).1 (dQ A B (A.acc.length*B.acc.length)).2 at a
 have b:i<(dQ A B (A.acc.length*B.acc.length)).1.length:=by omega
 obtain⟨g,d⟩:=a.here i _ _ (List.getElem?_eq_getElem b) (List.getElem?_eq_getElem n);refine⟨by rw[List.length_map,d,List.length_map,jg];rfl,fun x hx=>?_⟩;rw[d]at hx;obtain⟨y,h,rfl⟩:=List.mem_map.1 hx;obtain⟨t,j,rfl⟩:=List.mem_map.1 h;have :=l9 (g t j);rw[List.length_map]at this;exact⟨Int.natCast_nonneg _,Int.ofNat_lt.2 this⟩
theorem FE (d:AuOk A) (b:AuOk B) (k c:Nat) (p:Nat×Nat):(aT id (dQ A B k).1 ((gt A B p).take c)).1.length≤A.acc.length*B.acc.length:=by
 have g:=(ek (gt A B) id (0,0) k).nodup;obtain⟨a,_,_,e⟩:=ns id (dQ A B k).1 g ((gt A B p).take c);rw[List.map_id]at a;refine tX _ _ _ a fun q f=>?_;rcases e q f with h|h
 ·exact oH d b k q h
 ·obtain⟨c,_,rfl⟩:=List.mem_map.1 (List.mem_of_mem_take h);exact⟨ep d _ _,ep b _ _⟩
theorem Bv {l a:List (Nat×Nat)} {r:List Nat} {p:Nat×Nat} {c:Nat} (d:c<2^A.T.toNat) (h:aT id l ((gt A B p).take c)=(a,r)):
 aT id l ((gt A B p).take (c+1))=(if(nx A p.1 c,nx B p.2 c)∈a then a else a++[(nx A p.1 c,nx B p.2 c)],r++[gF a (nx A p.1 c,nx B p.2 c)]):=by
 have b:c<(gt A B p).length:=by rw[jg];exact d
 have e:(gt A B p)[c]=(nx A p.1 c,nx B p.2 c):=by
  have :=Bw (A:=A) (B:=B) (p:=p) d;rw[List.getElem?_eq_getElem b]at this;exact Option.some.inj this
 rw[List.take_succ_eq_append_getElem b,eV,h,e];unfold eL;simp only[List.map_id,id];rfl
theorem zu {k:Nat} {l b:List (Nat×Nat)} {a:List (List Nat)} {r:List Nat} {p:Nat×Nat} (h:dQ A B k=(l,a)) (d:l[a.length]?=some p) (c:aT id l (gt A B p)=(b,r)):dQ A B (k+1)=(b,a++[r]):=by
 show el (gt A B) id (dQ A B k)=_
 rw[h];unfold el;simp only[d,c]
end
def jZ (A:Au) (t:Nat) (acc:List Bool) (s:Nat):List Bool:=
 if !acc.getD s false&&(acc.getD (nx A s 0) false||acc.getD (nx A s (2^t)) false)then acc.set s true else acc
def fc (A:Au) (t k:Nat) (acc:List Bool):List Bool:=(List.range k).foldl (jZ A t) acc
def ll (A:Au) (t:Nat):Nat→List Bool→List Bool
 |0,acc=>acc
 |f+1,acc=>if fc A t A.acc.length acc=acc then acc else ll A t f (fc A t A.acc.length acc)
def cq (A:Au) (t:Nat):List Bool:=ll A t (A.acc.length+1) A.acc
def iS (A:Au) (t:Nat):Au:=⟨A.T,cq A t,A.next⟩
theorem pI (A:Au) (t s:Nat) (acc:List Bool):(jZ A t acc s).length=acc.length:=by
 unfold jZ;split<;>simp
theorem gD (A:Au) (t k:Nat) (acc:List Bool):fc A t (k+1) acc=jZ A t (fc A t k acc) k:=by
 simp[fc,List.range_succ,List.foldl_append]
theorem dC (A:Au) (t:Nat) (acc:List Bool):∀k,(fc A t k acc).length=acc.length
 |0=>rfl
 |k+1=>by rw[gD,pI,dC A t acc k]
theorem gY (A:Au) (t:Nat):∀(f:Nat) (acc:List Bool),(ll A t f acc).length=acc.length
 |0,_=>rfl
 |f+1,acc=>by
  unfold ll
  split
  ·rfl
  ·rw[gY A t f,dC]
def rX (acc:List Bool):Nat:=acc.countP fun b=>!b
theorem uo:∀{acc:List Bool} {s:Nat},s<acc.length→acc.getD s false=false→rX (acc.set s true)+1=rX acc
 | [],s,h,_=>absurd h (Nat.not_lt_zero _)
 |b::acc,0,_,h=>by
  simp at h;subst h;simp[rX,List.set_cons_zero]
 |b::acc,s+1,h,h2=>by
  have a:=uo (acc:=acc) (s:=s) (by simpa using h) (by simpa using h2);rw[List.set_cons_succ];unfold rX at *;rw[List.countP_cons,List.countP_cons];omega
theorem DK {A:Au} (h:AuOk A) (t:Nat):AuOk (iS A t):=by
 have a:(cq A t).length=A.acc.length:=gY A t _ _;obtain⟨⟨h1,h2,e,d,c⟩,b⟩:=h;refine⟨⟨h1,h2,?_,?_,?_⟩,?_⟩
 ·show 1≤(cq A t).length;omega
 ·show(cq A t).length≤400;omega
 ·show A.next.length=(cq A t).length;omega
 ·show∀l∈A.next,RowOk A.T.toNat (cq A t).length l
  rw[a];exact b
def eD (l:List Nat):List Nat:=(l.mergeSort (·≤·)).foldl nh []
def dR (A:Au) (t:Nat) (l:List Nat) (c:Nat):List Nat:=l.flatMap fun s=>[nx A s c,nx A s (c+2^t)]
def fR (A:Au) (t:Nat) (l:List Nat):List (List Nat):=(List.range (2^t)).map fun c=>eD (dR A t l c)
def cA (A:Au) (t k:Nat):List (List Nat)×List (List Nat):=bfs (fR A t) id [0] k
def eR (A:Au) (t k:Nat):Au:=⟨t,(cA A t k).1.map (fun l=>l.any fun s=>(cq A t).getD s false),(cA A t k).2.map fun r=>r.map Int.ofNat⟩
theorem dW {l:List Nat} {x:Nat}:x∈eD l↔x∈l:=by
 have :=eN (l.mergeSort (·≤·)) x
 show x∈nub (l.mergeSort (·≤·))↔_
 rw[this];exact(List.mergeSort_perm l _).mem_iff
theorem jh (A:Au) (t:Nat) (l:List Nat):(fR A t l).length=2^t:=by simp[fR]
theorem By {A:Au} {t:Nat} {l:List Nat} {c:Nat} (a:c<2^t):(fR A t l)[c]?=some (eD (dR A t l c)):=by
 unfold fR;rw[List.getElem?_map,List.getElem?_range a];rfl
theorem zm {A:Au} {t:Nat} {L b:List (List Nat)} {r:List Nat} {l:List Nat} {c:Nat} (d:c<2^t) (h:aT id L ((fR A t l).take c)=(b,r)):
 aT id L ((fR A t l).take (c+1))=(if eD (dR A t l c)∈b then b else b++[eD (dR A t l c)],r++[gF b (eD (dR A t l c))]):=by
 have a:c<(fR A t l).length:=by rw[jh];exact d
 have e:(fR A t l)[c]=eD (dR A t l c):=by
  have :=By (A:=A) (l:=l) d;rw[List.getElem?_eq_getElem a]at this;exact Option.some.inj this
 rw[List.take_succ_eq_append_getElem a,eV,h,e];unfold eL;simp only[List.map_id,id];rfl
theorem qF {A:Au} {t k:Nat} {L b:List (List Nat)} {a:List (List Nat)} {r:List Nat} {l:List Nat} (h:cA A t k=(L,a)) (d:L[a.length]?=some l) (c:aT id L (fR A t l)=(b,r)):cA A t (k+1)=(b,a++[r]):=by
 show el (fR A t) id (cA A t k)=_
 rw[h];unfold el;simp only[d,c]
section
attribute [local irreducible] au ax aQ wpQuiet
variable {R:Ending→World→Prop} {w:World} {A:Au} {B d x:Nat} {T:Int} {u vn:Value} {acc:List Bool} {rows:List (List Int)}
def nv (A:Au):Au:=⟨A.T,A.acc.map (!·),A.next⟩
theorem B5 (h:AuOk A):AuOk (nv A):=by
 refine⟨?_,fun l a=>?_⟩
 ·have :=h.1
  simpa [nv]using this
 ·have :=h.2 l a
  simpa [nv]using this
theorem ToIn.flip {g n c k:Nat} {y:Bool} (h:ToIn w B x T (.slice (IQ g 0) n c) vn acc rows) (p:k<acc.length):ToIn (w.setCell ⟨g,k,none⟩ (.bool y)) B x T (.slice (IQ g 0) n c) vn (acc.set k y) rows:=by
 obtain⟨r,t,i⟩:=ah h.acc (g:=g) (by simp[Value.ownBlock]);have l:Keeps (·≠g) w (w.setCell ⟨g,k,none⟩ (.bool y)):=(af (·≠g) w).setCell (fun q=>q.2 rfl) _;have f:x≠g:=by rintro rfl;rw[h.blk]at i;simp at i
 have o:n=acc.length:=by
  obtain⟨s,v,e⟩:=av h.acc;simp only[Value.slice.injEq]at e;exact e.2.1
 subst o;refine⟨l.at h.blk f,h.low,?_,h.mat.keepT l fun b m e j a _=>?_⟩
 ·have :=yp (y:=.bool y) h.acc p;unfold OwnBools;rw[List.length_set,List.map_set];exact this
 ·rintro rfl;rw[i]at j;simp only[Option.some.injEq,Obj.cells.injEq]at j;obtain⟨_,rfl,_⟩:=j;rcases a with a|a<;>exact absurd a (by decide)
theorem Ev (h:DFAAt w B d A) (hR:∀e V d',e=.returned (.tuple (Ia (IL d') 0))→DFAAt V w.heap.size d' (nv A)→Same w V→R e V):
 Calls Tryz.prog 157 #[.pointer (IQ d 0)] w R:=by
 have HR:=ae hR;clear hR;have J:=ae h.ok;have L:=ae (B5 h.ok);obtain⟨U,H⟩:∃U,U=w.heap.size:=⟨_,rfl⟩;have q:=ae H;clear H;go_enter Tryz.func157,Tryz.ntmps157;go_wp2_with fail;refine mh h ?_;rintro e r v1 rfl o1 k1;obtain⟨va,vn,rfl,t,s⟩:=o1;have Y:0<A.acc.length:=by have :=J.o.1.2.2.1;omega
 have bL:A.acc.length≤400:=J.o.1.2.2.2.1;obtain⟨l,o,rfl⟩:∃l o,va=.slice (IQ l 0) A.acc.length o:=dN t Y;obtain⟨z,v,rfl⟩:=s.shape;have OB:=ae t;have OM:=ae s;have Z:=ae k1;clear t s k1 h;go_wp2_with fail;have c:ToIn (r.alloc (Ij A.T (IQ l 0) A.acc.length o z A.next.length v)) U r.heap.size A.T (.slice (IQ l 0) A.acc.length o) (.slice z A.next.length v) A.acc A.next:=by
  have ka:=sal r (Ij A.T (IQ l 0) A.acc.length o z A.next.length v);exact⟨ag _ _,by rw[q.o];exact Z.o.size,aN (ar OB.o ka fun _ _=>trivial) (by rw[q.o];exact Nat.le_refl _),(OM.o.same ka).below (by rw[q.o];exact Nat.le_refl _)⟩
 have D:Same w (r.alloc (Ij A.T (IQ l 0) A.acc.length o z A.next.length v)):=Z.o.alloc _;generalize r.alloc _=w2 at c D⊢;generalize r.heap.size=x at c⊢;have aH:=ae c;have aL:=ae D;clear OB OM Z c D
 go_loopw [14] (fun i wr=>∃k:Nat,i=.int .i64 k∧k≤A.acc.length∧Hid (ToIn wr U x A.T (.slice (IQ l 0) A.acc.length o) (.slice z A.next.length v) ((A.acc.take k).map (!·)++A.acc.drop k) A.next)∧Same w wr) (fun i _=>A.acc.length -(intOf i).toNat)
 case atStart=>exact⟨0,rfl,Nat.zero_le _,ae (by simpa using aH.o),aL.o⟩
 case round=>
  obtain⟨k,rfl,hk,c,O⟩:=hrel;by_cases C:k<A.acc.length
  ·have m:((A.acc.take k).map (!·)).length=k:=by simp;omega
   have n:((A.acc.take k).map (!·)++A.acc.drop k)[k]?=some A.acc[k]:=by
    rw[List.getElem?_append_right (by omega),m,Nat.sub_self,List.getElem?_drop,Nat.add_zero,List.getElem?_eq_getElem C]
   have j:((A.acc.take k).map (!·)++A.acc.drop k).set k (!A.acc[k])=(A.acc.take (k+1)).map (!·)++A.acc.drop (k+1):=by
    rw[List.set_append_right _ _ (by omega),m,Nat.sub_self,List.drop_eq_getElem_cons C,List.set_cons_zero,List.take_succ_eq_append_getElem C,List.map_append,List.append_assoc];rfl
   have p:=(List.getElem?_eq_some_iff.1 n).1;generalize A.acc[k]=b at n j;generalize(A.acc.take k).map (!·)++A.acc.drop k=ce at n j p c;have f:=c.o;obtain⟨_,cc,G⟩:=ah f.acc (g:=l) (by simp[Value.ownBlock]);have q1:=xc1 f.blk 1 rfl;have z1:wr.cell? ⟨l,k,none⟩=some (.bool b):=by
    obtain⟨_,_,e1,_,_,X⟩:=f.acc.bools.open;simp only[Value.slice.injEq]at e1;obtain⟨rfl,_,_⟩:=e1;obtain⟨bb,oo,e2,_,F⟩:=X k p;simp only[Option.some.injEq,Addr.mk.injEq]at e2;obtain⟨rfl,rfl,_⟩:=e2;have :=F k p;rw[Nat.zero_add]at this;rw[this];have e3:=(List.getElem?_eq_some_iff.1 n).2;rw[e3]
   have z2:wr.frozen? ⟨l,k,none⟩=false:=ao G k;have a:=f.flip (y:=!b) p;rw[j]at a;have E:Same w (wr.setCell ⟨l,k,none⟩ (.bool (!b))):=O.setCell (fun hh=>by
    have :=(ah f.acc (g:=l) (by simp[Value.ownBlock])).1;rw[q.o]at this;have h2:=hh.1;simp at h2;omega) _
   have N:=ae (And.intro a E);clear c f a E O j n G m;go_wp2_with fail;go_roundw
   case rel=>exact⟨k+1,by go_num,by omega,N.o.1|>ae,N.o.2⟩
   case measure=>simp[intOf];omega
  ·obtain rfl:k=A.acc.length:=by omega
   have a:=c.o;rw[List.take_length,List.drop_length,List.append_nil]at a;obtain⟨x0,x1,x2⟩:=xc3 a.blk rfl rfl rfl;have a8:Hid (AutoAt wr (.agg #[A.T,.slice (IQ l 0) A.acc.length o,.slice z A.next.length v]) (nv A)):=ae (by
    have hb:=L.o.bounds;exact⟨_,_,rfl,a.acc.bools,a.mat.rows hb.2,hb.1⟩)
   have M:=ae O;clear c a O;go_wp2_with fail;refine iz a8.o L.o ?_;rintro e w4 d4 rfl I k4;have N:=ae (And.intro (I.below M.o.size) (M.o.tr k4));clear I k4;go_wp2_with fail;exact HR.o _ _ d4 rfl N.o.1 N.o.2
end
section
variable {A:Au}
inductive Rch (A:Au):Nat→Prop
 |zero:Rch A 0
 |step {s c:Nat}:Rch A s→c<2^A.T.toNat→Rch A (nx A s c)
theorem Rch.lt (h:AuOk A) {s:Nat} (a:Rch A s):s<A.acc.length:=by
 cases a with
 |zero=>exact h.1.2.2.1
 |step _ _=>exact ep h _ _
def fF (A:Au) (s:Nat):List Int:=A.next.getD s []
theorem gL (h:AuOk A) {s:Nat} (hs:s<A.acc.length):fF A s=(bS A s).map Int.ofNat:=by
 have b:s<A.next.length:=by rw[h.1.2.2.2.2];exact hs
 have a:=h.2 _ (List.getElem_mem b);have d:fF A s=A.next[s]:=by unfold fF;rw[List.getD_eq_getElem?_getD,List.getElem?_eq_getElem b];rfl
 rw[d];apply List.ext_getElem
 ·simp[a.1,bS]
 ·intro c h1 h2;have :=a.2 _ (List.getElem_mem h1);simp only[bS,nx,List.getElem_map,List.getElem_range,List.getD_eq_getElem?_getD,List.getElem?_eq_getElem b,Option.getD_some,List.getElem?_eq_getElem h1];simp only[Int.ofNat_eq_natCast];omega
theorem uj (h:AuOk A) {s:Nat} (hs:s<A.acc.length) {t:Int}:t∈fF A s↔∃c,c<2^A.T.toNat∧t=(nx A s c:Int):=by
 rw[gL h hs];simp only[bS,List.map_map,List.mem_map,List.mem_range,Function.comp];constructor
 ·rintro⟨c,h1,h2⟩;exact⟨c,h1,h2.symm⟩
 ·rintro⟨c,h1,h2⟩;exact⟨c,h1,h2.symm⟩
open Classical in
noncomputable def rchL (A:Au):List Int:=((List.range A.acc.length).filter fun s=>decide (Rch A s)).map Int.ofNat
theorem lZ (h:AuOk A) {x:Int}:x∈rchL A↔∃s:Nat,x=(s:Int)∧Rch A s:=by
 unfold rchL;simp only[List.mem_map,List.mem_filter,List.mem_range,decide_eq_true_eq];constructor
 ·rintro⟨s,⟨_,h2⟩,a⟩;exact⟨s,a.symm,h2⟩
 ·rintro⟨s,rfl,h2⟩;exact⟨s,⟨h2.lt h,h2⟩,rfl⟩
theorem tP (A:Au):(rchL A).Pairwise (·<·):=by
 unfold rchL;rw[List.pairwise_map];exact(List.pairwise_lt_range.filter _).imp fun h=>by simpa using h
theorem fG:∀{a b:List Int},a.Pairwise (·<·)→b.Pairwise (·<·)→(∀x,x∈a↔x∈b)→a=b
 | [],[],_,_,_=>rfl
 | [],y::b,_,_,h=>by have :=(h y).2 (List.mem_cons_self ..);simp at this
 |x::a,[],_,_,h=>by have :=(h x).1 (List.mem_cons_self ..);simp at this
 |x::a,y::b,ha,hb,h=>by
  rw[List.pairwise_cons]at ha hb;have f:x=y:=by
   rcases List.mem_cons.1 ((h x).1 (List.mem_cons_self ..))with e|hx
   ·exact e
   ·rcases List.mem_cons.1 ((h y).2 (List.mem_cons_self ..))with e|g
    ·exact e.symm
    ·have h1:=ha.1 y g;have h2:=hb.1 x hx;omega
  subst f
  congr 1
  refine fG ha.2 hb.2 fun z=>⟨fun d=>?_,fun d=>?_⟩
  ·rcases List.mem_cons.1 ((h z).1 (List.mem_cons_of_mem _ d))with e|h1
   ·have :=ha.1 z d;omega
   ·exact h1
  ·rcases List.mem_cons.1 ((h z).2 (List.mem_cons_of_mem _ d))with e|h1
   ·have :=hb.1 z d;omega
   ·exact h1
structure BfsI (A:Au) (i:Nat) (l:List Int):Prop where
 nd:l.Nodup
 zero:(0:Int)∈l
 rch:∀x∈l,∃s:Nat,x=(s:Int)∧Rch A s
 cls:∀(j:Nat) (x:Int),j<i→l[j]?=some x→∀t∈fF A x.toNat,t∈l
theorem BfsI.start (A:Au):BfsI A 0 [0]:=⟨by simp,by simp,fun x hx=>by simp at hx;subst hx;exact⟨0,rfl,.zero⟩,fun j x a _=>absurd a (Nat.not_lt_zero _)⟩
theorem BfsI.len (h:AuOk A) {i:Nat} {l:List Int} (d:BfsI A i l):l.length≤A.acc.length:=by
 have :=gz A.acc.length (l.map Int.toNat) (by
  rw[List.nodup_iff_pairwise_ne,List.pairwise_map];refine List.Pairwise.imp_of_mem ?_ (List.nodup_iff_pairwise_ne.1 d.nd);intro a b m f g e;obtain⟨s,rfl,_⟩:=d.rch a m;obtain⟨t,rfl,_⟩:=d.rch b f;apply g;simp at e;rw[e]) (by
  intro x hx;obtain⟨y,j,rfl⟩:=List.mem_map.1 hx;obtain⟨s,rfl,k⟩:=d.rch y j
  simpa using k.lt h)
 simpa using this
theorem BfsI.add (h:AuOk A) {i:Nat} {l:List Int} (f:BfsI A i l) (r:i≤l.length) {x t:Int} (hx:x∈l) (m:t∈fF A x.toNat) (n:t∉l):BfsI A i (l++[t]):=by
 refine⟨?_,List.mem_append_left _ f.zero,fun y d=>?_,fun j y o d u k=>?_⟩
 ·rw[List.nodup_append];refine⟨f.nd,by simp,fun a q b e=>?_⟩;simp at e;subst e;rintro rfl;exact n q
 ·rcases List.mem_append.1 d with d|d
  ·exact f.rch y d
  ·simp at d;subst d;obtain⟨s,rfl,g⟩:=f.rch x hx;obtain⟨c,p,rfl⟩:=(uj h (g.lt h)).1 m;exact⟨_,rfl,g.step p⟩
 ·rw[List.getElem?_append_left (by omega)]at d;exact List.mem_append_left _ (f.cls j y o d u k)
theorem BfsI.next {i:Nat} {l:List Int} (a:BfsI A i l) {x:Int} (hx:l[i]?=some x) (d:∀t∈fF A x.toNat,t∈l):BfsI A (i+1) l:=by
 refine⟨a.nd,a.zero,a.rch,fun j y f b=>?_⟩;by_cases e:j=i
 ·subst e;rw[hx]at b;obtain rfl:=Option.some.inj b;exact d
 ·exact a.cls j y (by omega) b
theorem BfsI.mem (h:AuOk A) {l:List Int} (a:BfsI A l.length l) {x:Int}:x∈l↔x∈rchL A:=by
 rw[lZ h];constructor
 ·exact a.rch x
 ·rintro⟨s,rfl,d⟩
  induction d with
  |zero=>exact a.zero
  |@step s c hs hc ih=>
   obtain⟨j,b⟩:=List.getElem?_of_mem ih;exact a.cls j _ (List.getElem?_eq_some_iff.1 b).1 b _ ((uj h (hs.lt h)).2 ⟨c,hc,by simp⟩)
theorem BfsI.sorted (h:AuOk A) {l:List Int} (f:BfsI A l.length l):l.mergeSort (fun x y=>decide (x≤y))=rchL A:=by
 have e:=List.mergeSort_perm l (fun x y=>decide (x≤y));refine fG ?_ (tP A) fun x=>(e.mem_iff).trans (f.mem h);have h1:=List.pairwise_mergeSort (le:=fun x y:Int=>decide (x≤y)) (by intro a b c;simp;omega) (by intro a b;simp;omega) l;have h2:(l.mergeSort (fun x y=>decide (x≤y))).Nodup:=e.nodup_iff.2 f.nd;refine(h1.and (List.nodup_iff_pairwise_ne.1 h2)).imp ?_;intro a b d;have :=d.1;have :=d.2;simp at *;omega
theorem oh {s:Nat} (hs:s<A.acc.length):gG A (s:Int)=ac A s:=by
 unfold gG ac inA;simp only[Int.toNat_natCast];rw[show(decide ((0:Int)≤(s:Int))&&decide ((s:Int)<(A.acc.length:Int)))=true by simp;exact hs];rfl
def Can (A:Au):Nat→Nat→Prop
 |0,s=>ac A s=true
 |m+1,s=>∃c,c<2^A.T.toNat∧Can A m (nx A s c)
def fa (A:Au):Nat→Nat→Int
 |0,s=>if ac A s=true then 0 else -1
 |m+1,s=>if fa A m s<0∧(bS A s).any (fun t=>fa A m t==(m:Int))=true then(m:Int)+1 else fa A m s
def Dst (A:Au) (k s:Nat):Prop:=Can A k s∧∀j,j<k→¬Can A j s
theorem oT {s t:Nat}:t∈bS A s↔∃c,c<2^A.T.toNat∧nx A s c=t:=by
 simp[bS,List.mem_map,List.mem_range]
theorem jY (A:Au):∀m s,(fa A m s=-1∧∀k,k≤m→¬Can A k s)∨∃k:Nat,k≤m∧fa A m s=(k:Int)∧Dst A k s
 |0,s=>by
  unfold fa;by_cases h:ac A s=true
  ·rw[if_pos h];exact .inr ⟨0,Nat.le_refl _,rfl,h,fun j n=>absurd n (Nat.not_lt_zero _)⟩
  ·rw[if_neg h];refine .inl ⟨rfl,fun k f=>?_⟩;obtain rfl:k=0:=by omega
   exact h
 |m+1,s=>by
  rcases jY A m s with⟨h1,h2⟩|⟨k,h1,h2,v⟩
  ·by_cases a:(bS A s).any (fun t=>fa A m t==(m:Int))=true
   ·refine .inr ⟨m+1,Nat.le_refl _,?_,?_,fun j n=>h2 j (by omega)⟩
    ·rw[fa,if_pos ⟨by omega,a⟩];simp
    ·rw[List.any_eq_true]at a;obtain⟨t,p,r⟩:=a;obtain⟨c,g,rfl⟩:=oT.1 p;refine⟨c,g,?_⟩;have q:fa A m (nx A s c)=(m:Int):=by simpa using r
     rcases jY A m (nx A s c)with⟨e,_⟩|⟨k,_,e,f⟩
     ·omega
     ·obtain rfl:k=m:=by omega
      exact f.1
   ·refine .inl ⟨by rw[fa,if_neg (fun o=>a o.2)];exact h1,fun k f b=>?_⟩;by_cases d:k≤m
    ·exact h2 k d b
    ·obtain rfl:k=m+1:=by omega
     obtain⟨c,g,l⟩:=b;rcases jY A m (nx A s c)with⟨_,e⟩|⟨k,f,e,u⟩
     ·exact e m (Nat.le_refl _) l
     ·by_cases d:k=m
      ·subst d;exact a (List.any_eq_true.2 ⟨_,oT.2 ⟨c,g,rfl⟩,by simpa using e⟩)
      ·exact h2 (k+1) (by omega) ⟨c,g,u.1⟩
  ·refine .inr ⟨k,by omega,?_,v⟩;rw[fa,if_neg (fun o=>by omega)];exact h2
theorem Dst.succ {k s:Nat} (h:Dst A (k+1) s):∃c,c<2^A.T.toNat∧Dst A k (nx A s c):=by
 obtain⟨c,b,h1⟩:=h.1;exact⟨c,b,h1,fun j d a=>h.2 (j+1) (by omega) ⟨c,b,a⟩⟩
theorem Dst.uniq {j k s:Nat} (h:Dst A j s) (a:Dst A k s):j=k:=by
 rcases Nat.lt_trichotomy j k with e|e|e
 ·exact absurd h.1 (a.2 j e)
 ·exact e
 ·exact absurd a.1 (h.2 k e)
theorem Dst.path (a:AuOk A):∀{k s:Nat},s<A.acc.length→Dst A k s→∃l:List Nat,l.length=k+1∧l.Nodup∧∀x∈l,x<A.acc.length∧∃j,j≤k∧Dst A j x
 |0,s,hs,h=>⟨[s],rfl,by simp,fun x hx=>by simp at hx;subst hx;exact⟨hs,0,Nat.le_refl _,h⟩⟩
 |k+1,s,hs,h=>by
  obtain⟨c,o,f⟩:=h.succ;obtain⟨l,h1,h2,d⟩:=Dst.path a (ep a s c) f;refine⟨s::l,by simp[h1],?_,fun x hx=>?_⟩
  ·rw[List.nodup_cons];refine⟨fun e=>?_,h2⟩;obtain⟨_,j,n,b⟩:=d s e;have :=b.uniq h;omega
  ·rcases List.mem_cons.1 hx with rfl|hx
   ·exact⟨hs,k+1,Nat.le_refl _,h⟩
   ·obtain⟨m,j,p,g⟩:=d x hx;exact⟨m,j,by omega,g⟩
theorem Dst.lt (a:AuOk A) {k s:Nat} (hs:s<A.acc.length) (h:Dst A k s):k<A.acc.length:=by
 obtain⟨l,h1,h2,b⟩:=h.path a hs;have :=gz A.acc.length l h2 fun x hx=>(b x hx).1;omega
theorem Dst.of_can {k s:Nat} (h:Can A k s):∃j,Dst A j s:=by
 induction k using Nat.strongRecOn with
 |ind k ih=>
  by_cases a:∃j,j<k∧Can A j s
  ·obtain⟨j,h1,h2⟩:=a;exact ih j h1 h2
  ·exact⟨k,h,fun j b d=>a ⟨j,b,d⟩⟩
def far (A:Au) (s:Nat):Int:=fa A A.acc.length s
theorem iP (a:AuOk A) {k s:Nat} (hs:s<A.acc.length) (h:Dst A k s):far A s=(k:Int):=by
 have d:=h.lt a hs;unfold far;rcases jY A A.acc.length s with⟨_,e⟩|⟨j,_,e,b⟩
 ·exact absurd h.1 (e k (by omega))
 ·rw[e,b.uniq h]
theorem sm (a:AuOk A) {k s:Nat} (hs:s<A.acc.length):far A s=(k:Int)↔Dst A k s:=by
 refine⟨fun h=>?_,iP a hs⟩;unfold far at h;rcases jY A A.acc.length s with⟨e,_⟩|⟨j,_,e,b⟩
 ·omega
 ·obtain rfl:j=k:=by omega
  exact b
def faL (A:Au) (m:Nat):List Int:=(List.range A.acc.length).map (fa A m)
def eZ (A:Au) (m k:Nat):List Int:=(List.range A.acc.length).map fun i=>if i<k then fa A (m+1) i else fa A m i
theorem xw (A:Au) (m:Nat):eZ A m 0=faL A m:=by simp[eZ,faL]
theorem AN (A:Au) (m:Nat):eZ A m A.acc.length=faL A (m+1):=by
 unfold eZ faL;apply List.map_congr_left;intro i a;rw[if_pos (List.mem_range.1 a)]
theorem rp {m k i:Nat} (a:i<A.acc.length):(eZ A m k)[i]?=some (if i<k then fa A (m+1) i else fa A m i):=by simp[eZ,a]
theorem AL {m k:Nat}:(eZ A m k).set k (fa A (m+1) k)=eZ A m (k+1):=by
 apply List.ext_getElem
 ·simp[eZ]
 ·intro i h1 h2;rw[List.getElem_set];simp only[eZ,List.getElem_map,List.getElem_range];by_cases e:k=i
  ·subst e;simp
  ·rw[if_neg e];by_cases a:i<k
   ·rw[if_pos a,if_pos (by omega)]
   ·rw[if_neg a,if_neg (by omega)]
theorem xx {m k:Nat} (h:fa A (m+1) k=fa A m k):eZ A m (k+1)=eZ A m k:=by
 unfold eZ;apply List.map_congr_left;intro i _;by_cases e:i=k
 ·subst e;rw[if_pos (Nat.lt_succ_self _),if_neg (Nat.lt_irrefl _),h]
 ·by_cases a:i<k
  ·rw[if_pos a,if_pos (by omega)]
  ·rw[if_neg a,if_neg (by omega)]
theorem E6 (A:Au) (m t:Nat):fa A (m+1) t=(m:Int)↔fa A m t=(m:Int):=by
 rw[fa];by_cases h:fa A m t<0∧(bS A t).any (fun u=>fa A m u==(m:Int))=true
 ·rw[if_pos h];have :=h.1;omega
 ·rw[if_neg h]
theorem AM (h:AuOk A) {m k s:Nat} (hs:s<A.acc.length):(fF A s).any (fun y=>decide ((eZ A m k).getD y.toNat 0=(m:Int)))=(bS A s).any (fun t=>fa A m t==(m:Int)):=by
 rw[gL h hs,List.any_map];rw[Bool.eq_iff_iff,List.any_eq_true,List.any_eq_true];have key:∀t,t∈bS A s→((fun y:Int=>decide ((eZ A m k).getD y.toNat 0=(m:Int)))∘Int.ofNat) t=(fa A m t==(m:Int)):=fun t a=>by
  have b:=yk h a;simp only[Function.comp,Int.ofNat_eq_natCast,Int.toNat_natCast,List.getD_eq_getElem?_getD,rp b,Option.getD_some];by_cases e:t<k
  ·rw[if_pos e,Bool.eq_iff_iff];simp[E6]
  ·rw[if_neg e,Bool.eq_iff_iff];simp
 constructor
 ·rintro⟨t,a,d⟩;exact⟨t,a,by rw[←key t a];exact d⟩
 ·rintro⟨t,a,d⟩;exact⟨t,a,by rw[key t a];exact d⟩
theorem FW (A:Au) (m s:Nat):-1≤fa A m s∧fa A m s≤(m:Int):=by
 rcases jY A m s with⟨e,_⟩|⟨k,a,e,_⟩<;>omega
def f8 (A:Au) (k:Nat):List Int:=(List.range A.acc.length).map fun i=>if i<k then fa A 0 i else 0
theorem tp (A:Au) (k:Nat):(f8 A k).length=A.acc.length:=by simp[f8]
theorem xW (A:Au):f8 A 0=List.replicate A.acc.length 0:=by
 apply List.ext_getElem
 ·simp[f8]
 ·intro i h1 h2;simp[f8]
theorem A8 (A:Au):f8 A A.acc.length=faL A 0:=by
 unfold f8 faL;apply List.map_congr_left;intro i a;rw[if_pos (List.mem_range.1 a)]
theorem A3 {k:Nat}:(f8 A k).set k (fa A 0 k)=f8 A (k+1):=by
 apply List.ext_getElem
 ·simp[f8]
 ·intro i h1 h2;rw[List.getElem_set];simp only[f8,List.getElem_map,List.getElem_range];by_cases e:k=i
  ·subst e;simp
  ·rw[if_neg e];by_cases a:i<k
   ·rw[if_pos a,if_pos (by omega)]
   ·rw[if_neg a,if_neg (by omega)]
def ik (A:Au) (s:Nat) (d:Nat):Nat:=(bS A s).findIdx fun t=>far A t==(d:Int)
def aY (A:Au):Nat→Nat→List Nat
 |0,_=>[]
 |d+1,s=>ik A s d::aY A d (nx A s (ik A s d))
def llt:List Nat→List Nat→Prop
 |x::xs,y::ys=>x<y∨(x=y∧llt xs ys)
 |_,_=>False
def InR (A:Au) (u:List Nat):Prop:=∀c∈u,c<2^A.T.toNat
theorem jQ (A:Au) (s c:Nat) (u:List Nat):j0 A s (u++[c])=nx A (j0 A s u) c:=by simp[j0,List.foldl_append]
theorem sS:∀(u:List Nat) (s:Nat),InR A u→ac A (j0 A s u)=true→Can A u.length s
 | [],_,_,h=>h
 |c::u,_,hi,h=>⟨c,hi c (List.mem_cons_self ..),sS u _ (fun x hx=>hi x (List.mem_cons_of_mem _ hx)) h⟩
theorem mJ (a:AuOk A) {d s:Nat} (h:Dst A (d+1) s):ik A s d<2^A.T.toNat∧Dst A d (nx A s (ik A s d))∧∀c,c<2^A.T.toNat→Dst A d (nx A s c)→ik A s d≤c:=by
 obtain⟨o,n,l⟩:=h.succ;have k:∃t∈bS A s,(fun t=>far A t==(d:Int)) t=true:=⟨nx A s o,oT.2 ⟨o,n,rfl⟩,by simpa using iP a (ep a s o) l⟩;have b:ik A s d<(bS A s).length:=List.findIdx_lt_length_of_exists k;have p:ik A s d<2^A.T.toNat:=by simpa [eW]using b
 have r:=List.findIdx_getElem (w:=b);have u:(bS A s)[ik A s d]=nx A s (ik A s d):=by
  have :=fE (A:=A) (s:=s) p;rw[List.getElem?_eq_getElem b]at this;exact Option.some.inj this
 refine⟨p,?_,fun c q v=>?_⟩
 ·have e:far A (bS A s)[ik A s d]==(d:Int):=r;rw[u]at e;exact(sm a (ep a s _)).1 (by simpa using e)
 ·apply Classical.byContradiction;intro g;have f:c<(bS A s).findIdx fun t=>far A t==(d:Int):=by unfold ik at g;omega
  have :=List.not_of_lt_findIdx f;have m:c<(bS A s).length:=by rw[eW];exact q
  have j:(bS A s)[c]=nx A s c:=by
   have :=fE (A:=A) (s:=s) q;rw[List.getElem?_eq_getElem m]at this;exact Option.some.inj this
  simp only[j,iP a (ep a s c) v]at this;simp at this
theorem fM (b:AuOk A):∀{k s:Nat},Dst A k s→InR A (aY A k s)∧(aY A k s).length=k∧ac A (j0 A s (aY A k s))=true∧
 ∀v,InR A v→v.length=k→ac A (j0 A s v)=true→llt (aY A k s) v∨aY A k s=v
 |0,s,h=>⟨fun c a=>by simp[aY]at a,rfl,h.1,fun v _ hv _=>.inr (by rw[List.eq_nil_of_length_eq_zero hv];rfl)⟩
 |d+1,s,h=>by
  obtain⟨h1,h2,r⟩:=mJ b h;obtain⟨B,z,y,t⟩:=fM b h2;refine⟨fun c a=>?_,by simp[aY,z],y,fun v hv m o=>?_⟩
  ·rw[aY]at a;rcases List.mem_cons.1 a with rfl|a
   ·exact h1
   ·exact B c a
  ·match v,m with
   |c::u,m=>
    have f:u.length=d:=by simpa using m
    have a:=hv c (List.mem_cons_self ..);have n:InR A u:=fun x hx=>hv x (List.mem_cons_of_mem _ hx);have g:Can A d (nx A s c):=by rw[←f];exact sS u _ n o
    have q:Dst A d (nx A s c):=⟨g,fun j C p=>h.2 (j+1) (by omega) ⟨c,a,p⟩⟩;have l:=r c a q;rw[aY];rcases Nat.lt_or_eq_of_le l with e|e
    ·exact .inl (.inl e)
    ·subst e;rcases t u n f o with k|k
     ·exact .inl (.inr ⟨rfl,k⟩)
     ·exact .inr (by rw[k])
variable {i c:Nat} {L:List (Nat×List Nat)}
theorem En (A:Au):∀(v:List Nat),InR A v→Rch A (j0 A 0 v):=by
 intro v;generalize a:v.length=n
 induction n generalizing v with
 |zero=>intro _;obtain rfl:=List.eq_nil_of_length_eq_zero a;exact .zero
 |succ n ih=>
  intro hv;obtain⟨u,c,rfl⟩:∃u c,v=u++[c]:=⟨v.dropLast,v.getLast (by intro h;subst h;simp at a),(List.dropLast_concat_getLast _).symm⟩;rw[jQ];exact(ih u (by simpa using a) fun x hx=>hv x (List.mem_append_left _ hx)).step (hv c (by simp))
theorem El {s:Nat} (h:Rch A s):∃v,InR A v∧j0 A 0 v=s:=by
 induction h with
 |zero=>exact⟨[],fun c a=>by simp at a,rfl⟩
 |@step s c _ a ih=>
  obtain⟨v,h1,h2⟩:=ih;refine⟨v++[c],fun x hx=>?_,by rw[jQ,h2]⟩;rcases List.mem_append.1 hx with hx|hx
  ·exact h1 x hx
  ·simp at hx;subst hx;exact a
end
theorem jG {c:List Int} (hs:c.Pairwise (·≤·)):∀m,m≤c.length→(Lib.compactUpTo c.toArray m).Pairwise (·<·)∧∀x,x∈Lib.compactUpTo c.toArray m↔x∈c.take m
 |0,_=>by simp[Lib.compactUpTo]
 |m+1,hm=>by
  have g:=jG hs m (by omega);have f:m<c.length:=by omega
  have l:c.toArray[m]! =c[m]:=by simp[getElem!_pos,f]
  rw[Lib.compactUpTo_succ,List.take_succ_eq_append_getElem f];have j:∀x∈c.take m,∀(h0:0<m),x≤c[m -1]'(by omega):=fun x hx h0=>by
   obtain⟨i,o,rfl⟩:=List.mem_iff_getElem.1 hx;rw[List.getElem_take];rw[List.length_take]at o;rcases Nat.lt_or_ge i (m -1)with h|h
   ·exact List.pairwise_iff_getElem.1 hs i (m -1) (by omega) (by omega) h
   ·have :i=m -1:=by omega
    subst this;exact Int.le_refl _
  by_cases d:Lib.keeps c.toArray m=true
  ·rw[if_pos d,l];refine⟨List.pairwise_append.2 ⟨g.1,List.pairwise_singleton _ _,fun a p b n=>?_⟩,fun x=>?_⟩
   ·rw[List.mem_singleton]at n;subst n;have k:=(g.2 a).1 p;have h0:0<m:=by
     rcases Nat.eq_zero_or_pos m with e|e
     ·subst e;simp at k
     ·exact e
    have h1:=j a k h0;have h2:=List.pairwise_iff_getElem.1 hs (m -1) m (by omega) f (by omega);have q:c[m]≠c[m -1]'(by omega):=by
     simp only[Lib.keeps,decide_eq_true_eq]at d;rcases d with d|d
     ·omega
     ·rw[l]at d;have :c.toArray[m -1]! =c[m -1]'(by omega):=by simp[getElem!_pos,show m -1<c.length by omega]
      rw[this]at d;exact d
    omega
   ·rw[List.mem_append,List.mem_append,g.2]
  ·rw[if_neg d,List.append_nil];refine⟨g.1,fun x=>?_⟩;rw[g.2,List.mem_append];refine⟨.inl,fun h=>h.elim id fun h=>?_⟩;rw[List.mem_singleton]at h;subst h;simp only[Lib.keeps,decide_eq_true_eq,not_or,Classical.not_not]at d;obtain⟨h0,h1⟩:=d;rw[l]at h1;have h2:c.toArray[m -1]! =c[m -1]'(by omega):=by simp[getElem!_pos,show m -1<c.length by omega]
   rw[h2]at h1;rw[h1];exact List.mem_iff_getElem.2 ⟨m -1,by rw[List.length_take];omega,by rw[List.getElem_take]⟩
theorem sJ {a:List Int} (hs:a.Pairwise (·≤·)):(Lib.compact a).Pairwise (·<·)∧∀x,x∈Lib.compact a↔x∈a:=by
 have :=jG hs a.length (Nat.le_refl _);rw[List.take_length]at this;exact this
theorem B4 {l:List Nat}:l.Pairwise (·≤·)→(nub l).Pairwise (·<·):=by
 induction l using gq with
 |h0=>intro _;exact List.Pairwise.nil
 |h1 l x ih=>
  intro h;rw[List.pairwise_append]at h;rw[fi];unfold nh
  split
  ·exact ih h.1
  ·rename_i hx
   refine List.pairwise_append.2 ⟨ih h.1,List.pairwise_singleton _ _,fun a d b c=>?_⟩;rw[List.mem_singleton]at c;subst c;have h1:=h.2.2 a ((eN l a).1 d) b (List.mem_singleton.2 rfl);have h2:a≠b:=fun e=>hx (e▸d);omega
theorem gS (l:List Nat):(eD l).Pairwise (·<·):=by
 refine B4 ?_;have :=List.pairwise_mergeSort (le:=fun a b:Nat=>decide (a≤b)) (fun a b c h1 h2=>by simp at *;omega) (fun a b=>by simp;omega) l;exact this.imp fun h=>by simpa using h
theorem ji {l:List Nat} (h:l.Pairwise (·<·)):(l.map Int.ofNat).Pairwise (·<·):=by
 rw[List.pairwise_map];exact h.imp fun h=>Int.ofNat_lt.2 h
theorem bQ {l:List Nat} {x:Int}:x∈l.map Int.ofNat↔∃n:Nat,n∈l∧x=(n:Int):=by
 rw[List.mem_map];exact⟨fun⟨n,h,e⟩=>⟨n,h,e.symm⟩,fun⟨n,h,e⟩=>⟨n,h,e.symm⟩⟩
theorem kJ {a b:List Nat} (h:a.map Int.ofNat=b.map Int.ofNat):a=b:=by
 exact(List.map_inj_right fun x y e=>Int.ofNat.inj e).1 h
theorem rE (l:List Nat):Lib.compact ((l.map Int.ofNat).mergeSort fun x y=>decide (x≤y))=(eD l).map Int.ofNat:=by
 have hs:=List.pairwise_mergeSort (le:=fun a b:Int=>decide (a≤b)) (fun a b c h1 h2=>by simp at *;omega) (fun a b=>by simp;omega) (l.map Int.ofNat);have d:=sJ (hs.imp fun h=>by simpa using h);refine fG d.1 (ji (gS l)) fun x=>?_;rw[d.2,(List.mergeSort_perm _ _).mem_iff,bQ,bQ];constructor
 ·rintro⟨n,h,e⟩;exact⟨n,dW.2 h,e⟩
 ·rintro⟨n,h,e⟩;exact⟨n,dW.1 h,e⟩
theorem vv {l:List Nat} (h:l.Pairwise (·<·)):eD l=l:=by
 refine kJ (fG (ji (gS l)) (ji h) fun x=>?_);rw[bQ,bQ];constructor
 ·rintro⟨n,h,e⟩;exact⟨n,dW.1 h,e⟩
 ·rintro⟨n,h,e⟩;exact⟨n,dW.2 h,e⟩
def sh (x:Nat):List Nat→List Nat
 | []=>[x]
 |y::l=>if x<y then x::y::l else if x=y then y::l else y::sh x l
theorem oU {x z:Nat}:∀{l:List Nat},z∈sh x l↔z=x∨z∈l
 | []=>by simp[sh]
 |y::l=>by
  unfold sh
  split
  ·simp
  ·split
   ·rename_i h;subst h;simp
   ·rw[List.mem_cons,oU,List.mem_cons];constructor
    ·rintro(h|h|h)<;>simp[h]
    ·rintro(h|h|h)<;>simp[h]
theorem ri {x:Nat}:∀{l:List Nat},l.Pairwise (·<·)→(sh x l).Pairwise (·<·)
 | [],_=>by simp[sh]
 |y::l,h=>by
  have h2:=List.pairwise_cons.1 h;unfold sh
  split
  ·rename_i hx
   refine List.pairwise_cons.2 ⟨fun a b=>?_,h⟩;rcases List.mem_cons.1 b with rfl|b
   ·exact hx
   ·exact Nat.lt_trans hx (h2.1 a b)
  ·split
   ·exact h
   ·rename_i d c
    refine List.pairwise_cons.2 ⟨fun a b=>?_,ri h2.2⟩;rcases oU.1 b with rfl|b
    ·omega
    ·exact h2.1 a b
def mW (l:List Nat):List Nat:=l.foldr sh []
theorem gT:∀l:List Nat,(mW l).Pairwise (·<·)∧∀x,x∈mW l↔x∈l
 | []=>by simp[mW]
 |y::l=>by
  have a:=gT l;exact⟨ri a.1,fun x=>by
   show x∈sh y (mW l)↔_
   rw[oU,a.2,List.mem_cons]⟩
theorem DL (l:List Nat):eD l=mW l:=by
 refine kJ (fG (ji (gS l)) (ji (gT l).1) fun x=>?_);rw[bQ,bQ];constructor
 ·rintro⟨n,h,e⟩;exact⟨n,((gT l).2 n).2 (dW.1 h),e⟩
 ·rintro⟨n,h,e⟩;exact⟨n,dW.2 (((gT l).2 n).1 h),e⟩
def FF (A:Au) (t:Nat) (l:List Nat):List (List Nat):=(List.range (2^t)).map fun c=>mW (dR A t l c)
def rQ (A:Au) (t k:Nat):List (List Nat)×List (List Nat):=bfs (FF A t) id [0] k
theorem bg (A:Au) (t k:Nat):cA A t k=rQ A t k:=by
 have :fR A t=FF A t:=funext fun l=>by
  unfold fR FF;exact List.map_congr_left fun c _=>DL _
 unfold cA rQ;rw[this]
def Fw (A:Au) (t k:Nat):Au:=⟨t,(rQ A t k).1.map (fun l=>l.any fun s=>(cq A t).getD s false),(rQ A t k).2.map fun r=>r.map Int.ofNat⟩
theorem cw (A:Au) (t k:Nat):eR A t k=Fw A t k:=by
 unfold eR Fw;rw[bg]
theorem Es {A:Au} {t k:Nat} (q:t≤6) (p:(cA A t k).2.length=(cA A t k).1.length) (f:(cA A t k).1.length≤400):AuOk (eR A t k):=by
 have b:=ek (fR A t) id [0] k
 change BfsInv (fR A t) id [0] (cA A t k).1 (cA A t k).2 at b
 have e:0<(cA A t k).1.length:=(List.getElem?_eq_some_iff.1 b.first).1;have a:(eR A t k).acc.length=(cA A t k).1.length:=by simp[eR]
 refine⟨⟨Int.natCast_nonneg t,?_,by rw[a];omega,by rw[a];omega,by rw[a];simp[eR,p]⟩,fun l n=>?_⟩
 ·show(t:Int)≤6;omega
 rw[a];obtain⟨r,m,rfl⟩:=List.mem_map.1 n;obtain⟨i,o,rfl⟩:=List.getElem_of_mem m;have c:i<(cA A t k).1.length:=by omega
 obtain⟨g,d⟩:=b.here i _ _ (List.getElem?_eq_getElem c) (List.getElem?_eq_getElem o);refine⟨?_,fun x hx=>?_⟩
 ·rw[List.length_map,d,List.length_map,jh];rfl
 ·rw[d]at hx;obtain⟨y,j,rfl⟩:=List.mem_map.1 hx;obtain⟨z,h,rfl⟩:=List.mem_map.1 j;have :=l9 (g z h);rw[List.length_map]at this;exact⟨Int.natCast_nonneg _,Int.ofNat_lt.2 this⟩
theorem wk (A:Au) (t k:Nat):(cA A t k).1<+:(cA A t (k+1)).1:=by
 show(cA A t k).1<+:(el (fR A t) id (cA A t k)).1
 unfold el
 split
 ·exact List.prefix_rfl
 ·exact gr _ _ _
theorem qG (A:Au) (t k:Nat):∀m,k≤m→(cA A t k).1<+:(cA A t m).1:=by
 intro m a
 induction m with
 |zero=>rw[show k=0 by omega];exact List.prefix_rfl
 |succ m ih=>
  by_cases e:k=m+1
  ·rw[e];exact List.prefix_rfl
  ·exact(ih (by omega)).trans (wk A t m)
theorem rP {σ κ:Type} [DecidableEq κ] (key:σ→κ) (l ts:List σ) (c:Nat):(aT key l (ts.take c)).1<+:(aT key l ts).1:=by
 have e:aT key l ts=(ts.drop c).foldl (eL key) (aT key l (ts.take c)):=by
  unfold aT;rw[←List.foldl_append,List.take_append_drop]
 rw[e];exact mf key _ _
def GoodS (N:Nat) (l:List Nat):Prop:=l≠[]∧l.Pairwise (·<·)∧∀s∈l,s<N
theorem AJ {A:Au} (b:AuOk A) {t c:Nat} {l:List Nat} (h:l≠[]):GoodS A.acc.length (eD (dR A t l c)):=by
 refine⟨fun e=>?_,gS _,fun s hs=>?_⟩
 ·obtain⟨x,a,rfl⟩:=List.exists_cons_of_ne_nil h;have :nx A x c∈eD (dR A t (x::a) c):=dW.2 (by simp[dR]);rw[e]at this;cases this
 ·rw[dW]at hs;obtain⟨x,_,hx⟩:=List.mem_flatMap.1 hs;simp only[List.mem_cons,List.not_mem_nil,or_false]at hx;rcases hx with rfl|rfl<;>exact ep b _ _
theorem GoodS.len {N:Nat} {l:List Nat} (h:GoodS N l):l.length≤N:=gz N l (h.2.1.imp fun h=>by omega) h.2.2
theorem GoodS.zero {N:Nat} (h:1≤N):GoodS N [0]:=⟨by simp,by simp,fun s hs=>by simp at hs;omega⟩
section
attribute [local irreducible] wpQuiet ax au aQ
variable {R:Ending→World→Prop} {w:World}
theorem tJ (x:ByteArray) (l:List UInt8) (h:x.data.toList=l):x=⟨l.toArray⟩:=by
 subst h
 cases x
 simp
theorem Bn {i:Nat} (h:i<100) (g:∀e,e=.returned (.string ⟨(Lib.decDigits i).toArray⟩)→R e w):
 Calls Tryz.prog 325 #[IP i] w R:=by
 have j:=ae g;clear g;go_enter Tryz.func325,Tryz.ntmps325
 go_name_bytes_deep 45 SM hSM
 have c:SM=Lib.smalls:=by rw[←hSM];decide+kernel
 subst c;clear hSM
 go_name_bytes_deep 30 DG hDG
 have d:DG=Lib.digits36:=by rw[←hDG];decide+kernel
 subst d;clear hDG;by_cases a:i<10
 ·have b:∀w,(Instr.slice 9 (.string Lib.digits36) (some (.int .i64 (i:Int))) (some (.int .i64 ((i:Int)+1))) none).run Tryz.prog w=.ok (.string (Lib.digits36.extract i (i+1))) w:=fun w=>by
   rw[run_slice_string w 9 Lib.digits36 .i64 .i64 _ _ Tryz.underlying9 (by omega) (by omega) (by rw[Lib.digits36_size];omega),show((i:Int)).toNat=i by omega,show((i:Int)+1).toNat=i+1 by omega]
  have f:=ae (tJ (Lib.digits36.extract i (i+1)) (Lib.decDigits i) (by rw[Lib.extract_data];exact Lib.digits36_piece a));go_wp2_with fail;refine j.o _ ?_;rw[←f.o];rfl
 ·have b:∀w,(Instr.slice 9 (.string Lib.smalls) (some (.int .i64 ((i:Int)*2))) (some (.int .i64 ((i:Int)*2+2))) none).run Tryz.prog w=.ok (.string (Lib.smalls.extract (i*2) (i*2+2))) w:=fun w=>by
   rw[run_slice_string w 9 Lib.smalls .i64 .i64 _ _ Tryz.underlying9 (by omega) (by omega) (by rw[Lib.smalls_size];omega),show((i:Int)*2).toNat=i*2 by omega,show((i:Int)*2+2).toNat=i*2+2 by omega]
  have f:=ae (tJ (Lib.smalls.extract (i*2) (i*2+2)) (Lib.decDigits i) (by rw[Lib.extract_data];exact Lib.smalls_piece a h));go_wp2_with fail;refine j.o _ ?_;rw[←f.o];rfl
theorem oc {u:Nat} (a:u<100):(Lib.decDigits u).length≤2∧1≤(Lib.decDigits u).length:=by
 by_cases h:u<10
 ·rw[Lib.decDigits_one h];simp
 ·rw[Lib.decDigits_two h a];simp
theorem rF:(Tryz.prog.info? 5).map (fun i=>(i.zero,i.size,i.bytes))=some (some (.int .u8 0),1,1):=by kernel_rfl
theorem Gv {P:Prop} (h:Hid P):P:=h.o
def iX (l:List UInt8):List Value:=l.map fun b=>.int .u8 (b.toNat:Int)
theorem vW {B u n:Nat} {j:Value} {r:List Value} (t:u<100) (d:w.ownsRow B 5 1 j n r) (D:B≤w.heap.size) (H:n≤1000000)
 (v:∀e i h,e=.returned h→i.ownsRow B 5 1 h (n+(Lib.decDigits u).length) (r++iX (Lib.decDigits u))→Keeps (fun b=>j.ownBlock≠some b) w i→R e i):
 Calls Tryz.prog 315 #[j,.int .u64 (u:Int),IP 10] w R:=by
 have E:=ae v;clear v;obtain⟨y,p,o,m,l⟩:=info_parts rF;have z:=(oc t).1;have g:(⟨(Lib.decDigits u).toArray⟩:ByteArray).size=(Lib.decDigits u).length:=by simp[ByteArray.size]
 have F:=ae d;obtain⟨s,c,rfl⟩:=av d;clear d;go_enter Tryz.func315,Tryz.ntmps315;go_wp2_with fail;refine Bn t ?_;rintro e rfl
 go_wp2_with (at_builtin;refine Lib.wpList_append_own_string _ rfl _ _ 76 9 rfl B 5 y Tryz.underlying76 Tryz.underlying9 p o m l _ _ _ rfl F.o ⟨(Lib.decDigits u).toArray⟩ rfl (by rw[g];unfold maxLen;omega) (by rw[g];omega) D ?_;refine Gv ?_)
 refine ae ?_;intro h x a f _;have q:=ae a;have G:=ae f;clear a f;go_wp2_with fail;exact E.o _ x h rfl q.o ((af _ w).grown G.o (fun k A C=>C.2 A))
theorem vX {B u n:Nat} {g:Value} {j:List Value} (m:u<100) (a:w.ownsRow B 5 1 g n j) (p:B≤w.heap.size) (o:n≤1000000)
 (l:∀e d f,e=.returned f→d.ownsRow B 5 1 f (n+(Lib.decDigits u).length) (j++iX (Lib.decDigits u))→Keeps (fun b=>g.ownBlock≠some b) w d→R e d):
 Calls Tryz.prog 309 (Il g u 10) w R:=by
 have q:=ae l;clear l;have r:=ae a;obtain⟨s,c,rfl⟩:=av a;clear a;go_enter Tryz.func309,Tryz.ntmps309;go_wp2_with fail;refine vW m r.o p o ?_;rintro e d f rfl ho k;obtain⟨t,v,rfl⟩:=av ho;have h:=ae ho;have i:=ae k;clear ho k;go_wp2_with fail;exact q.o _ _ _ rfl h.o i.o
theorem ze {B u n:Nat} {g:Value} {j:List Value} (m:u<100) (a:w.ownsRow B 5 1 g n j) (p:B≤w.heap.size) (o:n≤1000000)
 (l:∀e d f,e=.returned f→d.ownsRow B 5 1 f (n+(Lib.decDigits u).length) (j++iX (Lib.decDigits u))→Keeps (fun b=>g.ownBlock≠some b) w d→R e d):
 Calls Tryz.prog 291 (Il g u 10) w R:=by
 have q:=ae l;clear l;have r:=ae a;obtain⟨s,c,rfl⟩:=av a;clear a;go_enter Tryz.func291,Tryz.ntmps291;go_wp2_with fail;refine vX m r.o p o ?_;rintro e d f rfl ho k;obtain⟨t,v,rfl⟩:=av ho;have h:=ae ho;have i:=ae k;clear ho k;go_wp2_with fail;exact q.o _ _ _ rfl h.o i.o
def fT (l:List Nat):List UInt8:=l.flatMap fun n=>Lib.decDigits n++[44]
theorem At (l:List Nat) (n:Nat):fT (l++[n])=fT l++Lib.decDigits n++[44]:=by simp[fT,List.flatMap_append]
theorem uK:∀{l:List Nat},(∀n∈l,n<100)→(fT l).length≤3*l.length
 | [],_=>by simp[fT]
 |n::l,h=>by
  have b:=uK (l:=l) fun m a=>h m (List.mem_cons_of_mem _ a);have h1:=(oc (h n (List.mem_cons_self ..))).1;simp only[fT,List.flatMap_cons,List.length_append,List.length_cons,List.length_nil]at *;omega
theorem pP (a b:List UInt8):iX (a++b)=iX a++iX b:=by simp[iX]
theorem rS {v:Value} {l:List Nat} (hv:IntsAt w v (l.map Int.ofNat)) (Y:∀n∈l,n<100) (aH:l.length≤400) (H:l≠[])
 (hR:∀e U,e=.returned (.string ⟨(fT l).toArray⟩)→Same w U→R e U):
 Calls Tryz.prog 266 #[v] w R:=by
 have HR:=ae hR;clear hR;obtain⟨a,c,rfl,M,L,f⟩:=hv.open;rw[List.length_map]at M;have HC:=ae f;have N:=ae Y;simp only[List.length_map];unfold maxLen at L;clear f hv Y;go_enter Tryz.func266,Tryz.ntmps266;go_wp2_with fail
 go_loopw [3,5,8] (fun u _ i wr=>∃k:Nat,i=.int .i64 (k:Int)∧k≤l.length∧Hid (wr.ownsRow w.heap.size 5 1 u (fT (l.take k)).length (iX (fT (l.take k))))∧Hid (Same w wr)) (fun _ _ i _=>l.length -(intOf i).toNat)
 case atStart=>exact⟨0,rfl,Nat.zero_le _,ae (World.ownsRow_nil _ _ _ _),ae (af _ _)⟩
 case round=>
  obtain⟨k,rfl,hk,q,C⟩:=hrel;obtain⟨su,cu,rfl⟩:=av q.o;have r:(fT (l.take k)).length≤3*(l.take k).length:=uK fun n z=>N.o n (List.mem_of_mem_take z);have a8:(l.take k).length≤l.length:=List.length_take_le' ..;by_cases m:k<l.length
  ·obtain⟨b,off,rfl,D,B⟩:=HC.o k (by rw[List.length_map];exact m);have p:=ak C.o (B k (by rw[List.length_map];exact m)) trivial;rw[List.getElem_map]at p;have z:=N.o _ (List.getElem_mem m);have t:fT (l.take (k+1))=fT (l.take k)++Lib.decDigits l[k]++[44]:=by rw[List.take_succ_eq_append_getElem m,At]
   have s:=ae t;clear B t;generalize l[k]=x at p z s;have Z:wr.cell? ⟨b,off+k,none⟩=some (.int .i64 (x:Int)):=p;clear p;generalize bL:fT (l.take k)=X at q r s⊢;have ce:=(oc z).1;go_wp2_with fail;refine ze z q.o C.o.size (by omega) ?_;rintro e w2 v2 rfl h F;have T:=ae (fun b (D:v2.ownBlock=some b)=>(ah h D).1);obtain⟨s2,c2,rfl⟩:=av h;obtain⟨gg,aL,w3,y,d,o,J,_⟩:=bi (P:=Tryz.prog) w2 76 76 5 Tryz.underlying76 rF rfl h (Nat.le_trans C.o.size F.size) (.int .u8 44) rfl (by omega) (by decide);have HF:=ae (And.intro d o);have O:=ae F;clear d h F J o
   go_wp2_with (at_builtin;refine ap rfl _ _ _ rfl rfl rfl y ?_;clear y)
   go_roundw
   case rel=>
    obtain⟨d,o⟩:=HF.o;refine⟨k+1,by go_num,by omega,ae ?_,ae ?_⟩
    ·rw[s.o,List.length_append,List.length_append,pP,pP];exact d
    ·exact(C.o.trans O.o fun b D _=>⟨trivial,fun e=>by have :=(ah q.o e).1;omega⟩).trans o fun b D _=>⟨trivial,fun e=>by have :=T.o b e;omega⟩
   case measure=>simp[intOf];omega
  ·obtain rfl:k=l.length:=by omega
   simp only[List.take_length]at q r⊢;obtain⟨E,V,rfl⟩:=List.exists_cons_of_ne_nil H;have ch:=(oc (N.o E (List.mem_cons_self ..))).2;have I:1≤(fT (E::V)).length:=by simp only[fT,List.flatMap_cons,List.length_append];omega
   generalize fT (E::V)=X at q r I HR⊢;have G:∃g,su=some ⟨g,0,none⟩:=by
    rcases q.o.2 with⟨_,h0⟩|⟨g,cap,cH,e1,_⟩
    ·omega
    ·simp at e1;exact⟨g,e1.1⟩
   obtain⟨g,rfl⟩:=G;have A:=World.ownsRow.cells q.o (g:=g) rfl;have cE:=run_convert_bytes_back (P:=Tryz.prog) wr 76 9 5 ⟨g,0,none⟩ cu X Tryz.underlying76 Tryz.underlying5 Tryz.underlying9 (fun j hj=>A j _ (by unfold iX;rw[List.getElem?_map,List.getElem?_eq_getElem hj];rfl));clear A;go_wp2_with fail;exact HR.o _ _ rfl C.o
end
end Go.Proofs.YtojegnbejmeehaaGreatDoor
