/- Helpers of the proof of TopNames. -/
import Derived.Test.YtojegnbejmeehaaGreatDoorJAT
import Derived.Test.YtojegnbejmeehaaGreatDoorJBH
import Derived.Test.YtojegnbejmeehaaGreatDoorJBC
namespace Go.Proofs.YtojegnbejmeehaaGreatDoor
open Go.RowKit
set_option maxRecDepth 10000
set_option maxHeartbeats 16000000
set_option linter.all false
section
attribute [local irreducible] wpQuiet ax au aQ
variable {R:Ending→World→Prop} {w:World}
def Cl (r:Nat) (c:Int):Prop:=(c=1∧cd r=true)∨(c=2∧cd r=false∧cU r=true)∨((c=0∨c=3∨c=4)∧cd r=false∧cU r=false)
theorem mI (r:Nat):cd r=true↔((97≤r∧r≤122)∨(65≤r∧r≤90)∨r=95∨(945≤r∧r≤969)):=by
 unfold cd;simp only[Bool.or_eq_true,Bool.and_eq_true,decide_eq_true_eq,beq_iff_eq];omega
theorem yw {r:Nat} (h:¬((97≤r∧r≤122)∨(65≤r∧r≤90)∨r=95∨(945≤r∧r≤969))):cd r=false:=by
 rw[←mI]at h;simpa using h
theorem DB (r:Nat) (n:∀e a c,e=.returned (IP c)→Cl r c→Same w a→R e a):
 Calls Tryz.prog 69 #[.int .i32 (r:Int)] w R:=by
 have f:=ae n;clear n;have b:((97≤r∧r≤122)∨(65≤r∧r≤90)∨r=95∨(945≤r∧r≤969))∨(48≤r∧r≤57)∨(r<48∨(58≤r∧r<65)∨(91≤r∧r<95)∨r=96∨(123≤r∧r<945)∨970≤r):=by omega
 rcases b with h|h|h
 ·have g:=ae ((mI r).2 h);have d:Hid (∀e a,e=.returned (IP 1)→Same w a→R e a):=ae fun e a j k=>f.o e a 1 j (.inl ⟨rfl,g.o⟩) k;clear f g;rcases h with⟨h1,h2⟩|⟨h1,h2⟩|rfl|⟨h1,h2⟩
  all_goals
   go_enter Tryz.func69,Tryz.ntmps69;go_wp2_with fail;exact d.o _ _ rfl (af _ _)
 ·have g:Hid (Cl r 2):=ae (.inr (.inl ⟨rfl,yw (by omega),by unfold cU;simp;omega⟩));have d:Hid (∀e a,e=.returned (IP 2)→Same w a→R e a):=ae fun e a j k=>f.o e a 2 j g.o k;clear f g;obtain⟨h1,h2⟩:=h;go_enter Tryz.func69,Tryz.ntmps69;go_wp2_with fail;exact d.o _ _ rfl (af _ _)
 ·have m:cd r=false∧cU r=false:=⟨yw (by omega),by unfold cU;simp;omega⟩;have d:Hid (∀e a c,c=0∨c=3∨c=4→e=.returned (IP c)→Same w a→R e a):=ae fun e a c p j k=>f.o e a c j (.inr (.inr ⟨p,m⟩)) k;clear f m;have q:((r:Int)==95)=false:=by simp;omega
  rcases h with h|h|h|h|h|h
  all_goals
   go_enter Tryz.func69,Tryz.ntmps69;go_wp2_with fail
  all_goals first
   |exact d.o _ _ 3 (.inr (.inl rfl)) rfl (af _ _)
   |skip
  all_goals
   go_loopw [4] (fun i wr=>∃k:Nat,i=.int .i64 (k:Int)∧k≤17∧Hid (Same w wr)) (fun i _=>17 -(intOf i).toNat)
   case atStart=>exact⟨0,rfl,Nat.zero_le _,ae (af _ _)⟩
   case round=>
    obtain⟨k,rfl,s,l⟩:=hrel;by_cases o:k<17
    ·go_wp2_with fail
     ·exact d.o _ _ 4 (.inr (.inr rfl)) rfl l.o
     ·go_roundw
      case rel=>exact⟨k+1,by go_num,by omega,l⟩
      case measure=>simp[intOf];omega
    ·obtain rfl:k=17:=by omega
     go_wp2_with fail;exact d.o _ _ 0 (.inl rfl) rfl l.o
def mz (s:ByteArray):Nat→List (Nat×Nat)→Nat→Prop
 |i,[],j=>i=j
 |i,p::l,j=>p.2=i∧p.1<2147483648∧∃n,1≤n∧i+n≤s.size∧(Gk p.1→At1 s i p.1∧n=wid p.1)∧mz s (i+n) l j
theorem qD {s:ByteArray} {r n:Nat}:∀{l:List (Nat×Nat)} {i j:Nat},mz s i l j→r<2147483648→1≤n→j+n≤s.size→(Gk r→At1 s j r∧n=wid r)→mz s i (l++[(r,j)]) (j+n)
 | [],i,j,h,h1,h2,h3,h4=>by
  cases h
  exact⟨rfl,h1,n,h2,h3,h4,rfl⟩
 |p::l,i,j,⟨h,hp,m,g1,g2,g3,g4⟩,h1,h2,h3,h4=>⟨h,hp,m,g1,g2,g3,qD g4 h1 h2 h3 h4⟩
theorem lI {s:ByteArray}:∀{l:List (Nat×Nat)} {i j:Nat},mz s i l j→i+l.length≤j∧(i≤s.size→j≤s.size)
 | [],i,j,h=>by cases h;exact⟨by simp,fun h=>h⟩
 |p::l,i,j,⟨_,_,n,h1,h2,_,h4⟩=>by
  have :=lI h4;rw[List.length_cons];omega
def plc (L:List (Nat×Nat)) (j k:Nat):Nat:=match L[k]? with |some p=>p.2|none=>j
theorem kQ {L:List (Nat×Nat)} {j k:Nat} (h:k<L.length):plc L j k=L[k].2:=by unfold plc;rw[List.getElem?_eq_getElem h]
theorem lM {L:List (Nat×Nat)} {j k:Nat} (h:L.length≤k):plc L j k=j:=by unfold plc;rw[List.getElem?_eq_none h]
theorem fq {s:ByteArray}:∀(k:Nat) {L:List (Nat×Nat)} {i j:Nat},mz s i L j→k≤L.length→mz s (plc L j k) (L.drop k) j
 |0,[],i,j,h,_=>by cases h;rfl
 |0,p::l,i,j,h,_=>by
  have :plc (p::l) j 0=i:=h.1
  rw[this];exact h
 |k+1,p::l,i,j,⟨_,_,n,_,_,_,h4⟩,hk=>by
  show mz s (plc l j k) (l.drop k) j
  exact fq k h4 (by simpa using hk)
theorem oE {s:ByteArray}:∀(m:Nat) {l:List (Nat×Nat)} {i j:Nat},mz s i l j→m≤l.length→(∀p∈l.take m,Gk p.1)→yS s i ((l.take m).map Prod.fst) (plc l j m)
 |0,[],i,j,h,_,_=>by cases h;rfl
 |0,p::l,i,j,h,_,_=>by
  have :plc (p::l) j 0=i:=h.1
  rw[this];rfl
 |m+1,p::l,i,j,⟨_,_,n,_,_,h3,h4⟩,hm,hg=>by
  have b:Gk p.1:=hg p (by simp);obtain⟨c,rfl⟩:=h3 b;exact⟨c,oE m h4 (by simpa using hm) (fun q a=>hg q (by simp[a]))⟩
theorem yJ (s:ByteArray) {k:Nat} (h:s.size≤k):s.get! k=0:=by
 have h:¬k<s.data.size:=Nat.not_lt.2 h
 show s.data[k]! =0
 exact getElem!_neg s.data k h
theorem gQ (s:ByteArray) (i k:Nat):(s.extract i s.size).get! k=s.get! (i+k):=by
 by_cases h:i+k<s.size
 ·have h1:k<(s.extract i s.size).data.size:=by
   show k<(s.extract i s.size).size
   rw[ByteArray.size_extract];omega
  have b:(s.extract i s.size).get! k=(s.extract i s.size).data[k]:=getElem!_pos (s.extract i s.size).data k h1;have a:s.get! (i+k)=s.data[i+k]'h:=getElem!_pos s.data (i+k) h;rw[b,a];simp[ByteArray.data_extract]
 ·rw[yJ s (by omega),yJ _ (show(s.extract i s.size).size≤k from by rw[ByteArray.size_extract];omega)]
theorem vg {s:ByteArray} {i:Nat} (h:i<s.size):Lib.decodeGo (s.extract i s.size)=Utf8.decode s i:=by
 have a:(s.extract i s.size).size=s.size -i:=by rw[ByteArray.size_extract];omega
 unfold Lib.decodeGo;rw[a,if_neg (by omega),Lib.decode_at,Lib.decode_at,a,gQ,gQ,gQ,gQ];rfl
theorem xA {s:ByteArray} {i:Nat} (h:i<s.size):1≤(Utf8.decode s i).2∧i+(Utf8.decode s i).2≤s.size∧(Utf8.decode s i).1<2147483648:=by
 rw[Lib.decode_at];have a:∀k,(s.get! k).toNat<256:=fun k=>(s.get! k).toNat_lt;have h0:=a i;have h1:=a (i+1);have h2:=a (i+2);have b:=a (i+3);generalize(s.get! i).toNat=f at h0⊢;generalize(s.get! (i+1)).toNat=e at h1⊢;generalize(s.get! (i+2)).toNat=d at h2⊢;generalize(s.get! (i+3)).toNat=c at b⊢;unfold Lib.decodeN
 repeat' split
 all_goals simp only
 all_goals omega
def iY (L:List (Nat×Nat)):List (List Value):=L.map fun p=>[.int .i32 (p.1:Int),.int .i64 (p.2:Int)]
theorem qE (L:List (Nat×Nat)):∀c∈iY L,c.length=2:=by
 intro c a;obtain⟨p,_,rfl⟩:=List.mem_map.1 a;rfl
theorem gh (L:List (Nat×Nat)):(iY L).length=L.length:=by simp[iY]
theorem we (L:List (Nat×Nat)) (r j:Nat):iY (L++[(r,j)])=iY L++[[.int .i32 (r:Int),.int .i64 (j:Int)]]:=by simp[iY]
theorem Ff {s:ByteArray} (hs:s.size≤3000) (hT:Lib.Utf8Tabs 0 1 w)
 (hR:∀e J u L j (x:Int),e=.returned (.tuple (Ia u x))→StrAt 2 J u (iY L)→(∀b,live u=some b→w.heap.size≤b)→mz s 0 L j→(x=-1∧j=s.size)∨(x=(j:Int)∧j<s.size)→Same w J→R e J):
 Calls Tryz.prog 23 #[.string s] w R:=by
 have HR:=ae hR;have Y:=ae hT;clear hR hT;go_enter Tryz.func23,Tryz.ntmps23;go_wp2_with fail
 go_loopw [4,5] (fun q i wr=>∃(L:List (Nat×Nat)) (j:Nat),i=.int .i64 (j:Int)∧j≤s.size∧L.length≤j∧Hid (wr.ownsRow w.heap.size 108 2 q L.length (iY L).flatten)∧Hid (mz s 0 L j)∧Hid (Same w wr)) (fun _ i _=>s.size -(intOf i).toNat)
 case atStart=>exact⟨[],0,rfl,Nat.zero_le _,Nat.le_refl _,ae ⟨rfl,.inl ⟨rfl,rfl⟩⟩,ae rfl,ae (af _ _)⟩
 case round=>
  obtain⟨L,j,rfl,hj,bL,G,I,A⟩:=hrel;obtain⟨s0,c0,rfl⟩:=av G.o;by_cases h:j<s.size
  ·have t:=xA h;have D:=vg h;have l:=fun z=>xB (s:=s) h (r:=(Utf8.decode s j).1) z rfl;have a:Gk (Utf8.decode s j).1→(Utf8.decode s j).2=wid (Utf8.decode s j).1:=fun z=>by
    have :=pQ (l z);exact congrArg Prod.snd this
   have E:Lib.Utf8Tabs 0 1 wr:=⟨fun c hc=>A.o.cell (Y.o.1 c hc) trivial,fun i hi=>⟨A.o.cell (Y.o.2 i hi).1 trivial,A.o.cell (Y.o.2 i hi).2 trivial⟩⟩;have F:=utf8_DecodeRuneInString (s.extract j s.size) wr E;rw[D]at F;generalize(Utf8.decode s j).1=r at t l a F;generalize(Utf8.decode s j).2=n at t a F;have HA:Hid (Gk r→At1 s j r∧n=wid r):=ae fun z=>⟨l z,a z⟩;have CS:=ae F;obtain⟨T,O,N⟩:=t;clear l a D F E;go_wp2_with fail;refine CS.o.mono ?_;rintro e w1 ⟨rfl,f⟩;have M:Same _ _:=⟨f.os,f.tape,f.output,f.size,fun k hk _=>f.block k hk⟩;have m:=ae (A.o.tr M);have d:=ae (ar G.o M fun _ _=>trivial);have B:w.heap.size≤w1.heap.size:=m.o.size;clear M f CS G A;by_cases p:r=65533∧n<2
   ·obtain⟨rfl,hn⟩:=p;go_wp2_with fail;exact HR.o _ _ _ L j _ rfl (dg (qE L) (by rw[gh];exact d.o)) (fun b f=>mF d.o f) I.o (.inr ⟨rfl,h⟩) m.o
   ·have v:((r:Int)==65533)=false∨((r:Int)==65533)=true∧¬((n:Int)<2):=by
     by_cases H:r=65533
     ·exact .inr ⟨by simp[H],by omega⟩
     ·exact .inl (by simp;omega)
    have X:=ae (qD (n:=n) I.o N T O HA.o);obtain⟨g,cap,w4,H,o,C,V,U⟩:=cF (P:=Tryz.prog) (k:=2) (by decide) w1 78 78 108 Tryz.underlying78 tM rfl d.o B [.int .i32 (r:Int),.int .i64 (j:Int)] rfl (by simp[Value.oneCell']) (by omega) (by decide);have Z:Hid (w4.ownsRow w.heap.size 108 2 _ (L++[(r,j)]).length (iY (L++[(r,j)])).flatten):=ae (by rw[we,List.length_append];simpa using o);have aH:Hid (Same w w4):=ae (m.o.trans C fun y hy _=>⟨trivial,fun e=>by have :=(ah d.o e).1;omega⟩);clear o C V U d m p I HA;have aL:(L++[(r,j)]).length=L.length+1:=by simp
    rcases v with v|⟨v,a8⟩
    all_goals
     go_wp2_with (at_builtin;refine ap rfl _ _ _ rfl rfl rfl H ?_;clear H)
     go_roundw
     case rel=>exact⟨L++[(r,j)],j+n,by go_num,by omega,by omega,Z,X,aH⟩
     case measure=>simp[intOf];omega
  ·obtain rfl:j=s.size:=by omega
   go_wp2_with fail;exact HR.o _ _ _ L _ _ rfl (dg (qE L) (by rw[gh];exact G.o)) (fun b f=>mF G.o f) I.o (.inl ⟨rfl,rfl⟩) A.o
end
section
attribute [local irreducible] wpQuiet ax au aQ
variable {R:Ending→World→Prop} {w:World} {x n j:Nat} {v:Value} {s:ByteArray} {L:List (Nat×Nat)} {bad:Int}
structure RdAt (w:World) (x:Nat) (v:Value) (s:ByteArray) (L:List (Nat×Nat)) (j:Nat) (bad:Int) (n:Nat):Prop where
 blk:w.heap[x]?=some (.cells #[s,v,bad,n] 80)
 runes:StrAt 2 w v (iY L)
 ne:live v≠some x
 runs:mz s 0 L j
 bd:(bad=-1∧j=s.size)∨(bad=(j:Int)∧j<s.size)
 le:s.size≤3000
 at_:n≤L.length
theorem RdAt.len (h:RdAt w x v s L j bad n):L.length≤3000∧j≤s.size:=by
 have h1:=lI h.runs;have h2:=h.le;rcases h.bd with⟨_,a⟩|⟨_,a⟩<;>omega
theorem RdAt.same {a:World} (h:RdAt w x v s L j bad n) (k:Same w a):RdAt a x v s L j bad n:=
 ⟨k.at h.blk trivial,h.runes.same k,h.ne,h.runs,h.bd,h.le,h.at_⟩
theorem RdAt.kept {S:Nat→Prop} {a:World} (h:RdAt w x v s L j bad n) (k:Keeps S w a) (hx:S x) (hv:∀b,live v=some b→S b):RdAt a x v s L j bad n:=
 ⟨k.at h.blk hx,h.runes.keep k hv,h.ne,h.runs,h.bd,h.le,h.at_⟩
theorem RdAt.step {a:World} {m:Nat} (h:RdAt w x v s L j bad n) (k:Keeps (·≠x) w a) (b:a.heap[x]?=some (.cells #[s,v,bad,m] 80)) (c:m≤L.length):RdAt a x v s L j bad m:=
 ⟨b,h.runes.keep k fun _ b e=>h.ne (e▸b),h.ne,h.runs,h.bd,h.le,c⟩
theorem RdAt.next {a:World} {m:Nat} (h:RdAt w x v s L j bad n) (k:Same w a) (b:m≤L.length):RdAt (a.setCell ⟨x,3,none⟩ (IP (m:Int))) x v s L j bad m:=
 h.step (k.bar x|>.but 3 _) (by rw[aj (k.at h.blk trivial)];simp) b
theorem RdAt.open (h:RdAt w x v s L j bad n):∃a c,v=.slice a L.length c∧L.length≤c∧c≤maxLen∧
 (∀i (d:i<L.length),∃b off,a=some ⟨b,off,none⟩∧w.cell? ⟨b,off+i*2,none⟩=some (.int .i32 (L[i].1:Int))∧w.cell? ⟨b,off+i*2+1,none⟩=some (.int .i64 (L[i].2:Int))):=by
 obtain⟨a,c,rfl,h1,h2,f⟩:=h.runes.open;rw[gh]at *;refine⟨a,c,rfl,h1,h2,fun i d=>?_⟩;obtain⟨b,off,rfl,_,e⟩:=f i d;have hx:(iY L)[i]?=some [.int .i32 (L[i].1:Int),.int .i64 (L[i].2:Int)]:=by simp[iY,d]
 exact⟨b,off,rfl,e i _ hx 0 _ rfl,e i _ hx 1 _ rfl⟩
theorem ip {k:Nat} (h:RdAt w x v s L j bad n) (hk:k≤3000) (hR:∀e d c,e=.returned (IP c)→(∀J:n+k<L.length,Cl L[n+k].1 c)→(L.length≤n+k→c=-1)→Same w d→R e d):
 Calls Tryz.prog 43 (Ia (IL x) k) w R:=by
 have G:=ae hR;clear hR;obtain⟨a,c,rfl,C,O,f⟩:=h.open;have t:=h.blk;have A:=h.len.1;have a8:=h.le;have J:=h.at_;unfold maxLen at O;obtain⟨U,p,T,u⟩:=xc4 t rfl rfl rfl rfl;have aH:IntKind.i64.wrap ((n:Int)+(k:Int))=(n:Int)+(k:Int):=by rw[IntKind.wrap_i64];omega
 by_cases i:n+k<L.length
 ·obtain⟨b,off,rfl,E,z1⟩:=f _ i;have H:Hid (∀e d c,e=.returned (IP c)→Cl L[n+k].1 c→Same w d→R e d):=ae fun e d c M hc I=>G.o e d c M (fun _=>hc) (fun h=>absurd i (by omega)) I;clear G h f t U T z1;generalize L[n+k].1=r at H E;generalize L.length=l at C J A p i;have N:decide ((l:Int)≤(n:Int)+(k:Int))=false:=by simp;omega
  have ce:0≤(n:Int)+(k:Int):=by omega
  have bL:(n:Int)+(k:Int)<(l:Int):=by omega
  have aL:((n:Int)+(k:Int)).toNat=n+k:=by omega
  go_enter Tryz.func43,Tryz.ntmps43;go_wp2_with fail;refine aq (by kernel_rfl) (by kernel_rfl) ?_
  iterate 12 (apply wpQuiet_step;intro K m;(first|(apply aA;rfl;go_simp)|(apply aJ;rfl;intro d g;obtain⟨Y,X⟩:=xs2 g p u;go_simp;exact rfl;go_simp));refine m _ ?_;clear m K)
  apply wpQuiet_nil;intro y o;obtain⟨p,u,E⟩:=xs3 o p u E;have q:=ae o;clear o;go_wp2_with fail;have Z:Same y y.drew:=al (af (fun _=>True) y);refine az (.take 0 (.take 1 (.take 2 (.take 3 (.take 4 (.take 5 (.take 6 (.take 7 (.take 8 (.take 9 (.take 10 (.take 11 (.take 12 (.one 13 (.take 14 .done))))))))))))))) (fun d=>Same y d) (by kernel_rfl) (by kernel_rfl) Z ?_
  iterate 13 (first|(apply aF;rfl;rfl;go_simp)|(apply aD;rfl;rfl;intro d F;obtain⟨Y,X,q2⟩:=xs3 F p u E;go_simp;exact rfl;go_simp))
  refine aP (ay rfl rfl fun K D=>?_);go_simp;refine DB r ?_;rintro e w2 c' rfl B z;have HC:=ae B;replace z:=Z.tr z;refine D _ _ _ z (fun _ h=>h) ?_;clear D K B
  iterate 1 (first|(apply aF;rfl;rfl;go_simp)|(apply aD;rfl;rfl;intro d F;go_simp;exact rfl;go_simp))
  refine aW ?_;have V:=ae (q.o.tr z);clear z;go_wp2_with fail;exact H.o _ _ _ rfl HC.o V.o
 ·have H:Hid (∀e d,e=.returned (IP (-1))→Same w d→R e d):=ae fun e d M I=>G.o e d _ M (fun h=>absurd h i) (fun _=>rfl) I;clear G h f t U T;generalize L.length=l at C J A p i;have N:decide ((l:Int)≤(n:Int)+(k:Int))=true:=by simp;omega
  go_enter Tryz.func43,Tryz.ntmps43;go_wp2_with fail;refine aq (by kernel_rfl) (by kernel_rfl) ?_
  iterate 12 (apply wpQuiet_step;intro K m;(first|(apply aA;rfl;go_simp)|(apply aJ;rfl;intro d g;obtain⟨Y,X⟩:=xs2 g p u;go_simp;exact rfl;go_simp));refine m _ ?_;clear m K)
  apply wpQuiet_nil;intro y o;have q:=ae o;clear o;go_wp2_with fail;exact H.o _ _ rfl q.o
theorem jC {k:Nat} (q:Nat) (h:RdAt w x v s L j bad n) (hk:k≤3000) (N:∀e f (b:Bool),e=.returned (.bool b)→(b=true→∃D:n+k<L.length,L[n+k].1=q)→Same w f→R e f):
 Calls Tryz.prog 44 #[.pointer (IQ x 0),IP k,.int .i32 (q:Int)] w R:=by
 have A:=ae N;clear N;obtain⟨a,c,rfl,y,G,d⟩:=h.open;have o:=h.blk;have u:=h.len.1;have Z:=h.le;have D:=h.at_;unfold maxLen at G;obtain⟨J,z,I,H⟩:=xc4 o rfl rfl rfl rfl;have X:IntKind.i64.wrap ((n:Int)+(k:Int))=(n:Int)+(k:Int):=by rw[IntKind.wrap_i64];omega
 have aL:0≤(n:Int)+(k:Int):=by omega
 have Y:((n:Int)+(k:Int)).toNat=n+k:=by omega
 by_cases l:n+k<L.length
 ·obtain⟨b,off,rfl,M,O⟩:=d _ l;have B:Hid (∀e f b,e=.returned (.bool b)→(b=true→L[n+k].1=q)→Same w f→R e f):=ae fun e f b E hc C=>A.o e f b E (fun o=>⟨l,hc o⟩) C;clear A h d o J I O;generalize L[n+k].1=r at B M;generalize L.length=i at y D u z l;have F:decide ((n:Int)+(k:Int)<(i:Int))=true:=by simp;omega
  have aH:(n:Int)+(k:Int)<(i:Int):=by omega
  go_enter Tryz.func44,Tryz.ntmps44;go_wp2_with fail;refine aq (by kernel_rfl) (by kernel_rfl) ?_
  iterate 30 (apply wpQuiet_step;intro K m;(first|(apply aA;rfl;go_simp)|(apply aJ;rfl;intro f g;obtain⟨V,U,q2⟩:=xs3 g z H M;go_simp;exact rfl;go_simp));refine m _ ?_;clear m K)
  apply wpQuiet_nil;intro T t;have p:=ae t;clear t;go_wp2_with fail;refine B.o _ _ _ rfl (fun h=>?_) p.o;have h2:(r:Int)=(q:Int):=by simpa using h
  omega
 ·have B:Hid (∀e f,e=.returned (.bool false)→Same w f→R e f):=ae fun e f E C=>A.o e f _ E (fun h=>by cases h) C;clear A h d o J I;generalize L.length=i at y D u z l;have F:decide ((n:Int)+(k:Int)<(i:Int))=false:=by simp;omega
  go_enter Tryz.func44,Tryz.ntmps44;go_wp2_with fail;refine aq (by kernel_rfl) (by kernel_rfl) ?_
  iterate 30 (apply wpQuiet_step;intro K m;(first|(apply aA;rfl;go_simp)|(apply aJ;rfl;intro f g;obtain⟨V,U⟩:=xs2 g z H;go_simp;exact rfl;go_simp));refine m _ ?_;clear m K)
  apply wpQuiet_nil;intro T t;have p:=ae t;clear t;go_wp2_with fail;exact B.o _ _ rfl p.o
theorem mN {k:Nat} (h:RdAt w x v s L j bad n) (hk:k≤3000) (O:∀e u,e=.returned (IP (plc L s.size (n+k):Int))→Same w u→R e u):
 Calls Tryz.prog 25 (Ia (IL x) k) w R:=by
 have A:=ae O;clear O;obtain⟨a,c,rfl,z,E,f⟩:=h.open;have q:=h.blk;have y:=h.len.1;have Y:=h.le;have N:=h.at_;unfold maxLen at E;obtain⟨C,o,F,t⟩:=xc4 q rfl rfl rfl rfl;have V:IntKind.i64.wrap ((n:Int)+(k:Int))=(n:Int)+(k:Int):=by rw[IntKind.wrap_i64];omega
 have aH:0≤(n:Int)+(k:Int):=by omega
 have X:((n:Int)+(k:Int)).toNat=n+k:=by omega
 by_cases m:n+k<L.length
 ·obtain⟨b,off,rfl,T,B⟩:=f _ m;rw[kQ m]at A;clear h f q C F T;generalize L[n+k].2=r at A B;generalize L.length=i at z N y o m;have D:decide ((i:Int)≤(n:Int)+(k:Int))=false:=by simp;omega
  have Z:(n:Int)+(k:Int)<(i:Int):=by omega
  go_enter Tryz.func25,Tryz.ntmps25;go_wp2_with fail;refine aq (by kernel_rfl) (by kernel_rfl) ?_
  iterate 12 (apply wpQuiet_step;intro K g;(first|(apply aA;rfl;go_simp)|(apply aJ;rfl;intro u d;obtain⟨I,H⟩:=xs2 d o t;go_simp;exact rfl;go_simp));refine g _ ?_;clear g K)
  apply wpQuiet_nil;intro U l;obtain⟨o,t,B⟩:=xs3 l o t B;have p:=ae l;clear l;go_wp2_with fail;refine aq (by kernel_rfl) (by kernel_rfl) ?_
  iterate 14 (apply wpQuiet_step;intro K g;(first|(apply aA;rfl;go_simp)|(apply aJ;rfl;intro u d;obtain⟨I,H,q2⟩:=xs3 d o t B;go_simp;exact rfl;go_simp));refine g _ ?_;clear g K)
  apply wpQuiet_nil;intro w2 J;have G:=ae (p.o.tr J);clear J;go_wp2_with fail;exact A.o _ _ rfl G.o
 ·rw[lM (by omega)]at A;clear h f q F;have M:s.size≤maxLen:=by unfold maxLen;omega
  generalize L.length=i at z N y o m;have D:decide ((i:Int)≤(n:Int)+(k:Int))=true:=by simp;omega
  go_enter Tryz.func25,Tryz.ntmps25;go_wp2_with fail;refine aq (by kernel_rfl) (by kernel_rfl) ?_
  iterate 12 (apply wpQuiet_step;intro K g;(first|(apply aA;rfl;go_simp)|(apply aJ;rfl;intro u d;obtain⟨I,H⟩:=xs2 d o t;go_simp;exact rfl;go_simp));refine g _ ?_;clear g K)
  apply wpQuiet_nil;intro U l;have C:=ak l C trivial;have p:=ae l;clear l;go_wp2_with fail;exact A.o _ _ rfl p.o
theorem Du (c:∀e b u,e=.returned u→StrsAt b u wordsL→Same w b→R e b):Calls Tryz.prog 118 #[] w R:=by
 have g:=ae c;clear c;have hs:=fD w wordsL 9 17 rfl (by decide);have a:=sal w (.cells (wordsL.map Value.string).toArray 9);have d:=ae hs;have f:=ae a;clear hs a;simp only[wordsL,List.map_cons,List.map_nil]at d f;go_enter Tryz.func118,Tryz.ntmps118;go_wp2_with fail;exact g.o _ _ _ rfl d.o f.o
theorem vQ:wordsL.length=17:=rfl
theorem sC (t:ByteArray) (J:∀e H,e=.returned (.bool (dL wordsL t))→Same w H→R e H):Calls Tryz.prog 70 #[.string t] w R:=by
 have A:=ae J;clear J;go_enter Tryz.func70,Tryz.ntmps70;go_wp2_with fail;refine Du ?_;rintro e G u rfl M I;have o:=ae I;obtain⟨a,c,rfl,h1,h2,r⟩:=M;rw[List.length_map,vQ]at h1⊢;have h:∃b off,a=some ⟨b,off,none⟩∧∀i (d:i<wordsL.length),G.cell? ⟨b,off+i,none⟩=some (.string wordsL[i]):=by
  rcases r with r|⟨b,off,X,e,fr,rfl,V,U⟩
  ·simp[wordsL]at r
  ·refine⟨b,off,rfl,fun i d=>?_⟩;rw[ai V];exact U i _ (by rw[List.getElem?_map,List.getElem?_eq_getElem d];rfl)
 obtain⟨b,off,rfl,m⟩:=h;have Y:=ae m;clear r I m;unfold maxLen at h2;go_wp2_with fail
 go_loopw [4] (fun i wr=>∃k:Nat,i=.int .i64 (k:Int)∧k≤17∧Hid (∀i,i<k→wordsL[i]?≠some t)∧Hid (Same G wr)) (fun i _=>17 -(intOf i).toNat)
 case atStart=>exact⟨0,rfl,Nat.zero_le _,ae (fun i d=>absurd d (Nat.not_lt_zero _)),ae (af _ _)⟩
 case round=>
  obtain⟨k,rfl,Z,f,q⟩:=hrel;by_cases C:k<17
  ·have g:k<wordsL.length:=C;have z:=ak q.o (Y.o k g) trivial;have p:wordsL[k]?=some wordsL[k]:=List.getElem?_eq_getElem g;have l:wordsL[k]∈wordsL:=List.getElem_mem g;have E:=ae f.o;generalize wordsL[k]=y at z p l;by_cases B:y=t
   ·subst B;rw[fP.2 l]at A;clear l p;go_wp2_with fail;exact A.o _ _ rfl (o.o.tr q.o)
   ·have F:Hid (∀i,i<k+1→wordsL[i]?≠some t):=ae fun i d=>by
     by_cases D:i=k
     ·subst D;rw[p];simpa using B
     ·exact E.o i (by omega)
    clear l p f;have N:(y.toList==t.toList)=false:=by
     rw[eP];exact decide_eq_false B
    go_wp2_with fail;go_roundw
    case rel=>exact⟨k+1,by go_num,by omega,F,q⟩
    case measure=>simp[intOf];omega
  ·obtain rfl:k=17:=by omega
   have T:dL wordsL t=false:=by
    rw[←Bool.not_eq_true,fP];intro l;obtain⟨i,d,O⟩:=List.mem_iff_getElem.1 l;exact f.o i d (by rw[List.getElem?_eq_getElem d,O])
   rw[T]at A;go_wp2_with fail;exact A.o _ _ rfl (o.o.tr q.o)
theorem tV {L:List (Nat×Nat)} {j n k:Nat}:plc (L.drop n) j k=plc L j (n+k):=by
 unfold plc;rw[List.getElem?_drop]
theorem tU {s:ByteArray} {L:List (Nat×Nat)} {j n k:Nat} (h:mz s 0 L j) (o:j≤s.size) (i:n+k≤L.length):plc L j n≤plc L j (n+k)∧plc L j (n+k)≤s.size:=by
 have h1:=fq n h (by omega);have h2:=fq k h1 (by rw[List.length_drop];omega);have f:=lI h2;rw[tV]at h2 f;have e:∀m,m≤L.length→plc L j m≤j:=fun m g=>by
  have :=lI (fq m h g);omega
 refine⟨?_,Nat.le_trans (e _ i) o⟩;clear f h2
 induction k with
 |zero=>exact Nat.le_refl _
 |succ k ih=>
  refine Nat.le_trans (ih (by omega)) ?_;have d:=fq (n+k) h (by omega);have b:n+k<L.length:=by omega
  rw[List.drop_eq_getElem_cons b]at d;obtain⟨z,_,m,y,u,_,a⟩:=d;have c:=fq (n+k+1) h (by omega);have :plc L j (n+k)+m=plc L j (n+k+1):=by
   generalize plc L j (n+k)=p at a⊢;generalize L.drop (n+k+1)=l at a c
   cases l with
   |nil=>
    have t:p+m=j:=a;have r:plc L j (n+k+1)=j:=c;omega
   |cons q l=>
    have t:q.2=p+m:=a.1;have r:q.2=plc L j (n+k+1):=c.1;omega
  rw[Nat.add_assoc]at this;omega
theorem cf (w:World) (x:Nat) (a b c d:Value):Keeps (·≠x) w ((((w.setCell ⟨x,0,none⟩ a).setCell ⟨x,1,none⟩ b).setCell ⟨x,2,none⟩ c).setCell ⟨x,3,none⟩ d):=
 ((((af (·≠x) w).but _ _).but _ _).but _ _).but _ _
theorem zh {s:ByteArray} {L:List (Nat×Nat)} {j n k:Nat} (h:mz s 0 L j) (d:j≤s.size) (c:n+k≤L.length) (e:∀i (a:i<k),Gk (L[n+i]'(by omega)).1):
 s.extract (plc L j n) (plc L j (n+k))=enc (((L.drop n).take k).map Prod.fst):=by
 have h1:=fq n h (by omega);have f:=tU h d c;have h2:=oE k h1 (by rw[List.length_drop];omega) (fun p b=>by
  obtain⟨i,a,rfl⟩:=List.mem_iff_getElem.1 b;rw[List.length_take,List.length_drop]at a;have :=e i (by omega)
  simpa using this)
 rw[tV]at h2;exact kE _ _ _ h2 (by omega)
theorem zi {s:ByteArray} {L:List (Nat×Nat)} {j n k:Nat} (h:mz s 0 L j) (o:j≤s.size) (l:n+k≤L.length) (h1:1≤k) (q:k≤12) (g:cd (L[n]'(by omega)).1=true) (b:∀i (a:i<k),more (L[n+i]'(by omega)).1=true)
 (hw:dL wordsL (s.extract (plc L j n) (plc L j (n+k)))=false):cM (s.extract (plc L j n) (plc L j (n+k))):=by
 have d:=zh h o l (fun i a=>yy (b i a));rw[d]at hw⊢;obtain⟨k,rfl⟩:∃m,k=m+1:=⟨k -1,by omega⟩;have e:(L.drop n).take (k+1)=L[n]'(by omega)::(L.drop (n+1)).take k:=by
  rw[List.drop_eq_getElem_cons (show n<L.length by omega),List.take_succ_cons]
 rw[e]at hw⊢;refine⟨_,_,rfl,g,?_,?_,hw⟩
 ·intro y c;obtain⟨p,f,rfl⟩:=List.mem_map.1 c;obtain⟨i,a,rfl⟩:=List.mem_iff_getElem.1 f;rw[List.length_take,List.length_drop]at a;have :=b (i+1) (by omega)
  simpa [Nat.add_assoc,Nat.add_comm 1]using this
 ·rw[List.length_map,List.length_take,List.length_drop];omega
theorem mV {r:Nat} {c:Int} (h:Cl r c):(c=1↔cd r=true)∧(c=2→cU r=true):=by
 rcases h with⟨rfl,h⟩|⟨rfl,h,h2⟩|⟨h,h2,a⟩
 ·exact⟨by simp[h],fun e=>absurd e (by decide)⟩
 ·exact⟨by simp[h],fun _=>h2⟩
 ·refine⟨⟨by omega,by simp[h2]⟩,by omega⟩
theorem Dw (h:RdAt w x v s L j bad n) (Z:n<L.length) (dp:cd L[n].1=true)
 (hR:∀e V m (kd:Int) (d:ByteArray) (Ju:Nat) (b:Bool),e=.returned (.tuple (Id (Ig kd d 0 Ju) b))→(kd=1∨kd=3)→(b=true→kd=1→cM d)→RdAt V x v s L j bad m→n<m→Keeps (·≠x) w V→R e V):
 Calls Tryz.prog 45 #[.pointer (IQ x 0)] w R:=by
 have HR:=ae hR;clear hR;have H:=ae h;have Jq:=h.len.1;have Jw:x<w.heap.size:=am h.blk;have k0:Same w (bJ w):=(af _ w).alloc _;have Jc:(bJ w).heap[w.heap.size]?=_:=ag w _;have H0:=ae (h.same k0);have ch:=ae k0;have cE:=ae Jc;unfold bJ at H0 ch cE;have J:=ae dp;clear k0 Jc h dp;go_enter Tryz.func45,Tryz.ntmps45;go_wp2_with fail;generalize w.alloc _=w1 at ch cE H0⊢
 go_loopw [4] (fun i wr=>∃k:Nat,i=.int .i64 (k:Int)∧n+k≤L.length∧Hid (∀i (hi:i<L.length),n≤i→i<n+k→more L[i].1=true)∧Hid (Same w1 wr)) (fun i _=>L.length -(intOf i).toNat)
 case atStart=>exact⟨0,rfl,by omega,ae (fun i _ h1 h2=>by omega),ae (af _ _)⟩
 case round=>
  obtain⟨k,rfl,hk,hM,hK⟩:=hrel;go_wp2_with fail;refine ip (H0.o.same hK.o) (by omega) ?_;rintro e w2 c1 rfl aH G k2;have ce:=ae (hK.o.tr k2);have hz:k=0→c1=1:=fun e=>by
   subst e;exact((mV (aH Z)).1).2 J.o
  have HS:Hid (∀hn:n+k<L.length,more L[n+k].1=true→∀i (hi:i<L.length),n≤i→i<n+(k+1)→more L[i].1=true):=ae fun hn hm i hi h1 h2=>by
   by_cases e:i=n+k
   ·subst e;exact hm
   ·exact hM.o i hi h1 (by omega)
  have HM:=ae hM.o;clear hM hK k2;by_cases h1:c1=1
  ·have c:n+k<L.length:=by
    refine Nat.lt_of_not_le fun fw=>?_;have :=G fw;omega
   have HG:=ae (HS.o c (by have :=((mV (aH c)).1).1 h1;unfold more;rw[this];rfl));subst h1;clear aH G hz HS;go_wp2_with fail;go_roundw
   case rel=>exact⟨k+1,by go_num,by omega,HG,ce⟩
   case measure=>simp[intOf];omega
  ·have Jr:0<k:=Nat.pos_of_ne_zero fun e=>h1 (hz e);have Jp:(c1==1)=false:=by simp[h1]
   clear aH G hz;go_wp2_with fail;refine ip (H0.o.same ce.o) (by omega) ?_;rintro e w3 c2 rfl gH F k3;have bL:=ae (ce.o.tr k3);clear k3;by_cases h2:c2=2
   ·have c:n+k<L.length:=by
     refine Nat.lt_of_not_le fun fw=>?_;have :=F fw;omega
    have HG:=ae (HS.o c (by have :=(mV (gH c)).2 h2;unfold more;rw[this];simp));subst h2;clear gH F HS;go_wp2_with fail;go_roundw
    case rel=>exact⟨k+1,by go_num,by omega,HG,bL⟩
    case measure=>simp[intOf];omega
   ·have Ja:(c2==2)=false:=by simp[h2]
    clear gH F;go_wp2_with fail;refine jC 39 (H0.o.same bL.o) (by omega) ?_;rintro e w4 b rfl A k4;have N:=ae (bL.o.tr k4);clear k4
    cases b with
    |true=>
     obtain⟨c,hq⟩:=A rfl;have HG:=ae (HS.o c (by rw[hq];rfl));clear A HS;go_wp2_with fail;go_roundw
     case rel=>exact⟨k+1,by go_num,by omega,HG,N⟩
     case measure=>simp[intOf];omega
    |false=>
     clear A HS Jp Ja h1 h2 ce bL;have H4:=ae (H0.o.same N.o);have Jn:=ae (N.o.at cE.o trivial);have Jh:=ae (ch.o.tr N.o);clear H0 cE N ch;go_wp2_with fail;refine mN (k:=0) H4.o (by omega) ?_;rintro e w5 rfl k5;have I6:plc L s.size (n+0)=plc L j n:=by rw[Nat.add_zero,kQ Z,kQ Z]
     rw[I6];have Jb:=tU H.o.runs H.o.len.2 hk;have C:Hid (k≤12→dL wordsL (s.extract (plc L j n) (plc L j (n+k)))=false→cM (s.extract (plc L j n) (plc L j (n+k)))):=ae fun Jt hw=>zi H.o.runs H.o.len.2 hk Jr Jt J.o (fun i hi=>HM.o (n+i) (by omega) (by omega) (by omega)) hw;have IS:Hid (plc L s.size (n+k)=plc L j (n+k)∨(L.length≤n+k∧plc L s.size (n+k)=s.size∧j=plc L j (n+k))):=ae (by
      by_cases c:n+k<L.length
      ·exact .inl (by rw[kQ c,kQ c])
      ·exact .inr ⟨by omega,lM (by omega),(lM (by omega)).symm⟩)
     have Jf:Hid (n+k<L.length→plc L s.size (n+k)=plc L j (n+k)):=ae fun c=>by rw[kQ c,kQ c]
     have IR:Hid (L.length≤n+k→j=plc L j (n+k)):=ae fun h=>(lM h).symm;generalize plc L j n=o at Jb C⊢;generalize plc L j (n+k)=pe at Jb C IS Jf IR;have H5:=ae (H4.o.same k5);have I2:=ae (k5.at Jn.o trivial);have Jk:=ae (Jh.o.tr k5);clear k5 I6 H4 Jn Jh J HM;go_wp2_with fail;have Jo:w.heap.size<w5.heap.size:=am I2.o;have X:=sal w5 (Hv 1 GA 0 o);have a8:=ae (ag w5 (Hv 1 GA 0 o));have H6:=ae (H5.o.same X);have I1:=ae (X.at I2.o trivial);have IZ:=ae (Jk.o.tr X);clear X H5 I2 Jk;generalize w5.alloc _=w6 at a8 H6 I1 IZ⊢;generalize w5.heap.size=y at Jo a8⊢;refine mN (k:=k) H6.o (by omega) ?_;rintro e w7 rfl k7;have U:=ae (H6.o.same k7);have Jm:=ae (k7.at I1.o trivial);have B:=ae (k7.at a8.o trivial);have Jj:=ae (IZ.o.tr k7);clear k7 H6 I1 a8 IZ;obtain⟨ra,rc,rfl,I5,I4,_⟩:=U.o.open;obtain⟨c0,c1,c2,c3⟩:=xc4 U.o.blk rfl rfl rfl rfl;have y3:=xc1 B.o 3 rfl;have y1:=xc1 B.o 1 rfl;have f1:=ao B.o 1;unfold maxLen at I4;have Jy:IntKind.i64.wrap ((n:Int)+(k:Int))=(n:Int)+(k:Int):=by rw[IntKind.wrap_i64];omega
     have Jz:=U.o.le;have p:(n+k<L.length∧pe=plc L s.size (n+k))∨(L.length≤n+k∧bad=-1∧pe=plc L s.size (n+k))∨(L.length≤n+k∧bad=(pe:Int)∧plc L s.size (n+k)=s.size):=by
      rcases IS.o with hp|⟨I9,I8,I7⟩
      ·by_cases c:n+k<L.length
       ·exact .inl ⟨c,hp.symm⟩
       ·rcases U.o.bd with⟨q,aL⟩|⟨q,aL⟩
        ·exact .inr (.inl ⟨by omega,q,hp.symm⟩)
        ·have T:=lM (j:=s.size) (show L.length≤n+k by omega);exact .inr (.inr ⟨by omega,by have :=IR.o (by omega);rw[q];omega,T⟩)
      ·rcases U.o.bd with⟨q,aL⟩|⟨q,aL⟩
       ·exact .inr (.inl ⟨I9,q,by rw[I8,←I7,aL]⟩)
       ·exact .inr (.inr ⟨I9,by rw[q,I7],I8⟩)
     clear IS Jf IR;generalize plc L s.size (n+k)=p0 at p⊢;generalize dE:L.length=I3 at Z Jq hk p I5 c1⊢;have Jg:=ae dE;clear dE;rcases p with⟨c,rfl⟩|⟨c,rfl,rfl⟩|⟨c,rfl,rfl⟩
     all_goals
      first|(have Js:decide ((I3:Int)≤(n:Int)+(k:Int))=false:=by simp;omega)|(have Js:decide ((I3:Int)≤(n:Int)+(k:Int))=true:=by simp;omega)
      go_wp2_with fail;refine aq (by kernel_rfl) (by kernel_rfl) ?_
      iterate 19 (apply wpQuiet_step;intro K hK;(first|(apply aA;rfl;go_simp)|(apply aJ;rfl;intro V fu;obtain⟨q0,q1,q2⟩:=xs3 fu c1 c3 c2;go_simp;exact rfl;go_simp));refine hK _ ?_;clear hK K)
      apply wpQuiet_nil;intro O D;obtain⟨c0,c2,c3,y3,y1⟩:=xs5 D c0 c2 c3 y3 y1;have f1:=ao (D.at B.o trivial) 1;have H8:=ae (U.o.same D);have Jl:=ae (D.at Jm.o trivial);have Je:=ae (D.at B.o trivial);have Ji:=ae (Jj.o.tr D);clear D U Jm B Jj c1;have i1:(o:Int)≤(pe:Int):=by omega
      have i2:(pe:Int)≤(s.size:Int):=by omega
      go_wp2_with fail;have kd:Same O O.drew:=al (af (fun _=>True) O);refine zq0 9 (.take 0 (.take 1 (.take 2 (.take 3 (.take 4 (.take 5 (.take 6 (.take 7 (.take 8 .last))))))))) (Same O) (by kernel_rfl) (by kernel_rfl) kd ?_
      iterate 9 (first|(apply aC;rfl;rfl;go_simp)|(apply aB;rfl;rfl;intro V hS;obtain⟨q0,q1⟩:=xs2 hS c0 y3;go_simp;exact rfl;go_simp))
      refine aO rfl rfl fun K Jd=>?_;go_simp;refine Jd _ _ (aG ?_);clear Jd K c0 c2 y3;generalize s.extract o pe=d at C⊢;have ky:Keeps (·≠y) O (O.setCell ⟨y,1,none⟩ (.string d)).drew:=((af (·≠y) O).but 1 _).drew;have If:Hid ((O.setCell ⟨y,1,none⟩ (.string d)).drew.heap[y]?=(Is 1 d 0 o)):=ae (by
       show(O.setCell ⟨y,1,none⟩ (.string d)).heap[y]?=_
       rw[aj Je.o];simp)
      have Y:∀b,live (.slice ra L.length rc)=some b→b<w.heap.size:=fun b A=>H.o.runes.lt b A;have H9:=ae (H8.o.kept ky (by omega) (fun b A=>by have :=Y b A;omega));have I0:=ae (ky.at Jl.o (by omega));have IW:Hid (Keeps (·≠x) w _):=ae ((Ji.o.trans ky fun z hz _=>⟨trivial,by omega⟩).bar x);clear ky H8 Jl Je Ji kd y1 f1;generalize(O.setCell ⟨y,1,none⟩ (.string d)).drew=w9 at If H9 I0 IW⊢;have d3:=xc1 H9.o.blk 3 rfl;have g3:=ao H9.o.blk 3;have gJ:=ae (H9.o.next (af _ _) (show n+k≤L.length by rw[Jg.o];exact hk));have fd:=ae (((af (·≠x) w9).but 3 (IP ((n:Int)+(k:Int)))).at I0.o (by omega));have I:=ae (((af (·≠x) w9).but 3 (IP ((n:Int)+(k:Int)))).at If.o (by omega));have dZ:=ae (IW.o.but 3 (IP ((n:Int)+(k:Int))));rw[Int.natCast_add]at gJ;have T:=xc1 I.o 1 rfl;clear I0 If H9 IW;go_wp2_with fail;refine sC d ?_;rintro e u rfl E;have cH:=ae (gJ.o.same E);have t:=ae (E.at fd.o trivial);have l:=ae (E.at I.o trivial);have r:=ae (dZ.o.tr_same E);clear E gJ fd I dZ T d3 g3;have y0:=xc1 l.o 0 rfl;have g0:=ao l.o 0;have JA:((k:Int)≤12∨¬(k:Int)≤12):=by omega
      cases hw:dL wordsL d with
      |true=>
       have g:Hid ((u.setCell ⟨y,0,none⟩ (IP 3)).heap[y]?=(Is 3 d 0 o)):=ae (by rw[aj l.o];simp);have ky:Keeps (·≠y) u (u.setCell ⟨y,0,none⟩ (IP 3)):=(af (·≠y) u).but 0 _;have a:=ae (ky.at t.o (by omega));have HZ:=ae (cH.o.kept ky (by omega) (fun b A=>by have :=Y b A;omega));have M:Hid (Keeps (·≠x) w _):=ae (r.o.new (show w.heap.size≤y by omega) 0 (IP 3));have HF:=ae (fun e V m b he h1 h2 h3=>HR.o e V m 3 d o b he (.inr rfl) (fun _ h=>absurd h (by decide)) h1 h2 h3);clear HR C ky l t cH r;obtain⟨d0,d1,d2,d3⟩:=xc4 a.o rfl rfl rfl rfl;obtain⟨z0,z1,z2,z3⟩:=xc4 g.o rfl rfl rfl rfl;obtain⟨f0,f1,f2,f3⟩:=xf4 a.o;have f:=ct a.o (IP 3) (.string d) IU (IP (o:Int));obtain⟨e0,T,e2,e3⟩:=xc4 f rfl rfl rfl rfl;have kb:=cf (u.setCell (⟨y,0,none⟩) (.int (.i64) (3))) w.heap.size (IP 3) (.string d) IU (IP (o:Int));have gI:=ae (HZ.o.kept kb (by omega) (fun b A=>by have :=Y b A;omega));have IT:=ae (M.o.box4 (Nat.le_refl _) (IP 3) (.string d) IU (IP (o:Int)));clear f kb g a HZ M hw;go_wp2_with fail;refine bodyPost_ret (v:=.tuple (Id (Ig 3 d 0 o) (decide ((k:Int)≤12)))) (by simp[results,Tryz.results45,go_sem,e0,T,e2,e3]) rfl ?_;exact HF.o _ _ (n+k) _ rfl gI.o (by omega) IT.o
      |false=>
       have g:=l;have a:=t;have HZ:=cH;have M:=r;have HF:=ae (fun e V m b he (hn:b=true→cM d) h1 h2 h3=>HR.o e V m 1 d o b he (.inl rfl) (fun h _=>hn h) h1 h2 h3);have Jv:Hid (k≤12→cM d):=ae fun h=>C.o h hw;clear HR C l t cH r;obtain⟨d0,d1,d2,d3⟩:=xc4 a.o rfl rfl rfl rfl;obtain⟨z0,z1,z2,z3⟩:=xc4 g.o rfl rfl rfl rfl;obtain⟨f0,f1,f2,f3⟩:=xf4 a.o;have f:=ct a.o (IP 1) (.string d) IU (IP (o:Int));obtain⟨e0,T,e2,e3⟩:=xc4 f rfl rfl rfl rfl;have kb:=cf u w.heap.size (IP 1) (.string d) IU (IP (o:Int));have gI:=ae (HZ.o.kept kb (by omega) (fun b A=>by have :=Y b A;omega));have IT:=ae (M.o.box4 (Nat.le_refl _) (IP 1) (.string d) IU (IP (o:Int)));clear f kb g a HZ M hw;go_wp2_with fail;refine bodyPost_ret (v:=.tuple (Id (Ig 1 d 0 o) (decide ((k:Int)≤12)))) (by simp[results,Tryz.results45,go_sem,e0,T,e2,e3]) rfl ?_;exact HF.o _ _ (n+k) _ rfl (fun h=>Jv.o (by simp only[decide_eq_true_eq]at h;omega)) gI.o (by omega) IT.o
theorem F5 {r:Nat} {c:Int} (h:Cl r c) (a:cU r=true):c=2:=by
 rcases h with⟨rfl,h⟩|⟨rfl,_⟩|⟨_,_,h⟩
 ·rw[mI]at h;unfold cU at a;simp only[Bool.and_eq_true,decide_eq_true_eq]at a;omega
 ·rfl
 ·rw[a]at h;cases h
theorem xz (h:RdAt w x v s L j bad n) (gJ:n<L.length) (G:cU L[n].1=true)
 (hR:∀e w' m (N:Int) (IZ:Nat) (b:Bool),e=.returned (.tuple (Id (Ig 2 GA N IZ) b))→RdAt w' x v s L j bad m→n<m→Keeps (·≠x) w w'→R e w'):
 Calls Tryz.prog 46 #[.pointer (IQ x 0)] w R:=by
 have HR:=ae hR;clear hR;have H:=ae h;have I3:=h.len.1;have I0:x<w.heap.size:=am h.blk;have k0:Same w (bJ w):=(af _ w).alloc _;have aL:(bJ w).heap[w.heap.size]?=_:=ag w _;have H0:=ae (h.same k0);have E:=ae k0;have u:=ae aL;unfold bJ at H0 E u;have fd:=ae G;clear k0 aL h G;go_enter Tryz.func46,Tryz.ntmps46;go_wp2_with fail;generalize w.alloc _=w1 at E u H0⊢;refine mN (k:=0) H0.o (by omega) ?_;rintro e J rfl k2;generalize plc L s.size (n+0)=o;have A:=sal J (Hv 2 GA 0 o);have U:=ae (ag J (Hv 2 GA 0 o));have I:=ae (H0.o.same (k2.tr A));have Z:=ae (E.o.tr (k2.tr A));have HB:=ae ((k2.tr A).at u.o trivial);have gH:w.heap.size<J.heap.size:=Nat.lt_of_lt_of_le (am u.o) k2.size;clear k2 A H0 E u;go_wp2_with fail;generalize J.alloc _=w3 at U I Z HB⊢;generalize J.heap.size=y at U gH⊢;refine jC (k:=0) 48 I.o (by omega) ?_;rintro e w4 z rfl _ k4;have cH:=ae (I.o.same k4);have dZ:=ae (Z.o.tr k4);have fw:=ae (k4.at HB.o trivial);have ch:=ae (k4.at U.o trivial);clear k4 I Z HB U;go_wp2_with fail
 go_loopw [6] (fun i wr=>∃(k:Nat) (N:Int),i=.int .i64 (k:Int)∧n+k≤L.length∧0≤N∧N≤1000∧Hid (RdAt wr x v s L j bad n)∧Hid (Keeps (·≠x) w wr)∧Hid (wr.heap[w.heap.size]?=(Is 0 GA 0 0))∧Hid (wr.heap[y]?=(Is 2 GA N o))) (fun i _=>L.length -(intOf i).toNat)
 case atStart=>exact⟨0,0,rfl,by omega,by omega,by omega,cH,ae (dZ.o.bar x),fw,ch⟩
 case round=>
  obtain⟨k,N,rfl,hk,Ja,I9,I,Z,HB,U⟩:=hrel;clear cH dZ fw ch;go_wp2_with fail;refine ip (k:=k) I.o (by omega) ?_;rintro e l c rfl hc O k5;have f:=ae (I.o.same k5);have D:=ae (Z.o.tr_same k5);have F:=ae (k5.at HB.o trivial);have g:=ae (k5.at U.o trivial);have hz:k=0→c=2:=fun e=>by
   subst e;exact F5 (hc gJ) fd.o
  clear k5 I Z HB U;have M:∀b',live v=some b'→b'<w.heap.size:=H.o.runes.lt;by_cases h2:c=2
  ·have aH:n+k<L.length:=by
    refine Nat.lt_of_not_le fun If=>?_;have :=O If;omega
   have IT:48≤L[n+k].1∧L[n+k].1≤57:=by
    have hd:=(mV (hc aH)).2 h2;unfold cU at hd;simp only[Bool.and_eq_true,decide_eq_true_eq]at hd;exact hd
   subst h2;clear hc O hz;obtain⟨a,cp,rfl,I8,IW,p⟩:=f.o.open;obtain⟨b,off,rfl,z0,_⟩:=p _ aH
   unfold maxLen at IW;generalize L[n+k].1=r at IT z0;have c1:=xc1 f.o.blk 1 rfl;have c3:=xc1 f.o.blk 3 rfl;have y2:=xc1 g.o 2 rfl;have g2:=ao g.o 2;clear p;have kd:Same l l.drew:=al (af _ l);have gI:IntKind.i64.wrap ((n:Int)+(k:Int))=(n:Int)+(k:Int):=by rw[IntKind.wrap_i64];omega
   have I7:0≤(n:Int)+(k:Int):=by omega
   have I6:(n:Int)+(k:Int)<(L.length:Int):=by omega
   have I1:((n:Int)+(k:Int)).toNat=n+k:=by omega
   have x1:IntKind.i32.wrap ((r:Int) -48)=(r:Int) -48:=by simp[IntKind.wrap,IntKind.bits,IntKind.signed];omega
   have x2:IntKind.i64.wrap ((r:Int) -48)=(r:Int) -48:=by rw[IntKind.wrap_i64];omega
   have x3:IntKind.i64.wrap (10*N)=10*N:=by rw[IntKind.wrap_i64];omega
   have x4:IntKind.i64.wrap (10*N+((r:Int) -48))=10*N+((r:Int) -48):=by rw[IntKind.wrap_i64];omega
   go_wp2_with fail;refine zq0 21 (.take 0 (.take 1 (.take 2 (.take 3 (.take 4 (.take 5 (.take 6 (.take 7 (.take 8 (.take 9 (.take 10 (.take 11 (.take 12 (.take 13 (.take 14 (.take 15 (.take 16 (.take 17 (.take 18 (.take 19 (.take 20 .last))))))))))))))))))))) (Same l) (by kernel_rfl) (by kernel_rfl) kd ?_
   iterate 21 (first|(apply aC;rfl;rfl;go_simp)|(apply aB;rfl;rfl;intro w' X;obtain⟨q0,q1,q2,q3⟩:=xs4 X c1 c3 z0 y2;go_simp;exact rfl;go_simp))
   clear z0 c1 c3 x1 x2 x3 x4;refine aO rfl rfl fun K a8=>?_;go_simp;refine a8 _ _ (aG ?_);clear a8 K y2 g2;have T:0≤min (10*N+((r:Int) -48)) 1000∧min (10*N+((r:Int) -48)) 1000≤1000:=by omega
   generalize min (10*N+((r:Int) -48)) 1000=Y at T⊢;have ky:Keeps (·≠y) l (l.setCell ⟨y,2,none⟩ (IP Y)).drew:=((af (·≠y) l).but 2 _).drew;have ce:Hid ((l.setCell ⟨y,2,none⟩ (IP Y)).drew.heap[y]?=(Is 2 GA Y o)):=ae (by
    show(l.setCell ⟨y,2,none⟩ (IP Y)).heap[y]?=_
    rw[aj g.o];simp)
   have cE:=ae (f.o.kept ky (by omega) (fun b' hb=>by have :=M b' hb;omega));have dE:=ae (D.o.trans ky fun z hz X=>⟨X,by omega⟩:Keeps (·≠x) w _);have fu:=ae (ky.at F.o (by omega));clear ky f D F g kd;generalize(l.setCell ⟨y,2,none⟩ (IP Y)).drew=w6 at ce cE dE fu⊢;go_wp2_with fail;go_roundw
   case rel=>exact⟨k+1,Y,by go_num,by omega,T.1,T.2,cE,dE,fu,ce⟩
   case measure=>simp[intOf];omega
  ·have I2:(c==2)=false:=by simp[h2]
   have I5:0<k:=Nat.pos_of_ne_zero fun e=>h2 (hz e);clear hc O hz;have gI:IntKind.i64.wrap ((n:Int)+(k:Int))=(n:Int)+(k:Int):=by rw[IntKind.wrap_i64];omega
   have c3:=xc1 f.o.blk 3 rfl;have g3:=ao f.o.blk 3;have V:=ae (f.o.next (af _ _) (show n+k≤L.length from hk));have kx:=(af (·≠x) l).but 3 (IP ((n:Int)+(k:Int)));have d:=ae (kx.at F.o (by omega));have t:=ae (kx.at g.o (by omega));have dp:=ae (D.o.tr kx);rw[Int.natCast_add]at V;obtain⟨d0,d1,d2,d3⟩:=xc4 d.o rfl rfl rfl rfl;obtain⟨z0,z1,z2,z3⟩:=xc4 t.o rfl rfl rfl rfl;obtain⟨f0,f1,f2,f3⟩:=xf4 d.o;have q:=ct d.o (IP 2) (.string GA) (IP N) (IP (o:Int));obtain⟨e0,e1,e2,e3⟩:=xc4 q rfl rfl rfl rfl;have kb:=cf (l.setCell ⟨x,3,none⟩ (IP ((n:Int)+(k:Int)))) w.heap.size (IP 2) (.string GA) (IP N) (IP (o:Int));have B:=ae (V.o.kept kb (by omega) (fun b hb=>by have :=M b hb;omega));have C:=ae (dp.o.box4 (Nat.le_refl _) (IP 2) (.string GA) (IP N) (IP (o:Int)));clear q kb kx V d t dp f D F g M h2;by_cases bL:N≤99
   ·have IR:decide (N≤99)=true:=decide_eq_true bL
    cases z with
    |true=>
     by_cases I4:1<k
     ·have IS:decide ((1:Int)<(k:Int))=true:=by simp;omega
      go_wp2_with fail;refine bodyPost_ret (v:=.tuple (Id (Ig 2 GA N o) false)) (by simp[results,Tryz.results46,go_sem,e0,e1,e2,e3]) rfl ?_;exact HR.o _ _ (n+k) _ _ _ rfl B.o (by omega) C.o
     ·have IS:decide ((1:Int)<(k:Int))=false:=by simp;omega
      go_wp2_with fail;refine bodyPost_ret (v:=.tuple (Id (Ig 2 GA N o) true)) (by simp[results,Tryz.results46,go_sem,e0,e1,e2,e3]) rfl ?_;exact HR.o _ _ (n+k) _ _ _ rfl B.o (by omega) C.o
    |false=>
     go_wp2_with fail;refine bodyPost_ret (v:=.tuple (Id (Ig 2 GA N o) true)) (by simp[results,Tryz.results46,go_sem,e0,e1,e2,e3]) rfl ?_;exact HR.o _ _ (n+k) _ _ _ rfl B.o (by omega) C.o
   ·have IR:decide (N≤99)=false:=decide_eq_false bL;go_wp2_with fail;refine bodyPost_ret (v:=.tuple (Id (Ig 2 GA N o) false)) (by simp[results,Tryz.results46,go_sem,e0,e1,e2,e3]) rfl ?_;exact HR.o _ _ (n+k) _ _ _ rfl B.o (by omega) C.o
def rf (x len:Nat) (w:World):Nat:=len -(intOf ((w.cell? ⟨x,3,none⟩).getD undef)).toNat
theorem dA (h:RdAt w x v s L j bad n):rf x L.length w=L.length -n:=by
 unfold rf;rw[ai h.blk 3];simp[intOf]
theorem u0 (h:RdAt w x v s L j bad n) (hR:∀e z u m,e=.returned u→RdAt z x v s L j bad m→n≤m→Keeps (·≠x) w z→R e z):
 Calls Tryz.prog 24 #[.pointer (IQ x 0)] w R:=by
 have HR:=ae hR;clear hR;have H:=ae h;have fd:=h.len.1;have dE:=h.at_;clear h;go_enter Tryz.func24,Tryz.ntmps24;go_wp2_with fail
 go_loopw [] (fun wr=>∃m:Nat,n≤m∧Hid (RdAt wr x v s L j bad m)∧Hid (Keeps (·≠x) w wr)) (fun wr=>rf x L.length wr)
 case atStart=>exact⟨n,Nat.le_refl _,H,ae (af _ _)⟩
 case round=>
  obtain⟨m,bL,U,HK⟩:=hrel;have E:=dA U.o;go_wp2_with fail;refine ip (k:=0) U.o (by have :=U.o.at_;omega) ?_;rintro e w0 c rfl hc aL k0;have M:=ae (U.o.same k0);have T:=ae (HK.o.tr_same k0);have dZ:=U.o.at_;clear k0;by_cases h3:c=3
  ·have X:m<L.length:=by
    refine Nat.lt_of_not_le fun cE=>?_;have :=aL cE;omega
   have y:=M;have G:=T;subst h3;clear hc aL M T;clear U HK;go_wp2_with fail;refine jC (k:=0) 35 y.o (by omega) ?_;rintro e w2 cm rfl _ V;have t:=ae (y.o.same V);have N:=ae (G.o.tr_same V);have p:=xc1 t.o.blk 3 rfl;have F:=ao t.o.blk 3;have r:=ae (t.o.next (af _ _) (show m+1≤L.length from X));have D:=ae (N.o.but 3 (IP ((m:Int)+1)));rw[Int.natCast_add,Int.natCast_one]at r;clear V y G t N;go_wp2_with fail;generalize w2.setCell ⟨x,3,none⟩ (IP ((m:Int)+1))=w3 at r D⊢;clear p F
   go_loopw [] (fun wr=>∃o:Nat,m<o∧Hid (RdAt wr x v s L j bad o)∧Hid (Keeps (·≠x) w wr)) (fun wr=>rf x L.length wr)
   case atStart=>exact⟨m+1,Nat.lt_succ_self _,r,D⟩
   case round=>
    obtain⟨o,ce,i,l⟩:=hrel;have I:=dA i.o;obtain⟨a,cp,hv,cH,aH,_⟩:=i.o.open;have B:=xc1 i.o.blk 1 rfl;have p:=xc1 i.o.blk 3 rfl;have F:=ao i.o.blk 3;have ch:=i.o.at_;unfold maxLen at aH;rw[hv]at B;clear r D
    cases cm with
    |false=>
     go_wp2_with fail;refine aq (by kernel_rfl) (by kernel_rfl) ?_
     iterate 18 (apply wpQuiet_step;intro K q;(first|(apply aA;rfl;go_simp)|(apply aJ;rfl;intro z A;go_simp;exact rfl;go_simp));refine q _ ?_;clear q K)
     apply wpQuiet_nil;intro w4 g;have d:=ae (i.o.same g);have f:=ae (l.o.tr_same g);clear g i l B p F;go_wp2_with fail;go_roundw
     case rel=>exact⟨o,by omega,d,f⟩
     case measure=>rw[E,dA d.o];omega
    |true=>
     by_cases Y:o<L.length
     ·have Z:decide ((o:Int)<(L.length:Int))=true:=by simp;omega
      go_wp2_with fail;have O:Same wr wr.drew:=al (af _ wr);refine az (.take 0 (.take 1 (.take 2 (.take 3 (.take 4 (.take 5 (.take 6 (.take 7 (.take 8 (.take 9 (.take 10 (.take 11 (.take 12 (.take 13 (.take 14 (.one 15 (.take 16 (.take 17 .done)))))))))))))))))) (fun z=>Same wr z) (by kernel_rfl) (by kernel_rfl) O ?_
      iterate 15 (first|(apply aF;rfl;rfl;go_simp)|(apply aD;rfl;rfl;intro z hS;obtain⟨q0,q1⟩:=xs2 hS B p;go_simp;exact rfl;go_simp))
      refine aP (ay rfl rfl fun K J=>?_);go_simp;refine jC (k:=0) 10 (i.o.same O) (by omega) ?_;rintro e w4 nl rfl _ g;replace g:=O.tr g;refine J _ _ _ g (fun _ h=>h) ?_;clear J K
      iterate 2 (first|(apply aF;rfl;rfl;go_simp)|(apply aD;rfl;rfl;intro z hS;go_simp;exact rfl;go_simp))
      refine aW ?_;have d:=ae (i.o.same g);have f:=ae (l.o.tr_same g);clear g i l B p F O;have p:=xc1 d.o.blk 3 rfl;have F:=ao d.o.blk 3
      cases nl with
      |true=>
       go_wp2_with fail;go_roundw
       case rel=>exact⟨o,by omega,d,f⟩
       case measure=>rw[E,dA d.o];omega
      |false=>
       have C:=ae (d.o.next (af _ _) (show o+1≤L.length from Y));have a8:=ae (f.o.but 3 (IP ((o:Int)+1)));rw[Int.natCast_add,Int.natCast_one]at C;clear d f;go_wp2_with fail;go_roundw
       case rel=>exact⟨o+1,by omega,C,a8⟩
       case measure=>rw[I,dA C.o];omega
     ·have Z:decide ((o:Int)<(L.length:Int))=false:=by simp;omega
      go_wp2_with fail;refine aq (by kernel_rfl) (by kernel_rfl) ?_
      iterate 18 (apply wpQuiet_step;intro K q;(first|(apply aA;rfl;go_simp)|(apply aJ;rfl;intro z A;obtain⟨q0,q1⟩:=xs2 A B p;go_simp;exact rfl;go_simp));refine q _ ?_;clear q K)
      apply wpQuiet_nil;intro w4 g;have d:=ae (i.o.same g);have f:=ae (l.o.tr_same g);clear g i l B p F;go_wp2_with fail;go_roundw
      case rel=>exact⟨o,by omega,d,f⟩
      case measure=>rw[E,dA d.o];omega
  ·have dp:(c==3)=false:=by simp[h3]
   clear hc aL;go_wp2_with fail;refine jC (k:=0) 35 M.o (by omega) ?_;rintro e w1 b rfl hb k1;have y:=ae (M.o.same k1);have G:=ae (T.o.tr_same k1);clear k1 M T
   cases b with
   |true=>
    have X:m<L.length:=by obtain⟨h1,_⟩:=hb rfl;exact h1
    clear hb;clear U HK;go_wp2_with fail;refine jC (k:=0) 35 y.o (by omega) ?_;rintro e w2 cm rfl _ V;have t:=ae (y.o.same V);have N:=ae (G.o.tr_same V);have p:=xc1 t.o.blk 3 rfl;have F:=ao t.o.blk 3;have r:=ae (t.o.next (af _ _) (show m+1≤L.length from X));have D:=ae (N.o.but 3 (IP ((m:Int)+1)));rw[Int.natCast_add,Int.natCast_one]at r;clear V y G t N;go_wp2_with fail;generalize w2.setCell ⟨x,3,none⟩ (IP ((m:Int)+1))=w3 at r D⊢;clear p F
    go_loopw [] (fun wr=>∃o:Nat,m<o∧Hid (RdAt wr x v s L j bad o)∧Hid (Keeps (·≠x) w wr)) (fun wr=>rf x L.length wr)
    case atStart=>exact⟨m+1,Nat.lt_succ_self _,r,D⟩
    case round=>
     obtain⟨o,ce,i,l⟩:=hrel;have I:=dA i.o;obtain⟨a,cp,hv,cH,aH,_⟩:=i.o.open;have B:=xc1 i.o.blk 1 rfl;have p:=xc1 i.o.blk 3 rfl;have F:=ao i.o.blk 3;have ch:=i.o.at_;unfold maxLen at aH;rw[hv]at B;clear r D
     cases cm with
     |false=>
      go_wp2_with fail;refine aq (by kernel_rfl) (by kernel_rfl) ?_
      iterate 18 (apply wpQuiet_step;intro K q;(first|(apply aA;rfl;go_simp)|(apply aJ;rfl;intro z A;go_simp;exact rfl;go_simp));refine q _ ?_;clear q K)
      apply wpQuiet_nil;intro w4 g;have d:=ae (i.o.same g);have f:=ae (l.o.tr_same g);clear g i l B p F;go_wp2_with fail;go_roundw
      case rel=>exact⟨o,by omega,d,f⟩
      case measure=>rw[E,dA d.o];omega
     |true=>
      by_cases Y:o<L.length
      ·have Z:decide ((o:Int)<(L.length:Int))=true:=by simp;omega
       go_wp2_with fail;have O:Same wr wr.drew:=al (af _ wr);refine az (.take 0 (.take 1 (.take 2 (.take 3 (.take 4 (.take 5 (.take 6 (.take 7 (.take 8 (.take 9 (.take 10 (.take 11 (.take 12 (.take 13 (.take 14 (.one 15 (.take 16 (.take 17 .done)))))))))))))))))) (fun z=>Same wr z) (by kernel_rfl) (by kernel_rfl) O ?_
       iterate 15 (first|(apply aF;rfl;rfl;go_simp)|(apply aD;rfl;rfl;intro z hS;obtain⟨q0,q1⟩:=xs2 hS B p;go_simp;exact rfl;go_simp))
       refine aP (ay rfl rfl fun K J=>?_);go_simp;refine jC (k:=0) 10 (i.o.same O) (by omega) ?_;rintro e w4 nl rfl _ g;replace g:=O.tr g;refine J _ _ _ g (fun _ h=>h) ?_;clear J K
       iterate 2 (first|(apply aF;rfl;rfl;go_simp)|(apply aD;rfl;rfl;intro z hS;go_simp;exact rfl;go_simp))
       refine aW ?_;have d:=ae (i.o.same g);have f:=ae (l.o.tr_same g);clear g i l B p F O;have p:=xc1 d.o.blk 3 rfl;have F:=ao d.o.blk 3
       cases nl with
       |true=>
        go_wp2_with fail;go_roundw
        case rel=>exact⟨o,by omega,d,f⟩
        case measure=>rw[E,dA d.o];omega
       |false=>
        have C:=ae (d.o.next (af _ _) (show o+1≤L.length from Y));have a8:=ae (f.o.but 3 (IP ((o:Int)+1)));rw[Int.natCast_add,Int.natCast_one]at C;clear d f;go_wp2_with fail;go_roundw
        case rel=>exact⟨o+1,by omega,C,a8⟩
        case measure=>rw[I,dA C.o];omega
      ·have Z:decide ((o:Int)<(L.length:Int))=false:=by simp;omega
       go_wp2_with fail;refine aq (by kernel_rfl) (by kernel_rfl) ?_
       iterate 18 (apply wpQuiet_step;intro K q;(first|(apply aA;rfl;go_simp)|(apply aJ;rfl;intro z A;obtain⟨q0,q1⟩:=xs2 A B p;go_simp;exact rfl;go_simp));refine q _ ?_;clear q K)
       apply wpQuiet_nil;intro w4 g;have d:=ae (i.o.same g);have f:=ae (l.o.tr_same g);clear g i l B p F;go_wp2_with fail;go_roundw
       case rel=>exact⟨o,by omega,d,f⟩
       case measure=>rw[E,dA d.o];omega
   |false=>
    clear hb U HK;go_wp2_with fail;go_end0;exact HR.o _ _ _ _ rfl y.o bL G.o
def sgnsC:List ByteArray:=[GY,GZ,Hd,⟨#[126,61]⟩,Hc,⟨#[126]⟩,G1,⟨#[38]⟩,G7,G5,⟨#[41]⟩,⟨#[123]⟩,⟨#[125]⟩,G8,GM,GW,⟨#[43]⟩,⟨#[92]⟩]
theorem oD:∀t∈sgnsC,1≤t.size∧t.size≤3:=by decide
theorem vI (w:World) (o:Obj):(w.alloc o).heap.size=w.heap.size+1:=Array.size_push _
theorem zg {w:World} {b:Nat} (d:w.heap.size=b):∀k,k<18→∃t,1≤t.size∧t.size≤3∧(w.alloc (.cells (sgnsC.map Value.string).toArray 9)).cell? ⟨b,k,none⟩=some (.string t):=by
 intro k c;have a:k<sgnsC.length:=c;refine⟨sgnsC[k],(oD _ (List.getElem_mem a)).1,(oD _ (List.getElem_mem a)).2,?_⟩;subst d;rw[ai (ag w _)];simp[a]
theorem Dv (h:RdAt w x v s L j bad n) (Ja:n<L.length)
 (hR:∀e w' (q:Qk) m b,e=.returned (.tuple (Id q.val b))→(b=true→q.k=3∧n<m)→RdAt w' x v s L j bad m→Keeps (·≠x) w w'→R e w'):
 Calls Tryz.prog 47 #[.pointer (IQ x 0)] w R:=by
 have HR:=ae hR;clear hR;have H:=ae h;have Jb:=h.len.1;have I5:x<w.heap.size:=am h.blk;have k0:Same w (bJ w):=(af _ w).alloc _;have IS:(bJ w).heap[w.heap.size]?=_:=ag w _;have H0:=ae (h.same k0);have dp:=ae k0;have dE:=ae IS;unfold bJ at H0 dp dE;clear k0 IS h;have ce:=ae (zg (w:=w.alloc Hr) (vI w _));have F:=ae (show Same (w.alloc Hr) _ from(af _ _).alloc (.cells (sgnsC.map Value.string).toArray 9));simp only[sgnsC,List.map_cons,List.map_nil]at ce F;go_enter Tryz.func47,Tryz.ntmps47;go_wp2_with fail;generalize w.alloc _=w1 at dp dE H0 ce F⊢;generalize w1.alloc _=w2 at ce F⊢;have cE:=ae (H0.o.same F.o);have gH:=ae (dp.o.tr F.o);have gI:=ae (F.o.at dE.o trivial);clear H0 dp F dE;generalize w.heap.size+1=bs at ce⊢
 go_loopw [5] (fun i wr=>∃k:Nat,i=.int .i64 (k:Int)∧k≤18∧Hid (Same w2 wr)) (fun i _=>18 -(intOf i).toNat)
 case atStart=>exact⟨0,rfl,Nat.zero_le _,ae (af _ _)⟩
 case round=>
  obtain⟨k,rfl,hk,hK⟩:=hrel;by_cases I:k<18
  ·obtain⟨t,I7,I6,Z⟩:=ce.o k I;have fd:=ae Z;have Jd:decide ((k:Int)<18)=true:=by simp;omega
   have dZ:=ae I;have I8:t.size≤maxLen:=by unfold maxLen;omega
   clear Z I;go_wp2_with fail
   go_loopw [6,7] (fun ok p wi=>∃(m:Nat) (b:Bool),ok=.bool b∧p=.int .i64 (m:Int)∧m≤t.size∧(b=true→n+m≤L.length)∧Hid (Same w2 wi)) (fun _ p _=>t.size -(intOf p).toNat)
   case atStart=>exact⟨0,true,rfl,rfl,Nat.zero_le _,fun _=>by omega,hK⟩
   case round=>
    obtain⟨m,b,rfl,rfl,hm,IT,o⟩:=hrel;have Z:=ak o.o fd.o trivial;have I:=dZ.o;clear hK;by_cases I9:m<t.size
    ·cases b with
     |true=>
      go_wp2_with fail;have I3:=t[m].toNat_lt;generalize t[m].toNat=q at I3⊢;have If:wrap32 (q:Int)=(q:Int):=by unfold wrap32;omega
      rw[If];refine jC (k:=m) q (cE.o.same o.o) (by omega) ?_;rintro e w5 b5 rfl IZ r;have D:=ae (o.o.tr r);have IW:b5=true→n+(m+1)≤L.length:=fun h=>by obtain⟨h1,_⟩:=IZ h;omega
      clear IZ r If;go_wp2_with fail;go_roundw
      case rel=>exact⟨m+1,b5,rfl,by go_num,by omega,IW,D⟩
      case measure=>simp[intOf];omega
     |false=>
      go_wp2_with fail;go_roundw
      case rel=>exact⟨m+1,false,rfl,by go_num,by omega,(fun h=>by cases h),o⟩
      case measure=>simp[intOf];omega
    ·obtain rfl:m=t.size:=by omega
     cases b with
     |false=>
      go_wp2_with fail;go_roundw
      case rel=>exact⟨k+1,by go_num,dZ.o,o⟩
      case measure=>simp[intOf];omega
     |true=>
      have IR:=IT rfl;have V:=ae (cE.o.same o.o);have cH:=ae (gH.o.tr o.o);have Y:=ae (o.o.at gI.o trivial);have I4:=ae o.o;clear IT o cE gH gI;go_wp2_with fail;have kd:Same wr wr.drew:=al (af _ wr);have X:=ae (I4.o);have Jc:(k:Int)<18:=by omega
      refine zq0 8 (.take 0 (.take 1 (.take 2 (.take 3 (.take 4 (.two 5 7 (.take 6 (.one 7 .last)) (.one 5 (.take 6 .last)))))))) (Same wr) (by kernel_rfl) (by kernel_rfl) kd ?_
      iterate 5 (first|(apply aC;rfl;rfl;go_simp)|(apply aB;rfl;rfl;intro w' hS;have y3:=ak hS Z trivial;go_simp;exact rfl;go_simp))
      refine kP ?_ ?_
      ·refine ay rfl rfl fun K c=>?_;go_simp;refine mN (k:=0) (V.o.same kd) (by omega) ?_;rintro e w4 rfl U;replace U:=kd.tr U;refine c (Same wr) _ _ U (fun _ h=>h) ?_;clear c K;generalize plc L s.size (n+0)=l
       iterate 1 (first|(apply aC;rfl;rfl;go_simp)|(apply aB;rfl;rfl;intro w' hS;go_simp;exact rfl;go_simp))
       refine aI (ay rfl rfl fun K c=>?_);go_simp;refine c (Same wr) _ _ (U.alloc _) (fun _ h=>h) ?_;clear c K;have r:=U.alloc Hr;have a:=ag w4 Hr;have gJ:wr.heap.size≤w4.heap.size:=U.size;generalize w4.alloc _=w5 at r a⊢;generalize w4.heap.size=y at a gJ⊢;clear U;have aH:=ae (V.o.same r);have D:=ae (cH.o.tr r);have ch:=ae (r.at Y.o trivial);have a8:=ae (X.o.tr r);have aL:=ae a;have I0:w.heap.size<wr.heap.size:=am Y.o;have I2:w2.heap.size≤wr.heap.size:=X.o.size;obtain⟨O,N,M,J⟩:=xc4 a rfl rfl rfl rfl;obtain⟨g0,g1,g2,g3⟩:=xf4 a;clear r a Z V cH Y X kd;refine aO rfl rfl fun K c=>?_;go_simp;refine c _ _ (aG ?_);clear c K O N M J g0 g1 g2 g3;go_wp2_with fail;have ky:=cf w5 y (IP 3) (.string t) IU (IP (l:Int));have A:Hid ((((((w5.setCell ⟨y,0,none⟩ (IP 3)).setCell ⟨y,1,none⟩ (.string t)).setCell ⟨y,2,none⟩ IU).setCell ⟨y,3,none⟩ (IP (l:Int)))).heap[y]?=(Is 3 t 0 l)):=ae (ct aL.o _ _ _ _);have g:=ae (aH.o.kept ky (by omega) (fun b' hb=>by have :=H.o.runes.lt b' hb;omega));have C:=ae (D.o.box4 (show w.heap.size≤y by omega) (IP 3) (.string t) IU (IP (l:Int)));have E:=ae (ky.at ch.o (by omega));have B:=ae (a8.o.box4 (show w2.heap.size≤y by omega) (IP 3) (.string t) IU (IP (l:Int)));clear ky aH D ch a8 aL;generalize(((w5.setCell ⟨y,0,none⟩ (IP 3)).setCell ⟨y,1,none⟩ (.string t)).setCell ⟨y,2,none⟩ IU).setCell ⟨y,3,none⟩ (IP (l:Int))=T at A g C E B⊢;have Z:=ak B.o fd.o trivial;have c3:=xc1 g.o.blk 3 rfl;have f3:=ao g.o.blk 3;have I1:IntKind.i64.wrap ((n:Int)+(t.size:Int))=(n:Int)+(t.size:Int):=by rw[IntKind.wrap_i64];omega
       have kd:Same T T.drew:=al (af _ T);refine zq0 13 (.take 0 (.take 1 (.take 2 (.take 3 (.take 4 (.take 5 (.take 6 (.take 7 (.take 8 (.take 9 (.take 10 (.take 11 (.take 12 .last))))))))))))) (Same T) (by kernel_rfl) (by kernel_rfl) kd ?_
       iterate 13 (first|(apply aC;rfl;rfl;go_simp)|(apply aB;rfl;rfl;intro w' hS;obtain⟨q0,q1⟩:=xs2 hS c3 Z;go_simp;exact rfl;go_simp))
       refine aO rfl rfl fun K c=>?_;go_simp;refine c _ _ (aG ?_);clear c K Z c3 f3 kd;have kx:=((af (·≠x) T).but 3 (IP ((n:Int)+(t.size:Int)))).drew;have z:=ae ((g.o.next (af _ _) (show n+t.size≤L.length from IR)).same (al (af _ _)));have d:=ae (kx.at E.o (by omega));have f:=ae (kx.at A.o (by omega));have bL:=ae ((C.o.bar x).tr kx);rw[Int.natCast_add]at z;clear kx g C E B A;generalize(T.setCell ⟨x,3,none⟩ (IP ((n:Int)+(t.size:Int)))).drew=w7 at z d f bL⊢;obtain⟨O,N,M,J⟩:=xc4 d.o rfl rfl rfl rfl;obtain⟨e0,e1,e2,e3⟩:=xc4 f.o rfl rfl rfl rfl;obtain⟨f0,f1,f2,f3⟩:=xf4 d.o;have kb:=cf w7 w.heap.size (IP 3) (.string t) IU (IP (l:Int));have fu:=ae (z.o.kept kb (by omega) (fun b hb=>by have :=H.o.runes.lt b hb;omega));have fw:=ae (bL.o.box4 (Nat.le_refl _) (IP 3) (.string t) IU (IP (l:Int)));clear kb;go_wp2_with fail;refine bodyPost_ret (v:=.tuple (Id (Ig 3 t 0 l) true)) (by simp[results,Tryz.results47,go_sem,O,N,M,J]) rfl ?_;exact HR.o _ _ ⟨3,t,0,(l:Int)⟩ (n+t.size) true rfl (fun _=>⟨rfl,by omega⟩) fu.o fw.o
      ·refine ay rfl rfl fun K c=>?_;go_simp;have U:=((af (fun _=>True) wr).alloc Hr).drew;refine c (Same wr) _ _ U (fun _ h=>h) ?_;clear c K;have G:(wr.alloc Hr).drew.heap[wr.heap.size]?=_:=ag wr Hr;generalize(wr.alloc Hr).drew=w4 at U G⊢;generalize hy:wr.heap.size=y at G⊢;have gJ:wr.heap.size≤y:=Nat.le_of_eq hy;clear hy;refine aI (ay rfl rfl fun K c=>?_);go_simp;refine mN (k:=0) (V.o.same U) (by omega) ?_;rintro e w5 rfl r;have a:=r.at G trivial;replace r:=U.tr r;refine c (Same wr) _ _ r (fun _ h=>h) ?_;clear c K U G;generalize plc L s.size (n+0)=l
       iterate 1 (first|(apply aC;rfl;rfl;go_simp)|(apply aB;rfl;rfl;intro w' hS;go_simp;exact rfl;go_simp))
       have aH:=ae (V.o.same r);have D:=ae (cH.o.tr r);have ch:=ae (r.at Y.o trivial);have a8:=ae (X.o.tr r);have aL:=ae a;have I0:w.heap.size<wr.heap.size:=am Y.o;have I2:w2.heap.size≤wr.heap.size:=X.o.size;obtain⟨O,N,M,J⟩:=xc4 a rfl rfl rfl rfl;obtain⟨g0,g1,g2,g3⟩:=xf4 a;clear r a Z V cH Y X kd;refine aO rfl rfl fun K c=>?_;go_simp;refine c _ _ (aG ?_);clear c K O N M J g0 g1 g2 g3;go_wp2_with fail;have ky:=cf w5 y (IP 3) (.string t) IU (IP (l:Int));have A:Hid ((((((w5.setCell ⟨y,0,none⟩ (IP 3)).setCell ⟨y,1,none⟩ (.string t)).setCell ⟨y,2,none⟩ IU).setCell ⟨y,3,none⟩ (IP (l:Int)))).heap[y]?=(Is 3 t 0 l)):=ae (ct aL.o _ _ _ _);have g:=ae (aH.o.kept ky (by omega) (fun b' hb=>by have :=H.o.runes.lt b' hb;omega));have C:=ae (D.o.box4 (show w.heap.size≤y by omega) (IP 3) (.string t) IU (IP (l:Int)));have E:=ae (ky.at ch.o (by omega));have B:=ae (a8.o.box4 (show w2.heap.size≤y by omega) (IP 3) (.string t) IU (IP (l:Int)));clear ky aH D ch a8 aL;generalize(((w5.setCell ⟨y,0,none⟩ (IP 3)).setCell ⟨y,1,none⟩ (.string t)).setCell ⟨y,2,none⟩ IU).setCell ⟨y,3,none⟩ (IP (l:Int))=T at A g C E B⊢;have Z:=ak B.o fd.o trivial;have c3:=xc1 g.o.blk 3 rfl;have f3:=ao g.o.blk 3;have I1:IntKind.i64.wrap ((n:Int)+(t.size:Int))=(n:Int)+(t.size:Int):=by rw[IntKind.wrap_i64];omega
       have kd:Same T T.drew:=al (af _ T);refine zq0 13 (.take 0 (.take 1 (.take 2 (.take 3 (.take 4 (.take 5 (.take 6 (.take 7 (.take 8 (.take 9 (.take 10 (.take 11 (.take 12 .last))))))))))))) (Same T) (by kernel_rfl) (by kernel_rfl) kd ?_
       iterate 13 (first|(apply aC;rfl;rfl;go_simp)|(apply aB;rfl;rfl;intro w' hS;obtain⟨q0,q1⟩:=xs2 hS c3 Z;go_simp;exact rfl;go_simp))
       refine aO rfl rfl fun K c=>?_;go_simp;refine c _ _ (aG ?_);clear c K Z c3 f3 kd;have kx:=((af (·≠x) T).but 3 (IP ((n:Int)+(t.size:Int)))).drew;have z:=ae ((g.o.next (af _ _) (show n+t.size≤L.length from IR)).same (al (af _ _)));have d:=ae (kx.at E.o (by omega));have f:=ae (kx.at A.o (by omega));have bL:=ae ((C.o.bar x).tr kx);rw[Int.natCast_add]at z;clear kx g C E B A;generalize(T.setCell ⟨x,3,none⟩ (IP ((n:Int)+(t.size:Int)))).drew=w7 at z d f bL⊢;obtain⟨O,N,M,J⟩:=xc4 d.o rfl rfl rfl rfl;obtain⟨e0,e1,e2,e3⟩:=xc4 f.o rfl rfl rfl rfl;obtain⟨f0,f1,f2,f3⟩:=xf4 d.o;have kb:=cf w7 w.heap.size (IP 3) (.string t) IU (IP (l:Int));have fu:=ae (z.o.kept kb (by omega) (fun b hb=>by have :=H.o.runes.lt b hb;omega));have fw:=ae (bL.o.box4 (Nat.le_refl _) (IP 3) (.string t) IU (IP (l:Int)));clear kb;go_wp2_with fail;refine bodyPost_ret (v:=.tuple (Id (Ig 3 t 0 l) true)) (by simp[results,Tryz.results47,go_sem,O,N,M,J]) rfl ?_;exact HR.o _ _ ⟨3,t,0,(l:Int)⟩ (n+t.size) true rfl (fun _=>⟨rfl,by omega⟩) fu.o fw.o
  ·obtain rfl:k=18:=by omega
   have u:=ae (hK.o.at gI.o trivial);obtain⟨O,N,M,J⟩:=xc4 u.o rfl rfl rfl rfl;obtain⟨g0,g1,g2,g3⟩:=xf4 u.o;go_wp2_with fail;have Je:=ct u.o IU (.string GA) IU IU;refine bodyPost_ret (v:=.tuple (Id (Ig 0 GA 0 0) false)) (by simp[results,Tryz.results47,go_sem,O,N,M,J]) rfl ?_;have kb:=cf wr w.heap.size IU (.string GA) IU IU;exact HR.o _ _ ⟨0,GA,0,0⟩ n false rfl (fun h=>by cases h) ((cE.o.same hK.o).kept kb (by omega) (fun b hb=>by have :=H.o.runes.lt b hb;omega)) (((gH.o.tr hK.o).bar x).box4 (Nat.le_refl _) IU (.string GA) IU IU)
def pS (q:Qk):Prop:=(q.k=1∨q.k=2∨q.k=3)∧(q.k=1→cM q.t)
theorem AP (h:RdAt w x v s L j bad n) (z:n<L.length)
 (hR:∀e w' (q:Qk) m b,e=.returned (.tuple (Id q.val b))→(b=true→pS q∧n<m)→RdAt w' x v s L j bad m→Keeps (·≠x) w w'→R e w'):
 Calls Tryz.prog 26 #[.pointer (IQ x 0)] w R:=by
 have HR:=ae hR;clear hR;have H:=ae h;have ce:x<w.heap.size:=am h.blk;have k0:Same w (bJ w):=(af _ w).alloc _;have aL:(bJ w).heap[w.heap.size]?=_:=ag w _;have H0:=ae (h.same k0);have C:=ae k0;have D:=ae aL;unfold bJ at H0 C D;clear k0 aL h;go_enter Tryz.func26,Tryz.ntmps26;go_wp2_with fail;generalize w.alloc _=w1 at C D H0⊢;refine ip (k:=0) H0.o (by omega) ?_;rintro e w2 c rfl hc bL k2;have hC:Cl L[n].1 c:=hc z;have f:=ae (H0.o.same k2);have g:=ae (C.o.tr k2);have i:=ae (k2.at D.o trivial);have T:w.heap.size≠x:=by omega
 clear hc bL k2 H0 C D;by_cases h1:c=1
 ·have hl:=((mV hC).1).1 h1;have A:(c==1)=true:=by simp[h1]
  clear h1 hC;go_wp2_with fail;refine Dw f.o z hl ?_;rintro e X m E Y pa b rfl a8 aH B p o;have V:Hid (b=true→pS ⟨E,Y,0,(pa:Int)⟩∧n<m):=ae fun l=>⟨⟨by show E=1∨E=2∨E=3;omega,aH l⟩,p⟩;generalize(pa:Int)=d at V⊢;clear aH a8 hl A;have t:=ae B;have y:=ae ((g.o.bar x).tr o);have a:=o.at i.o T;obtain⟨M,J,I,G⟩:=xc4 a rfl rfl rfl rfl;obtain⟨g0,g1,g2,g3⟩:=xf4 a;have F:=cf X w.heap.size (IP E) (.string Y) IU (IP d);have r:=ae (t.o.kept F (by omega) (fun b l=>by have :=H.o.runes.lt b l;omega));have u:=ae (y.o.box4 (Nat.le_refl _) (IP E) (.string Y) IU (IP d));clear B o a F f g i;go_wp2_with fail;refine bodyPost_ret (v:=.tuple (Id (Ig E Y 0 d) b)) (by simp[results,Tryz.results26,go_sem,M,J,I,G]) rfl ?_;exact HR.o _ _ ⟨E,Y,0,d⟩ m b rfl V.o r.o u.o
 ·have A:(c==1)=false:=by simp[h1]
  by_cases h2:c=2
  ·have hd:=(mV hC).2 h2;have U:(c==2)=true:=by simp[h2]
   clear h1 h2 hC;go_wp2_with fail;refine xz f.o z hd ?_;rintro e X m N pa b rfl B p o;have V:Hid (b=true→pS ⟨2,GA,N,(pa:Int)⟩∧n<m):=ae fun l=>⟨⟨by show(2:Int)=1∨(2:Int)=2∨(2:Int)=3;omega,fun h=>absurd (show(2:Int)=1 from h) (by decide)⟩,p⟩;generalize(pa:Int)=d at V⊢;clear hd A U;have t:=ae B;have y:=ae ((g.o.bar x).tr o);have a:=o.at i.o T;obtain⟨M,J,I,G⟩:=xc4 a rfl rfl rfl rfl;obtain⟨g0,g1,g2,g3⟩:=xf4 a;have F:=cf X w.heap.size (IP 2) (.string GA) (IP N) (IP d);have r:=ae (t.o.kept F (by omega) (fun b l=>by have :=H.o.runes.lt b l;omega));have u:=ae (y.o.box4 (Nat.le_refl _) (IP 2) (.string GA) (IP N) (IP d));clear B o a F f g i;go_wp2_with fail;refine bodyPost_ret (v:=.tuple (Id (Ig 2 GA N d) b)) (by simp[results,Tryz.results26,go_sem,M,J,I,G]) rfl ?_;exact HR.o _ _ ⟨2,GA,N,d⟩ m b rfl V.o r.o u.o
  ·have U:(c==2)=false:=by simp[h2]
   clear h1 h2 hC;go_wp2_with fail;refine Dv f.o z ?_;rintro e X ⟨O,q1,q2,Z⟩ m b rfl hq B o;have V:Hid (b=true→pS ⟨O,q1,q2,Z⟩∧n<m):=ae fun l=>⟨⟨.inr (.inr (hq l).1),fun h=>by have B:O=3:=(hq l).1;have h1:O=1:=h;omega⟩,(hq l).2⟩;simp only[Qk.val];clear hq A U;have t:=ae B;have y:=ae ((g.o.bar x).tr o);have a:=o.at i.o T;obtain⟨M,J,I,G⟩:=xc4 a rfl rfl rfl rfl;obtain⟨g0,g1,g2,g3⟩:=xf4 a;have F:=cf X w.heap.size (IP O) (.string q1) (IP q2) (IP Z);have r:=ae (t.o.kept F (by omega) (fun b l=>by have :=H.o.runes.lt b l;omega));have u:=ae (y.o.box4 (Nat.le_refl _) (IP O) (.string q1) (IP q2) (IP Z));clear B o a F f g i;go_wp2_with fail;refine bodyPost_ret (v:=.tuple (Id (Ig O q1 q2 Z) b)) (by simp[results,Tryz.results26,go_sem,M,J,I,G]) rfl ?_;exact HR.o _ _ ⟨O,q1,q2,Z⟩ m b rfl V.o r.o u.o
def OwnTk (w:World) (B:Nat) (v:Value) (T:List Qk):Prop:=w.ownsRow B 61 4 v T.length (T.map Qk.cells).flatten
theorem OwnTk.keep {B:Nat} {v:Value} {L:List Qk} {S:Nat→Prop} {a:World} (h:OwnTk w B v L) (k:Keeps S w a) (hs:∀b,v.ownBlock=some b→S b):OwnTk a B v L:=ar h k hs
theorem OwnTk.but {B p:Nat} {v:Value} {L:List Qk} {a:World} (h:OwnTk w B v L) (k:Keeps (·≠p) w a) (d:p<B):OwnTk a B v L:=
 h.keep k fun b c e=>by
  have :=(ah h c).1;omega
theorem OwnTk.toks {B:Nat} {v:Value} {L:List Qk} (h:OwnTk w B v L):StrAt 4 w v (L.map Qk.cells):=
 dg (fun x hx=>by obtain⟨d,_,rfl⟩:=List.mem_map.1 hx;rfl) (by rw[List.length_map];exact h)
theorem OwnTk.push {B:Nat} {v:Value} {L:List Qk} (h:OwnTk w B v L) (i:B≤w.heap.size) (q:Qk) (m:L.length≤5000):
 ∃g cap b,(Builtin.append_ #[46,46] 46 #[v,.slice (IQ w.heap.size 0) 1 1]).run Tryz.prog (w.alloc (Hv q.k q.t q.n q.a))=.ok (.slice (IQ g 0) (L.length+1) cap) b∧
  OwnTk b B (.slice (IQ g 0) (L.length+1) cap) (L++[q])∧Keeps (·<B) w b:=by
 obtain⟨g,cap,b,d,c,f,_,_⟩:=cF (P:=Tryz.prog) (k:=4) (by decide) w 46 46 61 Tryz.underlying46 tC rfl h i [.int .i64 q.k,.string q.t,.int .i64 q.n,.int .i64 q.a] rfl (by simp[Value.oneCell']) (by omega) (by decide);refine⟨g,cap,b,d,by simpa [OwnTk,Qk.cells]using c,f.mono fun y _ l e=>?_⟩;have :=(ah h e).1;omega
theorem mB {w a:World} (h:Lib.Utf8Tabs 0 1 w) (k:Same w a):Lib.Utf8Tabs 0 1 a:=
 ⟨fun c d=>k.cell (h.1 c d) trivial,fun i b=>⟨k.cell (h.2 i b).1 trivial,k.cell (h.2 i b).2 trivial⟩⟩
def DZ (T:List Qk):Prop:=∀q∈T,pS q
theorem FD {T:List Qk} (h:DZ T) (a:Int):vK (T++[⟨4,GA,0,a⟩]):=by
 intro i c;rw[List.length_append,List.length_singleton]at c⊢;by_cases b:i<T.length
 ·rw[List.getElem_append_left b];obtain⟨h1,h2⟩:=h _ (List.getElem_mem b);exact⟨by omega,h2⟩
 ·obtain rfl:i=T.length:=by omega
  simp
theorem AO (s:ByteArray) (Jn:s.size≤maxLen) (hT:Lib.Utf8Tabs 0 1 w)
 (hR:∀e w' u (pl er:Int),e=.returned (.tuple (Il u pl er))→(∃a n c,u=.slice a n c)→(er=0→s.size≤2000∧∃T,StrAt 4 w' u (T.map Qk.cells)∧(∀b,live u=some b→w.heap.size≤b)∧T≠[]∧T.length≤2001∧vK T)→Same w w'→R e w'):
 Calls Tryz.prog 9 #[.string s] w R:=by
 have HR:=ae hR;have HT:=ae hT;clear hR hT;by_cases hs:s.size≤2000
 ·have Jb:decide ((2000:Int)<(s.size:Int))=false:=by simp;omega
  have fu:=ag w (.cells #[s,IM,IU,IU] 80);have fd:=sal w (.cells #[s,IM,IU,IU] 80);have N:=ae fu;have M:=ae fd;clear fu fd;go_enter Tryz.func9,Tryz.ntmps9;go_wp2_with fail;generalize w.alloc _=w1 at N M⊢;refine Ff (by omega) (mB HT.o M.o) ?_;rintro e w2 u L j r rfl hu aH cH aL k2;have hx1:w.heap.size<w1.heap.size:=am N.o;obtain⟨a,c,rfl,Je,Jd,_⟩:=hu.open;rw[gh]at aH Je hu⊢;have HU:=ae hu;have IT:=ae aH;have o:=k2.at N.o trivial;have I4:=ae (M.o.tr k2);have d1:=xc1 o 1 rfl;have d2:=xc1 o 2 rfl;have g1:=ao o 1;have g2:=ao o 2;have I6:=ae o;clear k2 o N M aH hu;go_wp2_with fail;have ky:=((af (·≠w.heap.size) w2).but 1 (.slice a L.length c)).but 2 (IP r);have dp:RdAt ((w2.setCell ⟨w.heap.size,1,none⟩ (.slice a L.length c)).setCell ⟨w.heap.size,2,none⟩ (IP r)) w.heap.size (.slice a L.length c) s L j r 0:=by
   refine⟨?_,HU.o.keep ky fun b hb=>?_,fun e=>?_,cH,aL,by omega,Nat.zero_le _⟩
   ·rw[aj (aj I6.o _ _)];simp
   ·have :=IT.o b hb;omega
   ·have :=IT.o _ e;omega
  have ce:=ae dp;have cE:=ae ((I4.o.new (Nat.le_refl _) 1 (.slice a L.length c)).new (Nat.le_refl _) 2 (IP r));clear ky dp I6 I4 d1 d2 g1 g2;generalize(w2.setCell ⟨w.heap.size,1,none⟩ (.slice a L.length c)).setCell ⟨w.heap.size,2,none⟩ (IP r)=w3 at ce cE⊢;have Jt:L.length≤2000:=by have :=lI cH;rcases aL with⟨_,h⟩|⟨_,h⟩<;>omega
  refine u0 ce.o ?_;rintro e w4 u4 m0 rfl h4 Jq k4;have G:=ae h4;have I3:Hid (Same w w4):=ae (cE.o.trans k4 fun y hy _=>⟨trivial,by omega⟩);clear h4 k4 ce cE;have F:w.heap.size<w4.heap.size:=am G.o.blk;have dZ:∀b,live (Value.slice a L.length c)=some b→b<w4.heap.size:=G.o.runes.lt;obtain⟨B,hB⟩:∃B,B=w4.heap.size:=⟨_,rfl⟩;rw[←hB]at F dZ;go_wp2_with fail
  go_loopw [6] (fun q wr=>∃(m:Nat) (T:List Qk),Hid (OwnTk wr B q T)∧B≤wr.heap.size∧Hid (RdAt wr w.heap.size (.slice a L.length c) s L j r m)∧Hid (Same w wr)∧Hid (DZ T)∧T.length≤m) (fun _ wr=>rf w.heap.size L.length wr)
  case atStart=>exact⟨m0,[],ae ⟨by simp,.inl ⟨rfl,rfl⟩⟩,Nat.le_of_eq hB,G,I3,ae (fun q h=>by cases h),Nat.zero_le _⟩
  case round=>
   obtain⟨m,T,HO,a8,Y,HK,HF,Js⟩:=hrel;have Ja:=dA Y.o;obtain⟨s0,c0,rfl⟩:=av HO.o;clear G I3;have c1:=xc1 Y.o.blk 1 rfl;have c3:=xc1 Y.o.blk 3 rfl;unfold maxLen at Jd;have Jo:=Y.o.at_;by_cases I9:m<L.length
   ·have Jc:decide ((m:Int)<(L.length:Int))=true:=by simp;omega
    go_wp2_with fail;refine aq (by kernel_rfl) (by kernel_rfl) ?_
    iterate 10 (apply wpQuiet_step;intro K l;(first|(apply aA;rfl;go_simp)|(apply aJ;rfl;intro w' d;obtain⟨q0,Z⟩:=xs2 d c1 c3;go_simp;exact rfl;go_simp));refine l _ ?_;clear l K)
    apply wpQuiet_nil;intro w5 z;clear c1 c3;have hB:=a8;have i:=ae (Y.o.same z);have I1:=ae (HO.o.keep z fun _ _=>trivial);have t:=ae (HK.o.tr z);have bL:=Nat.le_trans a8 z.size;clear z Y HO HK hB;go_wp2_with fail;refine mN (k:=0) i.o (by omega) ?_;rintro e w6 rfl U;have IS:=ae (i.o.same U);have I0:=ae (I1.o.keep U fun _ _=>trivial);have J:=ae (t.o.tr U);have Jh:=Nat.le_trans bL (Keeps.size U);clear U i I1 t;generalize plc L s.size (m+0)=pa;go_wp2_with fail;refine AP IS.o I9 ?_;rintro e O q m7 b rfl A h7 k7;have IR:=ae h7;have IZ:=ae (I0.o.but k7 F);have ch:Hid (Same w O):=ae (J.o.trans k7 fun y hy _=>⟨trivial,by omega⟩);have Ju:B≤O.heap.size:=Nat.le_trans Jh k7.size;have Jp:=h7.at_;clear k7 h7 IS I0 J;obtain⟨q0,Z,q2,q3⟩:=q;simp only[Qk.val];have p:=sal O (Hv q0 Z q2 q3);have V:(O.alloc (Hv q0 Z q2 q3)).heap.size=O.heap.size+1:=by simp
    have hz:=ag O (Hv q0 Z q2 q3);obtain⟨z0,z1,z2,z3⟩:=xc4 hz rfl rfl rfl rfl
    cases b with
    |false=>
     have I:=ae (ch.o.tr p);clear p hz A;go_wp2_with fail;exact HR.o _ _ _ _ 2 rfl ⟨_,_,_,rfl⟩ (fun h=>absurd h (by decide)) I.o
    |true=>
     obtain⟨A,Jk⟩:=A rfl;have Jj:=ae A;have If:=ae (IR.o.same p);have IW:=ae (IZ.o.keep p fun _ _=>trivial);have I:=ae (ch.o.tr p);clear p hz A IR IZ ch;obtain⟨g,cap,w9,hr,C,f⟩:=IW.o.push (by omega) ⟨q0,Z,q2,q3⟩ (by omega);rw[V]at hr;have D:=ae C;have gJ:=ae (If.o.kept f F dZ);have H:Hid (Same w w9):=ae (I.o.trans f fun y hy _=>⟨trivial,by omega⟩);have Jg:B≤w9.heap.size:=Nat.le_trans (by omega) f.size;clear f C If IW I V
     go_wp2_with (at_builtin;refine ap rfl _ _ _ rfl rfl rfl hr ?_;clear hr)
     clear z0 z1 z2 z3;refine u0 gJ.o ?_;rintro e I7 Jm I8 rfl gI Jl E;have X:=ae gI;have I2:=ae (D.o.but E F);have I5:Hid (Same w I7):=ae (H.o.trans E fun y hy _=>⟨trivial,by omega⟩);have gH:=Nat.le_trans Jg E.size;clear gI E gJ D H;go_wp2_with fail;go_roundw
     case rel=>exact⟨I8,T++[⟨q0,Z,q2,q3⟩],I2,gH,X,I5,ae (fun q hq=>by rcases List.mem_append.1 hq with hq|hq;exact HF.o q hq;simp at hq;subst hq;exact Jj.o),by simp;omega⟩
     case measure=>rw[Ja,dA X.o];omega
   ·have Jc:decide ((m:Int)<(L.length:Int))=false:=by simp;omega
    go_wp2_with fail;refine aq (by kernel_rfl) (by kernel_rfl) ?_
    iterate 10 (apply wpQuiet_step;intro K l;(first|(apply aA;rfl;go_simp)|(apply aJ;rfl;intro w' d;obtain⟨q0,Z⟩:=xs2 d c1 c3;go_simp;exact rfl;go_simp));refine l _ ?_;clear l K)
    apply wpQuiet_nil;intro w5 z;have i:=ae (Y.o.same z);have fw:=HO.o.keep z fun _ _=>trivial;have t:=ae (HK.o.tr z);have bL:=Nat.le_trans a8 z.size;have d0:=xc1 i.o.blk 0 rfl;have d2:=xc1 i.o.blk 2 rfl;clear z Y HO HK c1 c3;rcases aL with⟨rfl,hj⟩|⟨rfl,hj⟩
    ·have Jf:decide ((-1:Int)≥0)=false:=by decide
     obtain⟨g,cap,w9,hr,C,f⟩:=fw.push bL ⟨4,GA,0,(s.size:Int)⟩ (by omega);have D:=ae C;have H:Hid (Same w w9):=ae (t.o.trans f fun y hy _=>⟨trivial,by omega⟩);have Ji:=ae (FD HF.o (s.size:Int));have dE:(T++[(⟨4,GA,0,(s.size:Int)⟩:Qk)]).length≤2001:=by simp;omega
     clear C f fw i t
     go_wp2_with (at_builtin;refine ap rfl _ _ _ rfl rfl rfl hr ?_;clear hr)
     refine HR.o _ _ _ _ 0 rfl ⟨_,_,_,rfl⟩ (fun _=>⟨hs,T++[(⟨4,GA,0,(s.size:Int)⟩:Qk)],D.o.toks,?_,by simp,dE,Ji.o⟩) H.o;intro b hb;have h9:B≤g:=(ah D.o (g:=g) rfl).1;have Jr:g=b:=Option.some.inj hb;omega
    ·have Jf:decide ((j:Int)≥0)=true:=by simp
     go_wp2_with fail;refine aq (by kernel_rfl) (by kernel_rfl) ?_
     iterate 7 (apply wpQuiet_step;intro K l;(first|(apply aA;rfl;go_simp)|(apply aJ;rfl;intro w' d;have r2:=ak d d2 trivial;go_simp;exact rfl;go_simp));refine l _ ?_;clear l K)
     apply wpQuiet_nil;intro w6 U;have J:=ae (t.o.tr U);clear U;go_wp2_with fail;exact HR.o _ _ _ _ 2 rfl ⟨_,_,_,rfl⟩ (fun h=>absurd h (by decide)) J.o
 ·have Jb:decide ((2000:Int)<(s.size:Int))=true:=by simp;omega
  go_enter Tryz.func9,Tryz.ntmps9;go_wp2_with fail;exact HR.o _ _ _ _ 3 rfl ⟨_,_,_,rfl⟩ (fun h=>absurd h (by decide)) (af _ _)
end
end Go.Proofs.YtojegnbejmeehaaGreatDoor
