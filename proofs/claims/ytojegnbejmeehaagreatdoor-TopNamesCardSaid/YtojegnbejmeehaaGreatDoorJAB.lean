/- Helpers of the proof of TopNames. -/
import Derived.Test.YtojegnbejmeehaaGreatDoorJAA
namespace Go.Proofs.YtojegnbejmeehaaGreatDoor
open Go.RowKit
set_option maxRecDepth 10000
set_option maxHeartbeats 16000000
set_option linter.all false
def Gk (r:Nat):Prop:=r<128∨(0x3b1≤r∧r≤0x3c9)
def wid (r:Nat):Nat:=if r<128 then 1 else 2
def byt (s:ByteArray) (k:Nat):Nat:=(s.get! k).toNat
def At1 (s:ByteArray) (i r:Nat):Prop:=(r<128∧i<s.size∧byt s i=r)∨(0x3b1≤r∧r≤0x3c9∧i+1<s.size∧byt s i=0xC0+r/64∧byt s (i+1)=0x80+r%64)
theorem DT {s:ByteArray} {i r:Nat} (h:At1 s i r):i+wid r≤s.size:=by
 unfold wid;rcases h with⟨h,h2,_⟩|⟨h1,h2,a,_⟩
 ·rw[if_pos h];omega
 ·rw[if_neg (by omega)];omega
theorem pQ {s:ByteArray} {i r:Nat} (h:At1 s i r):Utf8.decode s i=(r,wid r):=by
 unfold At1 byt at h;unfold Utf8.decode wid;simp only[Nat.add_zero];obtain⟨f,c⟩:∃b,(s.get! i).toNat=b:=⟨_,rfl⟩;obtain⟨e,a⟩:∃b,(s.get! (i+1)).toNat=b:=⟨_,rfl⟩;simp only[c,a]at h⊢;rcases h with⟨h,h2,d⟩|⟨h1,h2,d,m,l⟩
 ·rw[if_pos (by omega),if_pos h,d]
 ·have k:f/32=6:=by omega
  have j:e/64=2:=by omega
  have g:f%32*64+e%64=r:=by omega
  rw[if_neg (by omega),k,j,g,if_pos (by simp[d]),if_pos (by omega),if_neg (by omega)]
theorem xB {s:ByteArray} {i r:Nat} (p:i<s.size) (o:Gk r) (h:(Utf8.decode s i).1=r):At1 s i r:=by
 unfold Utf8.decode at h;simp only[Nat.add_zero]at h;have a:∀k,(s.get! k).toNat<256:=fun k=>(s.get! k).toNat_lt;have j:=a i;have g:=a (i+1);have f:=a (i+2);have e:=a (i+3);unfold At1 byt;obtain⟨v,d⟩:∃b,(s.get! i).toNat=b:=⟨_,rfl⟩;obtain⟨u,c⟩:∃b,(s.get! (i+1)).toNat=b:=⟨_,rfl⟩;obtain⟨t,n⟩:∃b,(s.get! (i+2)).toNat=b:=⟨_,rfl⟩;obtain⟨q,m⟩:∃b,(s.get! (i+3)).toNat=b:=⟨_,rfl⟩;simp only[d]at j;simp only[c]at g;simp only[n]at f;simp only[m]at e;simp only[d,c,n,m]at h;simp only[d,c];clear d c n m a;unfold Gk at o
 split at h
 ·left;simp at h;omega
 split at h
 ·rename_i h1 h2
  simp only[Bool.and_eq_true,beq_iff_eq,decide_eq_true_eq]at h2
  split at h
  ·right;simp at h;omega
  ·simp[Utf8.runeError]at h;omega
 split at h
 ·split at h
  ·rename_i l
   simp only[Bool.and_eq_true,decide_eq_true_eq]at l;simp at h;omega
  ·simp[Utf8.runeError]at h;omega
 split at h
 ·split at h
  ·rename_i l
   simp only[Bool.and_eq_true,decide_eq_true_eq]at l;simp at h;omega
  ·simp[Utf8.runeError]at h;omega
 ·simp[Utf8.runeError]at h;omega
def yS (s:ByteArray):Nat→List Nat→Nat→Prop
 |i,[],j=>i=j
 |i,r::l,j=>At1 s i r∧yS s (i+wid r) l j
theorem ow {s:ByteArray}:∀(l:List Nat) (i j:Nat),yS s i l j→i≤j∧(i<j→j≤s.size)
 | [],i,j,h=>by cases h;exact⟨Nat.le_refl _,fun h=>absurd h (Nat.lt_irrefl _)⟩
 |r::l,i,j,⟨h1,h2⟩=>by
  have :=ow l _ j h2;have a:=DT h1;refine⟨by omega,fun _=>?_⟩;rcases Nat.lt_or_eq_of_le this.1 with h|h
  ·exact this.2 h
  ·omega
def kj (r:Nat):List UInt8:=if r<128 then[r.toUInt8]else[(0xC0+r/64).toUInt8,(0x80+r%64).toUInt8]
def bA (l:List Nat):List UInt8:=l.flatMap kj
def enc (l:List Nat):ByteArray:=⟨(bA l).toArray⟩
def cd (r:Nat):Bool:=(decide (97≤r)&&decide (r≤122))||(decide (65≤r)&&decide (r≤90))||r==95||(decide (0x3b1≤r)&&decide (r≤0x3c9))
def cU (r:Nat):Bool:=decide (48≤r)&&decide (r≤57)
def cT (r:Nat):Bool:=r==32||r==9||r==10||r==13
def nC (r:Nat):Bool:=[61,126,60,62,38,124,40,41,123,125,44,59,58,43,92,35,39].contains r
def cls (r:Nat):Nat:=if cd r then 1 else if cU r then 2 else if cT r then 3 else if nC r then 4 else 0
def more (r:Nat):Bool:=cd r||cU r||r==39
inductive Tk where
 |word (s:ByteArray)
 |name (s:ByteArray)
 |num (n:Int)
 |fin
def sgns:List (List Nat):=[[60,61,62],[61,62],[60,61],[126,61],[61],[126],[60],[38],[124],[40],[41],[123],[125],[44],[59],[58],[43],[92]]
def zA (l:List Nat):Option (List Nat):=sgns.find? fun s=>s.isPrefixOf l
def wordsL:List ByteArray:=[GU,Hi,⟨#[101,120,48]⟩,GX,⟨#[101,120,50]⟩,⟨#[97,108,108,48]⟩,G0,⟨#[97,108,108,50]⟩,He,G2,G6,Hf,GN,Hg,GE,Ha,Hb]
def dL (l:List ByteArray) (x:ByteArray):Bool:=l.any fun u=>decide (u=x)
theorem fP {l:List ByteArray} {x:ByteArray}:dL l x=true↔x∈l:=by simp[dL]
def eC (l:List Nat):Option (Tk×List Nat):=
 match l with
 | []=>none
 |c::r=>
  if cd c then
   if(c::r.takeWhile more).length≤12 then
    some (if dL wordsL (enc (c::r.takeWhile more))then .word (enc (c::r.takeWhile more))else .name (enc (c::r.takeWhile more)),r.dropWhile more)
   else none
  else if cU c then
   match r with
   | []=>some (.num ((c:Int) -48),[])
   |d::r'=>if cU d then none else some (.num ((c:Int) -48),d::r')
  else if nC c then(zA (c::r)).map fun s=>(.word (enc s),(c::r).drop s.length)
  else none
def bG:Nat→List Nat→Option (List Tk)
 |0,_=>none
 |f+1,l=>
  match l.dropWhile cT with
  | []=>some [.fin]
  |c::r=>if c=35 then none else
   match eC (c::r)with
   |none=>none
   |some p=>(bG f p.2).map (p.1::·)
theorem io (r:Nat):(kj r).length=wid r:=by unfold kj wid;split<;>rfl
theorem cL (l m:List Nat):bA (l++m)=bA l++bA m:=by simp[bA]
theorem dm (r:Nat) (m:List Nat):bA (r::m)=kj r++bA m:=by simp[bA]
theorem dJ (l:List Nat):(enc l).size=(bA l).length:=by simp[enc,ByteArray.size]
theorem iQ (l m:List Nat):enc (l++m)=enc l++enc m:=by
 apply ByteArray.ext;rw[ByteArray.data_append];simp[enc,cL]
theorem Fp (l:List Nat) (k:Nat):byt (enc l) k=((bA l)[k]?.getD 0).toNat:=by
 have h:(enc l).get! k=(bA l).toArray[k]!:=rfl;unfold byt;rw[h];simp only[Array.getElem!_eq_getD,Array.getD_eq_getD_getElem?,List.getElem?_toArray];rfl
theorem Fr (b:List Nat) (r:Nat) (a:List Nat) (h:Gk r):At1 (enc (b++r::a)) (enc b).size r:=by
 have c:∀k,byt (enc (b++r::a)) ((enc b).size+k)=((kj r++bA a)[k]?.getD 0).toNat:=fun k=>by
  rw[Fp,dJ,cL,dm,List.getElem?_append_right (by omega)]
  congr 2
  congr 1
  omega
 have hs:(enc (b++r::a)).size=(enc b).size+(wid r+(bA a).length):=by
  rw[dJ,dJ,cL,dm,List.length_append,List.length_append,io]
 have h0:=c 0;have h1:=c 1;rw[Nat.add_zero]at h0;unfold At1;rw[h0,h1,hs];unfold wid kj;rcases h with h|⟨h2,d⟩
 ·left;simp only[if_pos h];refine⟨h,by omega,?_⟩;simp;omega
 ·right;simp only[if_neg (show¬r<128 by omega)];refine⟨h2,d,by omega,?_,?_⟩
  ·simp;omega
  ·simp;omega
def pos (rs:List Nat) (k:Nat):Nat:=(bA (rs.take k)).length
theorem BH (rs:List Nat):pos rs 0=0:=by simp[pos,bA]
theorem lK (rs:List Nat):pos rs rs.length=(enc rs).size:=by simp[pos,dJ]
theorem oJ {rs:List Nat} {k:Nat} (h:k<rs.length):pos rs (k+1)=pos rs k+wid rs[k]:=by
 unfold pos;rw[List.take_add_one,List.getElem?_eq_getElem h,cL,List.length_append];simp[bA,io]
theorem nT (r:Nat):1≤wid r∧wid r≤2:=by unfold wid;split<;>omega
theorem oK {rs:List Nat} {i j:Nat} (h:i≤j):pos rs i≤pos rs j:=by
 unfold pos;have e:rs.take j=rs.take i++(rs.take j).drop i:=by
  have h2:(rs.take j).take i=rs.take i:=by rw[List.take_take,Nat.min_eq_left h]
  have a:=List.take_append_drop i (rs.take j);rw[h2]at a;exact a.symm
 rw[e,cL,List.length_append];omega
theorem oL (rs:List Nat) (i:Nat):pos rs i≤(enc rs).size:=by
 rcases Nat.le_total i rs.length with h|h
 ·rw[←lK];exact oK h
 ·unfold pos;rw[List.take_of_length_le h,dJ];exact Nat.le_refl _
theorem BI {rs:List Nat} {i j:Nat} (h:i<j) (a:j≤rs.length):pos rs i<pos rs j:=by
 have h1:=oJ (rs:=rs) (k:=i) (by omega);have h2:=oK (rs:=rs) (show i+1≤j by omega);have b:=(nT (rs[i]'(by omega))).1;omega
theorem yO {rs:List Nat} (a:∀r∈rs,Gk r) {k:Nat} (h:k<rs.length):At1 (enc rs) (pos rs k) rs[k]:=by
 have :=Fr (rs.take k) rs[k] (rs.drop (k+1)) (a _ (List.getElem_mem h));rw[List.getElem_cons_drop,List.take_append_drop,dJ]at this;exact this
theorem nJ (rs:List Nat) {i j:Nat} (h:i≤j):(enc rs).extract (pos rs i) (pos rs j)=enc ((rs.take j).drop i):=by
 apply ByteArray.ext;rw[ByteArray.data_extract];apply Array.toList_inj.1;rw[Array.toList_extract]
 show(bA rs).extract (pos rs i) (pos rs j)=bA ((rs.take j).drop i)
 have e:rs=rs.take j++rs.drop j:=(List.take_append_drop j rs).symm;have b:rs.take j=rs.take i++(rs.take j).drop i:=by
  have a:=List.take_append_drop i (rs.take j);rw[List.take_take,Nat.min_eq_left h]at a;exact a.symm
 rw[List.extract_eq_take_drop];have d:bA rs=bA (rs.take i)++(bA ((rs.take j).drop i)++bA (rs.drop j)):=by
  rw[←cL,←cL,←List.append_assoc,←b,←e]
 have c:pos rs j=pos rs i+(bA ((rs.take j).drop i)).length:=by
  unfold pos
  conv=>lhs;rw[b]
  rw[cL,List.length_append]
 rw[c,Nat.add_sub_cancel_left,d,show pos rs i=(bA (rs.take i)).length from rfl,List.drop_left,List.take_left]
theorem eF {n:Nat} (h:n<256):n.toUInt8.toNat=n:=by simp;omega
theorem kE {s:ByteArray}:∀(l:List Nat) (i j:Nat),yS s i l j→i≤s.size→s.extract i j=enc l
 | [],i,j,h,hi=>by
  cases h
  apply ByteArray.ext;simp[enc,bA]
 |r::l,i,j,⟨h1,h2⟩,hi=>by
  have c:=DT h1;have u:=kE l _ j h2 c;have d:=(ow l _ j h2).1;have v:j≤s.size:=by
   rcases Nat.lt_or_eq_of_le d with h|h
   ·exact(ow l _ j h2).2 h
   ·omega
  have e:s.extract i j=s.extract i (i+wid r)++s.extract (i+wid r) j:=by
   apply ByteArray.ext;rw[ByteArray.data_append,ByteArray.data_extract,ByteArray.data_extract,ByteArray.data_extract];rw[Array.extract_append_extract,Nat.min_eq_left (by omega),Nat.max_eq_right (by omega)]
  have x:s.extract i (i+wid r)=enc [r]:=by
   apply ByteArray.ext;rw[ByteArray.data_extract];apply Array.toList_inj.1;rw[Array.toList_extract,List.extract_eq_take_drop,Nat.add_sub_cancel_left]
   show _=bA [r]
   have m:∀k,k<s.size→s.data.toList[k]?=some (s.get! k):=fun k f=>by
    have a:k<s.data.size:=f;have :s.get! k=s.data[k]!:=rfl;rw[this,Array.getElem?_toList,getElem!_pos s.data k a,Array.getElem?_eq_getElem a]
   have g:∀k,k<s.size→s.data.toList.drop k=s.get! k::s.data.toList.drop (k+1):=fun k f=>by
    have :=m k f;obtain⟨a,e⟩:=List.getElem?_eq_some_iff.1 this;rw[List.drop_eq_getElem_cons a,e]
   have b:∀k n,byt s k=n→s.get! k=n.toUInt8:=fun k n q=>by
    unfold byt at q;apply UInt8.toNat_inj.1;rw[eF (by have :=(s.get! k).toNat_lt;omega)];exact q
   rcases h1 with⟨p,t,o⟩|⟨p,t,o,z,y⟩
   ·have hw:wid r=1:=by unfold wid;rw[if_pos p]
    rw[hw,g i t,b i r o];simp[bA,kj,p]
   ·have hw:wid r=2:=by unfold wid;rw[if_neg (by omega)]
    rw[hw,g i (by omega),g (i+1) o,b i _ z,b (i+1) _ y];simp[bA,kj,show¬r<128 by omega]
  rw[e,x,u,←iQ];rfl
theorem iW:∀(p l:List Nat),(∀r∈p,r<128)→(∀r∈l,Gk r)→(bA p).isPrefixOf (bA l)=p.isPrefixOf l
 | [],l,_,_=>by simp[bA]
 |a::p,[],hp,_=>by
  have b:=hp a List.mem_cons_self;simp[bA,kj,b]
 |a::p,r::l,hp,hl=>by
  have b:=hp a List.mem_cons_self;have c:=iW p l (fun r h=>hp r (List.mem_cons_of_mem _ h)) (fun r h=>hl r (List.mem_cons_of_mem _ h));rw[dm,dm];have g:kj a=[a.toUInt8]:=by simp[kj,b]
  rw[g];rcases hl r List.mem_cons_self with d|⟨h1,h2⟩
  ·have er:kj r=[r.toUInt8]:=by simp[kj,d]
   rw[er];simp only[List.cons_append,List.nil_append,List.isPrefixOf_cons_cons,c]
   congr 1
   rw[Bool.eq_iff_iff,beq_iff_eq,beq_iff_eq];constructor
   ·intro h;have :=congrArg UInt8.toNat h;rw[eF (by omega),eF (by omega)]at this;exact this
   ·rintro rfl;rfl
  ·have er:kj r=[(0xC0+r/64).toUInt8,(0x80+r%64).toUInt8]:=by simp[kj,show¬r<128 by omega]
   rw[er];simp only[List.cons_append,List.nil_append,List.isPrefixOf_cons_cons];have f:(a.toUInt8==(0xC0+r/64).toUInt8)=false:=by
    rw[beq_eq_false_iff_ne];intro h;have :=congrArg UInt8.toNat h;rw[eF (by omega),eF (by omega)]at this;omega
   have e:(a==r)=false:=by rw[beq_eq_false_iff_ne];omega
   rw[f,e];rfl
def cM (a:ByteArray):Prop:=∃c r,a=enc (c::r)∧cd c=true∧(∀x∈r,more x=true)∧r.length≤11∧dL wordsL a=false
theorem Cx {r:Nat} (h:cd r=true):Gk r:=by
 unfold cd at h;simp only[Bool.or_eq_true,Bool.and_eq_true,decide_eq_true_eq,beq_iff_eq]at h;unfold Gk;omega
theorem yy {r:Nat} (h:more r=true):Gk r:=by
 unfold more at h;simp only[Bool.or_eq_true,beq_iff_eq]at h;rcases h with(h|h)|h
 ·exact Cx h
 ·unfold cU at h;simp only[Bool.and_eq_true,decide_eq_true_eq]at h;left;omega
 ·left;omega
theorem Ct {c:Nat} {r l:List Nat} (h1:cd c=true) (h2:∀x∈r,more x=true) (k:r.length≤11) (j:dL wordsL (enc (c::r))=false) (b:∀d e,l=d::e→more d=false) (f:Nat):
 bG (f+1) (c::(r++l))=(bG f l).map (Tk.name (enc (c::r))::·):=by
 have hs:cT c=false:=by
  unfold cd at h1;unfold cT;simp only[Bool.or_eq_true,Bool.and_eq_true,decide_eq_true_eq,beq_iff_eq]at h1;simp only[Bool.or_eq_false_iff,beq_eq_false_iff_ne];omega
 have i:c≠35:=by
  rintro rfl
  revert h1
  decide
 have g:(r++l).takeWhile more=r:=by
  rw[List.takeWhile_append_of_pos h2]
  cases l with
  |nil=>simp
  |cons d l=>simp[b d l rfl]
 have h:(r++l).dropWhile more=l:=by
  rw[List.dropWhile_append_of_pos h2]
  cases l with
  |nil=>rfl
  |cons d l=>simp[b d l rfl]
 have a:(c::r).length≤12:=by simp;omega
 show(match (c::(r++l)).dropWhile cT with
  | []=>some [Tk.fin]
  |c::r=>if c=35 then none else
   match eC (c::r)with
   |none=>none
   |some p=>(bG f p.2).map (p.1::·))=_
 rw[List.dropWhile_cons,hs];simp only[Bool.false_eq_true,if_false,if_neg i];have :eC (c::(r++l))=some (Tk.name (enc (c::r)),l):=by
  unfold eC;simp only[h1,if_true,g,h,if_pos a,j,Bool.false_eq_true,if_false]
 rw[this]
inductive Fm where
 |leaf (op name:ByteArray) (n:Int)
 |one (op name:ByteArray) (n:Int) (k:Fm)
 |two (op name:ByteArray) (n:Int) (a b:Fm)
def Fm.op:Fm→ByteArray
 | .leaf o _ _=>o
 | .one o _ _ _=>o
 | .two o _ _ _ _=>o
def Fm.name:Fm→ByteArray
 | .leaf _ x _=>x
 | .one _ x _ _=>x
 | .two _ x _ _ _=>x
def Fm.num:Fm→Int
 | .leaf _ _ n=>n
 | .one _ _ n _=>n
 | .two _ _ n _ _=>n
def Fm.kids:Fm→List Fm
 | .leaf _ _ _=>[]
 | .one _ _ _ k=>[k]
 | .two _ _ _ a b=>[a,b]
def fJ {α:Type} (l:List (ByteArray×α)) (x:ByteArray):Option α:=(l.find? fun u=>decide (u.1=x)).map (·.2)
abbrev PR:=Option (Fm×List Tk)
def tY:List Tk→PR
 | .num n::t::r=>some (.leaf GH GA n,t::r)
 | .name s::.word x::r=>if x=⟨#[43]⟩then none else some (.leaf GG s 0,.word x::r)
 | .name s::t::r=>some (.leaf GG s 0,t::r)
 |_=>none
def CG:List ByteArray:=[Ha,Hb,⟨#[92]⟩]
def ja (l:List Tk):PR:=
 match tY l with
 |some (a,.word x::r)=>if dL CG x then none else some (a,.word x::r)
 |some (a,t::r)=>some (a,t::r)
 |_=>none
def rels:List (ByteArray×ByteArray):=[(Hc,GQ),(⟨#[126,61]⟩,⟨#[110,101]⟩),(G1,GK),(Hd,GR),(GN,GN),(Hg,Hg),(GE,GE)]
def pIs (a:Fm) (r:List Tk):PR:=if a.op=GG then some (.leaf GI a.name 0,r)else none
def pAtom (l:List Tk):PR:=
 match l with
 | .name s::.word x::r=>if x=G5 then none else pAtom' (.name s::.word x::r)
 |_=>none
where
 pAtom' (l:List Tk):PR:=
  match ja l with
  |some (a,.word x::r)=>
   match fJ rels x with
   |some op=>match ja r with
    |some (b,r2)=>some (.two op GA 0 a b,r2)
    |none=>none
   |none=>pIs a (.word x::r)
  |some (a,t::r)=>pIs a (t::r)
  |_=>none
def pUn (F:List Tk→PR) (l:List Tk):PR:=
 match l with
 | .word x::.name s::.word y::r=>
  if y=GW then
   if x=GX then(F r).map fun p=>(.one GB s 1 p.1,p.2)
   else if x=G0 then(F r).map fun p=>(.one GC s 1 p.1,p.2)
   else none
  else none
 | .word _::_=>none
 |l=>pAtom l
def lQ (sign op:ByteArray) (P:List Tk→PR):Nat→Fm→List Tk→PR
 |0,_,_=>none
 |f+1,a,.word x::r=>if x=sign then
  match P r with
  |some (b,r2)=>lQ sign op P f (.two op GA 0 a b) r2
  |none=>none
  else some (a,.word x::r)
 |_+1,a,t::r=>some (a,t::r)
 |_+1,_,[]=>none
def nt (sign op:ByteArray) (P:List Tk→PR) (l:List Tk):PR:=
 match P l with
 |some (a,r)=>lQ sign op P 9 a r
 |none=>none
def pOr (U:List Tk→PR):List Tk→PR:=nt G7 GO (nt ⟨#[38]⟩ GD U)
def zM (U:List Tk→PR):Nat→List Tk→PR
 |0,_=>none
 |f+1,l=>
  match pOr U l with
  |some (a,.word x::r)=>if x=GZ then
   match zM U f r with
   |some (b,r2)=>some (.two GL GA 0 a b,r2)
   |none=>none
   else some (a,.word x::r)
  |some (a,t::r)=>some (a,t::r)
  |_=>none
def qP:Nat→List Tk→PR
 |0,_=>none
 |d+1,l=>nt GY GF (zM (pUn (qP d)) 9) l
def gW:Nat→List Tk→Option (List ByteArray×List Tk)
 |f+1,.name s::.word x::r=>
  if x=G8 then(gW f r).map fun p=>(s::p.1,p.2)
  else if x=GM then some ([s],r)else none
 |_,_=>none
def orders:List (ByteArray×Nat):=[(He,0),(G2,1),(G6,2)]
def yo (l:List Tk):Option Fm:=
 match qP 29 l with
 |some (m,[.word x,.fin])=>if x=GM then some m else none
 |_=>none
def gv:Nat→List Tk→Option (List (ByteArray×Nat)×Fm)
 |0,_=>none
 |f+1,.word x::r=>
  match fJ orders x with
  |some k=>match gW 9 r with
   |some (xs,r2)=>(gv f r2).map fun p=>(xs.map (·,k)++p.1,p.2)
   |none=>none
  |none=>if x=Hf then none else(yo (.word x::r)).map ([],·)
 |_+1,l=>(yo l).map ([],·)
section
theorem js (f:Nat) (l:List Nat):bG (f+1) l=(match l.dropWhile cT with
 | []=>some [Tk.fin]
 |c::r=>if c=35 then none else
  match eC (c::r)with
  |none=>none
  |some p=>(bG f p.2).map (p.1::·)):=rfl
theorem aV (f:Nat) (l:List Nat):bG (f+1) (32::l)=bG (f+1) l:=by
 rw[js,js];rfl
theorem Aj {c:Nat} (h1:cd c=true):cT c=false∧c≠35:=by
 unfold cd at h1;unfold cT;simp only[Bool.or_eq_true,Bool.and_eq_true,decide_eq_true_eq,beq_iff_eq]at h1;simp only[Bool.or_eq_false_iff,beq_eq_false_iff_ne];omega
theorem pv {c:Nat} {r l:List Nat} (h1:cd c=true) (h2:∀x∈r,more x=true) (n:r.length≤11) (m:dL wordsL (enc (c::r))=true) (g:∀d h,l=d::h→more d=false) (f:Nat):
 bG (f+1) (c::(r++l))=(bG f l).map (Tk.word (enc (c::r))::·):=by
 obtain⟨hs,k⟩:=Aj h1;have i:(r++l).takeWhile more=r:=by
  rw[List.takeWhile_append_of_pos h2]
  cases l with
  |nil=>simp
  |cons d l=>simp[g d l rfl]
 have j:(r++l).dropWhile more=l:=by
  rw[List.dropWhile_append_of_pos h2]
  cases l with
  |nil=>rfl
  |cons d l=>simp[g d l rfl]
 have e:(c::r).length≤12:=by simp;omega
 rw[js,List.dropWhile_cons,hs];simp only[Bool.false_eq_true,if_false,if_neg k];have :eC (c::(r++l))=some (Tk.word (enc (c::r)),l):=by
  unfold eC;simp only[h1,if_true,i,j,if_pos e,m]
 rw[this]
theorem cB {c:Nat} {l s:List Nat} (h1:cd c=false∧cU c=false∧nC c=true∧cT c=false∧c≠35) (d:zA (c::l)=some s) (f:Nat):
 bG (f+1) (c::l)=(bG f ((c::l).drop s.length)).map (Tk.word (enc s)::·):=by
 rw[js,List.dropWhile_cons,h1.2.2.2.1];simp only[Bool.false_eq_true,if_false,if_neg h1.2.2.2.2];have :eC (c::l)=some (Tk.word (enc s),(c::l).drop s.length):=by
  unfold eC;simp only[h1.1,h1.2.1,h1.2.2.1,Bool.false_eq_true,if_false,if_true,d,Option.map_some]
 rw[this]
theorem q8 {c d:Nat} {l:List Nat} (h1:cd c=false∧cU c=true∧cT c=false∧c≠35) (e:cU d=false) (f:Nat):
 bG (f+1) (c::d::l)=(bG f (d::l)).map (Tk.num ((c:Int) -48)::·):=by
 rw[js,List.dropWhile_cons,h1.2.2.1];simp only[Bool.false_eq_true,if_false,if_neg h1.2.2.2];have :eC (c::d::l)=some (Tk.num ((c:Int) -48),d::l):=by
  unfold eC;simp only[h1.1,h1.2.1,Bool.false_eq_true,if_false,if_true,e]
 rw[this]
def c6 (a b:List Nat) (l:List Nat):List Nat:=l.flatMap fun c=>if c=37 then a else if c=38 then b else[c]
def tpl0:List Nat:=[118,97,114,49,32,37,59,32,118,97,114,50,32,38,59,32,37,32,105,110,32,38,32,61,62,32,37,32,60,32,51,59]
def tpl1:List Nat:=[118,97,114,50,32,37,44,32,38,59,32,37,32,115,117,98,32,38,32,124,32,38,32,115,117,98,32,37,59]
def tpl2:List Nat:=[118,97,114,48,32,37,59,32,118,97,114,49,32,38,59,32,37,32,60,61,62,32,38,32,61,32,50,59]
def tpl3:List Nat:=[118,97,114,49,32,38,59,32,101,120,49,32,37,58,32,37,32,60,32,38,59]
def Eb:List Nat:=[97,108,108,49,32,120,58,32,101,120,49,32,121,58,32,120,32,60,32,121,59]
def Ea:List Nat:=[101,120,49,32,120,58,32,97,108,108,49,32,121,58,32,121,32,60,61,32,120,59]
structure NameR (l:List Nat):Prop where
 ne:∃c r,l=c::r∧cd c=true∧(∀x∈r,more x=true)∧r.length≤11
 no:dL wordsL (enc l)=false
theorem NameR.lex {a l:List Nat} (h:NameR a) (g:∀d e,l=d::e→more d=false) (f:Nat):bG (f+1) (a++l)=(bG f l).map (Tk.name (enc a)::·):=by
 obtain⟨⟨c,r,rfl,h1,h2,j⟩,i⟩:=h;exact Ct h1 h2 j i g f
theorem lX {f:Nat} {g:List Nat} (h:more f=false):∀d c,f::g=d::c→more d=false:=by
 intro d c e;rw[←(List.cons.inj e).1];exact h
theorem mH {i g e c d:Nat} {l:List Nat} (h:cd i=true∧(∀x∈[g,e,c],more x=true)∧dL wordsL (enc [i,g,e,c])=true∧more d=false) (f:Nat):
 bG (f+1) (i::g::e::c::d::l)=(bG f (d::l)).map (Tk.word (enc [i,g,e,c])::·):=
 pv (r:=[g,e,c]) (l:=d::l) h.1 h.2.1 (by simp) h.2.2.1 (lX h.2.2.2) f
theorem wX {g e c d:Nat} {l:List Nat} (h:cd g=true∧(∀x∈[e,c],more x=true)∧dL wordsL (enc [g,e,c])=true∧more d=false) (f:Nat):
 bG (f+1) (g::e::c::d::l)=(bG f (d::l)).map (Tk.word (enc [g,e,c])::·):=
 pv (r:=[e,c]) (l:=d::l) h.1 h.2.1 (by simp) h.2.2.1 (lX h.2.2.2) f
theorem FR {e c d:Nat} {l:List Nat} (h:cd e=true∧(∀x∈[c],more x=true)∧dL wordsL (enc [e,c])=true∧more d=false) (f:Nat):
 bG (f+1) (e::c::d::l)=(bG f (d::l)).map (Tk.word (enc [e,c])::·):=
 pv (r:=[c]) (l:=d::l) h.1 h.2.1 (by simp) h.2.2.1 (lX h.2.2.2) f
theorem NameR.lexc {a l:List Nat} {d:Nat} (h:NameR a) (c:more d=false) (f:Nat):bG (f+1) (a++d::l)=(bG f (d::l)).map (Tk.name (enc a)::·):=h.lex (lX c) f
theorem nY (f:Nat):bG (f+1) []=some [Tk.fin]:=rfl
variable {a b:List Nat}
theorem Cs (c:NameR a) (d:NameR b):bG 60 (c6 a b tpl0)=some [.word G2,.name (enc a),.word GM,.word G6,.name (enc b),.word GM,.name (enc a),.word GN,.name (enc b),.word GZ,.name (enc a),.word G1,.num 3,.word GM,.fin]:=by
 have e:c6 a b tpl0=118::97::114::49::32::(a++59::32::118::97::114::50::32::(b++59::32::(a++32::105::110::32::(b++32::61::62::32::(a++[32,60,32,51,59]))))):=by
  simp[c6,tpl0]
 rw[e];rw[mH (by decide),aV,c.lexc (by decide),cB (by decide) (s:=[59]) rfl];simp only[List.length_cons,List.length_nil,List.drop_succ_cons,List.drop_zero];rw[aV,mH (by decide),aV,d.lexc (by decide),cB (by decide) (s:=[59]) rfl];simp only[List.length_cons,List.length_nil,List.drop_succ_cons,List.drop_zero];rw[aV,c.lexc (by decide),aV,FR (by decide),aV,d.lexc (by decide),aV,cB (by decide) (s:=[61,62]) rfl];simp only[List.length_cons,List.length_nil,List.drop_succ_cons,List.drop_zero];rw[aV,c.lexc (by decide),aV,cB (by decide) (s:=[60]) rfl];simp only[List.length_cons,List.length_nil,List.drop_succ_cons,List.drop_zero];rw[aV,q8 (by decide) (by decide),cB (by decide) (s:=[59]) rfl];simp only[List.length_cons,List.length_nil,List.drop_succ_cons,List.drop_zero];rw[nY];rfl
theorem Cr (d:NameR a) (c:NameR b):bG 60 (c6 a b tpl1)=some [.word G6,.name (enc a),.word G8,.name (enc b),.word GM,.name (enc a),.word GE,.name (enc b),.word G7,.name (enc b),.word GE,.name (enc a),.word GM,.fin]:=by
 have e:c6 a b tpl1=118::97::114::50::32::(a++44::32::(b++59::32::(a++32::115::117::98::32::(b++32::124::32::(b++32::115::117::98::32::(a++[59])))))):=by
  simp[c6,tpl1]
 rw[e];rw[mH (by decide),aV,d.lexc (by decide),cB (by decide) (s:=[44]) rfl];simp only[List.length_cons,List.length_nil,List.drop_succ_cons,List.drop_zero];rw[aV,c.lexc (by decide),cB (by decide) (s:=[59]) rfl];simp only[List.length_cons,List.length_nil,List.drop_succ_cons,List.drop_zero];rw[aV,d.lexc (by decide),aV,wX (by decide),aV,c.lexc (by decide),aV,cB (by decide) (s:=[124]) rfl];simp only[List.length_cons,List.length_nil,List.drop_succ_cons,List.drop_zero];rw[aV,c.lexc (by decide),aV,wX (by decide),aV,d.lexc (by decide),cB (by decide) (s:=[59]) rfl];simp only[List.length_cons,List.length_nil,List.drop_succ_cons,List.drop_zero];rw[nY];rfl
theorem Cq (d:NameR a) (c:NameR b):bG 60 (c6 a b tpl2)=some [.word He,.name (enc a),.word GM,.word G2,.name (enc b),.word GM,.name (enc a),.word GY,.name (enc b),.word Hc,.num 2,.word GM,.fin]:=by
 have e:c6 a b tpl2=118::97::114::48::32::(a++59::32::118::97::114::49::32::(b++59::32::(a++32::60::61::62::32::(b++[32,61,32,50,59])))):=by
  simp[c6,tpl2]
 rw[e];rw[mH (by decide),aV,d.lexc (by decide),cB (by decide) (s:=[59]) rfl];simp only[List.length_cons,List.length_nil,List.drop_succ_cons,List.drop_zero];rw[aV,mH (by decide),aV,c.lexc (by decide),cB (by decide) (s:=[59]) rfl];simp only[List.length_cons,List.length_nil,List.drop_succ_cons,List.drop_zero];rw[aV,d.lexc (by decide),aV,cB (by decide) (s:=[60,61,62]) rfl];simp only[List.length_cons,List.length_nil,List.drop_succ_cons,List.drop_zero];rw[aV,c.lexc (by decide),aV,cB (by decide) (s:=[61]) rfl];simp only[List.length_cons,List.length_nil,List.drop_succ_cons,List.drop_zero];rw[aV,q8 (by decide) (by decide),cB (by decide) (s:=[59]) rfl];simp only[List.length_cons,List.length_nil,List.drop_succ_cons,List.drop_zero];rw[nY];rfl
theorem Cp (d:NameR a) (c:NameR b):bG 60 (c6 a b tpl3)=some [.word G2,.name (enc b),.word GM,.word GX,.name (enc a),.word GW,.name (enc a),.word G1,.name (enc b),.word GM,.fin]:=by
 have e:c6 a b tpl3=118::97::114::49::32::(b++59::32::101::120::49::32::(a++58::32::(a++32::60::32::(b++[59])))):=by
  simp[c6,tpl3]
 rw[e];rw[mH (by decide),aV,c.lexc (by decide),cB (by decide) (s:=[59]) rfl];simp only[List.length_cons,List.length_nil,List.drop_succ_cons,List.drop_zero];rw[aV,wX (by decide),aV,d.lexc (by decide),cB (by decide) (s:=[58]) rfl];simp only[List.length_cons,List.length_nil,List.drop_succ_cons,List.drop_zero];rw[aV,d.lexc (by decide),aV,cB (by decide) (s:=[60]) rfl];simp only[List.length_cons,List.length_nil,List.drop_succ_cons,List.drop_zero];rw[aV,c.lexc (by decide),cB (by decide) (s:=[59]) rfl];simp only[List.length_cons,List.length_nil,List.drop_succ_cons,List.drop_zero];rw[nY];rfl
theorem Cn:bG 60 Eb=some [.word G0,.name GS,.word GW,.word GX,.name GT,.word GW,.name GS,.word G1,.name GT,.word GM,.fin]:=by kernel_rfl
theorem Cm:bG 60 Ea=some [.word GX,.name GS,.word GW,.word G0,.name GT,.word GW,.name GT,.word Hd,.name GS,.word GM,.fin]:=by kernel_rfl
def vr (x:ByteArray):Fm:=.leaf GG x 0
def nm (n:Int):Fm:=.leaf GH GA n
def bin (op:ByteArray) (x y:Fm):Fm:=.two op GA 0 x y
variable (x y:ByteArray)
theorem wA:gv 9 [.word G2,.name x,.word GM,.word G6,.name y,.word GM,.name x,.word GN,.name y,.word GZ,.name x,.word G1,.num 3,.word GM,.fin]=
 some ([(x,1),(y,2)],bin GL (bin GN (vr x) (vr y)) (bin GK (vr x) (nm 3))):=by kernel_rfl
theorem wy:gv 9 [.word G6,.name x,.word G8,.name y,.word GM,.name x,.word GE,.name y,.word G7,.name y,.word GE,.name x,.word GM,.fin]=
 some ([(x,2),(y,2)],bin GO (bin GE (vr x) (vr y)) (bin GE (vr y) (vr x))):=by kernel_rfl
theorem wv:gv 9 [.word He,.name x,.word GM,.word G2,.name y,.word GM,.name x,.word GY,.name y,.word Hc,.num 2,.word GM,.fin]=
 some ([(x,0),(y,1)],bin GF (.leaf GI x 0) (bin GQ (vr y) (nm 2))):=by kernel_rfl
theorem wu:gv 9 [.word G2,.name y,.word GM,.word GX,.name x,.word GW,.name x,.word G1,.name y,.word GM,.fin]=
 some ([(y,1)],.one GB x 1 (bin GK (vr x) (vr y))):=by kernel_rfl
theorem ws:gv 9 [.word G0,.name x,.word GW,.word GX,.name y,.word GW,.name x,.word G1,.name y,.word GM,.fin]=
 some ([],.one GC x 1 (.one GB y 1 (bin GK (vr x) (vr y)))):=by kernel_rfl
theorem wq:gv 9 [.word GX,.name x,.word GW,.word G0,.name y,.word GW,.name y,.word Hd,.name x,.word GM,.fin]=
 some ([],.one GB x 1 (.one GC y 1 (bin GR (vr y) (vr x)))):=by kernel_rfl
end
end Go.Proofs.YtojegnbejmeehaaGreatDoor
