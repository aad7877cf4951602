/- Helpers of the proof of TopNames. -/
import Derived.Test.YtojegnbejmeehaaGreatDoorJBV
namespace Go.Proofs.YtojegnbejmeehaaGreatDoor
open Go.RowKit
set_option maxRecDepth 10000
set_option maxHeartbeats 16000000
set_option linter.all false
section
variable {x y:ByteArray}
theorem lU (h:x≠y):du [x,y] x=0:=by
 have e:bwL nm0 [x,y] [x,y].length=[(1,y),(0,x)]:=rfl;unfold du;rw[e];simp[List.find?,h.symm]
theorem lT:du [x,y] y=1:=by
 have e:bwL nm0 [x,y] [x,y].length=[(1,y),(0,x)]:=rfl;unfold du;rw[e];simp[List.find?]
theorem pg (h:x≠y):bu [x,y] (bin GL (bin GN (vr x) (vr y)) (bin GK (vr x) (nm 3)))=mT:=by
 have e:bu [x,y] (bin GL (bin GN (vr x) (vr y)) (bin GK (vr x) (nm 3)))=.imp (.sub (du [x,y] x) (du [x,y] y)) (.bound 2 (.leaf GH 2 0 0 3) (.less (du [x,y] x) 2)):=by kernel_rfl
 rw[e,lU h,lT];rfl
theorem pf (h:x≠y):bu [x,y] (bin GO (bin GE (vr x) (vr y)) (bin GE (vr y) (vr x)))=mS:=by
 have e:bu [x,y] (bin GO (bin GE (vr x) (vr y)) (bin GE (vr y) (vr x)))=.not (.and (.not (.sub (du [x,y] x) (du [x,y] y))) (.not (.sub (du [x,y] y) (du [x,y] x)))):=by kernel_rfl
 rw[e,lU h,lT];rfl
theorem pd (h:x≠y):bu [x,y] (bin GF (.leaf GI x 0) (bin GQ (vr y) (nm 2)))=mR:=by
 have e:bu [x,y] (bin GF (.leaf GI x 0) (bin GQ (vr y) (nm 2)))=.and (.imp (.leaf GV (du [x,y] x) 0 0 0) (.bound 2 (.leaf GH 2 0 0 2) (.and (.sub (du [x,y] y) 2) (.sub 2 (du [x,y] y))))) (.imp (.bound 2 (.leaf GH 2 0 0 2) (.and (.sub (du [x,y] y) 2) (.sub 2 (du [x,y] y)))) (.leaf GV (du [x,y] x) 0 0 0)):=by kernel_rfl
 rw[e,lU h,lT];rfl
theorem o8 (h:x≠y):bu [y] (.one GB x 1 (bin GK (vr x) (vr y)))=mQ:=by
 have e:bu [y] (.one GB x 1 (bin GK (vr x) (vr y)))=.bound 1 (.leaf GP 1 0 0 0) (.less (du [y,x] x) (du [y,x] y)):=by kernel_rfl
 rw[e,lU h.symm,lT];rfl
theorem oZ:bu [] (.one GC GS 1 (.one GB GT 1 (bin GK (vr GS) (vr GT))))=mP:=by kernel_rfl
theorem oY:bu [] (.one GB GS 1 (.one GC GT 1 (bin GR (vr GT) (vr GS))))=mO:=by kernel_rfl
theorem xp:aX [1,2]=lj:=by kernel_rfl
theorem xo:aX [2,2]=lh:=by kernel_rfl
theorem xn:aX [0,1]=lf:=by kernel_rfl
theorem xk:aX [1]=kZ:=by kernel_rfl
theorem mM:aX []=kY:=by kernel_rfl
theorem eH {A:Au} {k:Nat} (c:AuOk A) (h0:0<A.acc.length) (h:far A 0=(k:Int)):Dst A k 0:=(sm c h0).1 h
theorem sB:Dst jP 1 0:=eH (by decide+kernel) (by decide) (by decide+kernel)
theorem uZ:Dst lC 4 0:=eH (by decide+kernel) (by decide) (by decide+kernel)
theorem sA:Dst jO 0 0:=eH (by decide+kernel) (by decide) (by decide+kernel)
theorem uY:Dst lB 2 0:=eH (by decide+kernel) (by decide) (by decide+kernel)
theorem sw:Dst jN 1 0:=eH (by decide+kernel) (by decide) (by decide+kernel)
theorem uX:Dst lA 1 0:=eH (by decide+kernel) (by decide) (by decide+kernel)
theorem sq:Dst jM 2 0:=eH (by decide+kernel) (by decide) (by decide+kernel)
theorem uW:Dst lz 1 0:=eH (by decide+kernel) (by decide) (by decide+kernel)
theorem so:Dst jL 0 0:=eH (by decide+kernel) (by decide) (by decide+kernel)
theorem uV:Dst lu 0 0:=eH (by decide+kernel) (by decide) (by decide+kernel)
theorem EL {A:Au} (h:A.acc.all (fun b=>!b)=true) (s:Nat):ac A s=false:=by
 unfold ac;rw[List.all_eq_true]at h
 cases c:A.acc[s]? with
 |none=>simp[List.getD,c]
 |some b=>
  have :=h b (List.mem_of_getElem? c);simp[List.getD,c]
  simpa using this
theorem B7 {A:Au} (h:A.acc.all (fun b=>!b)=true):¬∃k,Dst A k 0:=by
 rintro⟨k,d,_⟩;have :∀k s,¬Can A k s:=by
  intro k
  induction k with
  |zero=>intro s hs;unfold Can at hs;rw[EL h]at hs;cases hs
  |succ k ih=>intro s hs;obtain⟨c,_,e⟩:=hs;exact ih _ e
 exact this _ _ d
theorem wI:¬∃k,Dst lw k 0:=B7 (by decide)
theorem wH:¬∃k,Dst jK k 0:=B7 (by decide)
theorem sD {D:List Dl} {x y:ByteArray} {m n:Nat} (h:DlsOf D [(x,m),(y,n)]):∃p q,D=[⟨x,m,p⟩,⟨y,n,q⟩]:=by
 unfold DlsOf at h
 match D,h with
 | [a,b],h=>
  obtain⟨j,i,g⟩:=a;obtain⟨f,e,d⟩:=b;simp at h;obtain⟨⟨rfl,rfl⟩,rfl,rfl⟩:=h;exact⟨_,_,rfl⟩
 | [],h=>simp at h
 | [a],h=>simp at h
 |a::b::c::l,h=>simp at h
theorem Fi {D:List Dl} {x:ByteArray} {m:Nat} (h:DlsOf D [(x,m)]):∃p,D=[⟨x,m,p⟩]:=by
 unfold DlsOf at h
 match D,h with
 | [a],h=>
  obtain⟨e,d,c⟩:=a;simp at h;obtain⟨rfl,rfl⟩:=h;exact⟨_,rfl⟩
 | [],h=>simp at h
 |a::b::l,h=>simp at h
theorem vf {D:List Dl} (h:DlsOf D []):D=[]:=by
 unfold DlsOf at h
 simpa using h
theorem ii (h:x≠y) {m n p q:Int}:eo [⟨x,m,p⟩,⟨y,n,q⟩] x=m:=by
 unfold eo;simp[List.find?,h.symm]
theorem jm {m n p q:Int}:eo [⟨x,m,p⟩,⟨y,n,q⟩] y=n:=by
 unfold eo;simp
theorem oP (h:x≠y) {m n p q:Int}:BT [⟨x,m,p⟩,⟨y,n,q⟩]:=by
 intro i c;have c:i<2:=c
 match i,c with
 |0,_=>show(-1:Int)<0;decide
 |1,_=>unfold eo;simp[List.find?,h]
variable {a b:List Nat}
theorem AI (c:NameR a) (e:NameR b) (h:enc a≠enc b) {D:List Dl} (g:DlsOf D [(enc a,1),(enc b,2)]):GoodP D (bin GL (bin GN (vr (enc a)) (vr (enc b))) (bin GK (vr (enc a)) (nm 3))):=by
 obtain⟨p,q,rfl⟩:=sD g;refine⟨?_,by simp,oP h,.bin _ _ _ (.inl rfl) (.rel _ _ _ (.inl rfl) (.vr a c) (.vr b e)) (.rel _ _ _ (.inr (.inl rfl)) (.vr a c) (.nm 3 (by decide) (by decide))),by simp[bin,vr,nm,Fm.size],by simp[bin,vr,nm,Fm.deep],?_⟩
 ·intro d f;simp at f;rcases f with rfl|rfl
  ·exact⟨a,rfl,c,by dsimp only;omega,by dsimp only;omega⟩
  ·exact⟨b,rfl,e,by dsimp only;omega,by dsimp only;omega⟩
 ·refine .bin _ _ _ _ (.inl rfl) (.rel _ _ _ _ (.vr a c) (.vr b e) (.inr (.inl ⟨rfl,?_,?_⟩))) (.rel _ _ _ _ (.vr a c) (.nm 3 (by decide) (by decide)) (.inl ⟨.inl rfl,?_,rfl⟩))
  ·exact ii h
  ·exact jm
  ·exact ii h
theorem AH (e:NameR a) (c:NameR b) (h:enc a≠enc b) {D:List Dl} (g:DlsOf D [(enc a,2),(enc b,2)]):GoodP D (bin GO (bin GE (vr (enc a)) (vr (enc b))) (bin GE (vr (enc b)) (vr (enc a)))):=by
 obtain⟨p,q,rfl⟩:=sD g;refine⟨?_,by simp,oP h,.bin _ _ _ (.inr (.inl rfl)) (.rel _ _ _ (.inr (.inr (.inl rfl))) (.vr a e) (.vr b c)) (.rel _ _ _ (.inr (.inr (.inl rfl))) (.vr b c) (.vr a e)),by simp[bin,vr,Fm.size],by simp[bin,vr,Fm.deep],?_⟩
 ·intro d f;simp at f;rcases f with rfl|rfl
  ·exact⟨a,rfl,e,by dsimp only;omega,by dsimp only;omega⟩
  ·exact⟨b,rfl,c,by dsimp only;omega,by dsimp only;omega⟩
 ·refine .bin _ _ _ _ (.inr (.inl rfl)) (.rel _ _ _ _ (.vr a e) (.vr b c) (.inr (.inr (.inl ⟨rfl,?_,?_⟩)))) (.rel _ _ _ _ (.vr b c) (.vr a e) (.inr (.inr (.inl ⟨rfl,?_,?_⟩))))
  ·exact ii h
  ·exact jm
  ·exact jm
  ·exact ii h
theorem AG (e:NameR a) (c:NameR b) (h:enc a≠enc b) {D:List Dl} (g:DlsOf D [(enc a,0),(enc b,1)]):GoodP D (bin GF (.leaf GI (enc a) 0) (bin GQ (vr (enc b)) (nm 2))):=by
 obtain⟨p,q,rfl⟩:=sD g;refine⟨?_,by simp,oP h,.bin _ _ _ (.inr (.inr rfl)) (.isv a e) (.rel _ _ _ (.inr (.inr (.inr (.inl rfl)))) (.vr b c) (.nm 2 (by decide) (by decide))),by simp[bin,vr,nm,Fm.size],by simp[bin,vr,nm,Fm.deep],?_⟩
 ·intro d f;simp at f;rcases f with rfl|rfl
  ·exact⟨a,rfl,e,by dsimp only;omega,by dsimp only;omega⟩
  ·exact⟨b,rfl,c,by dsimp only;omega,by dsimp only;omega⟩
 ·refine .bin _ _ _ _ (.inr (.inr rfl)) (.isv _ a e (ii h)) (.rel _ _ _ _ (.vr b c) (.nm 2 (by decide) (by decide)) (.inr (.inr (.inr ⟨rfl,?_,rfl⟩))))
  ·exact jm
theorem AF (c:NameR a) (e:NameR b) (h:enc a≠enc b) {D:List Dl} (j:DlsOf D [(enc b,1)]):GoodP D (.one GB (enc a) 1 (bin GK (vr (enc a)) (vr (enc b)))):=by
 obtain⟨p,rfl⟩:=Fi j;refine⟨?_,by simp,?_,.qu _ a _ (.inl rfl) c (.rel _ _ _ (.inr (.inl rfl)) (.vr a c) (.vr b e)),by simp[bin,vr,Fm.size],by simp[bin,vr,Fm.deep],?_⟩
 ·intro d g;simp at g;subst g;exact⟨b,rfl,e,by dsimp only;omega,by dsimp only;omega⟩
 ·intro i f;have f:i<1:=f;obtain rfl:i=0:=by omega
  show(-1:Int)<0
  decide
 ·refine .qu _ _ a _ (.inl rfl) c (.rel _ _ _ _ (.vr a c) (.vr b e) (.inl ⟨.inl rfl,?_,?_⟩))
  ·exact jm
  ·exact ii h.symm
theorem jc:NameR [120]:=⟨⟨120,[],rfl,by decide,by simp,by simp⟩,by decide⟩
theorem jb:NameR [121]:=⟨⟨121,[],rfl,by decide,by simp,by simp⟩,by decide⟩
theorem AE {D:List Dl} (d:DlsOf D []):GoodP D (.one GC GS 1 (.one GB GT 1 (bin GK (vr GS) (vr GT)))):=by
 obtain rfl:=vf d;refine⟨by simp,by simp,fun i c=>absurd c (Nat.not_lt_zero _),.qu _ [120] _ (.inr rfl) jc (.qu _ [121] _ (.inl rfl) jb (.rel _ _ _ (.inr (.inl rfl)) (.vr [120] jc) (.vr [121] jb))),by decide,by decide,?_⟩;exact .qu _ _ [120] _ (.inr rfl) jc (.qu _ _ [121] _ (.inl rfl) jb (.rel _ _ _ _ (.vr [120] jc) (.vr [121] jb) (.inl ⟨.inl rfl,by kernel_rfl,by kernel_rfl⟩)))
theorem AD {D:List Dl} (d:DlsOf D []):GoodP D (.one GB GS 1 (.one GC GT 1 (bin GR (vr GT) (vr GS)))):=by
 obtain rfl:=vf d;refine⟨by simp,by simp,fun i c=>absurd c (Nat.not_lt_zero _),.qu _ [120] _ (.inl rfl) jc (.qu _ [121] _ (.inr rfl) jb (.rel _ _ _ (.inr (.inr (.inr (.inr rfl)))) (.vr [121] jb) (.vr [120] jc))),by decide,by decide,?_⟩;exact .qu _ _ [120] _ (.inl rfl) jc (.qu _ _ [121] _ (.inr rfl) jb (.rel _ _ _ _ (.vr [121] jb) (.vr [120] jc) (.inl ⟨.inr rfl,by kernel_rfl,by kernel_rfl⟩)))
theorem NameR.len {l:List Nat} (h:NameR l):l.length≤12:=by
 obtain⟨c,r,rfl,_,_,d⟩:=h.ne;simp;omega
theorem dj (l:List Nat):(enc l).size≤2*l.length:=by
 rw[dJ]
 induction l with
 |nil=>simp[bA]
 |cons c l ih=>
  rw[dm,List.length_append,io,List.length_cons];have :=nT c;omega
theorem jB (e:a.length≤12) (d:b.length≤12) (l:List Nat):(c6 a b l).length≤12*l.length:=by
 unfold c6
 induction l with
 |nil=>simp
 |cons c l ih=>
  rw[List.flatMap_cons,List.length_append,List.length_cons];have :(if c=37 then a else if c=38 then b else[c]).length≤12:=by
   split
   ·exact e
   ·split
    ·exact d
    ·simp
  omega
theorem nZ (h:∀r∈a,Gk r) (g:∀r∈b,Gk r) {l:List Nat} (e:∀r∈l,r<128):∀r∈c6 a b l,Gk r:=by
 intro r d;unfold c6 at d;obtain⟨c,f,d⟩:=List.mem_flatMap.1 d
 split at d
 ·exact h r d
 ·split at d
  ·exact g r d
  ·have :=e c f;simp at d;subst d;exact .inl this
theorem rz (f:NameR a) (d:NameR b) (h:enc a≠enc b):Deci (c6 a b tpl0) [(enc a,1),(enc b,2)] (bin GL (bin GN (vr (enc a)) (vr (enc b))) (bin GK (vr (enc a)) (nm 3))) jP lC where
 gk:=nZ f.gk d.gk (by decide)
 size:=Nat.le_trans (dj _) (by have :=jB f.len d.len tpl0;have e:tpl0.length≤32:=by decide
                               omega)
 toks:=⟨60,9,_,Cs f d,wA (enc a) (enc b)⟩
 good:=fun D g=>AI f d h g
 six:=by simp[bin,vr,nm,Fm.deep]
 quant:=fun e=>by simp at e
 ords:=by simp
 csize:=by
  show(aX [1,2]).size+(bu [enc a,enc b] _).size≤1000
  rw[xp,pg h];decide
 yes:=by
  show∃c,CoAu (.and (aX [1,2]) (bu [enc a,enc b] _)) 2 c _∧c≤200
  rw[xp,pg h];exact qp
 no:=by
  show∃c,CoAu (.and (aX [1,2]) (Co.not (bu [enc a,enc b] _))) 2 c _∧c≤200
  rw[xp,pg h];exact sP
 ty:=rfl
 tn:=rfl
theorem ry (f:NameR a) (d:NameR b) (h:enc a≠enc b):Deci (c6 a b tpl1) [(enc a,2),(enc b,2)] (bin GO (bin GE (vr (enc a)) (vr (enc b))) (bin GE (vr (enc b)) (vr (enc a)))) jO lB where
 gk:=nZ f.gk d.gk (by decide)
 size:=Nat.le_trans (dj _) (by have :=jB f.len d.len tpl1;have e:tpl1.length≤32:=by decide
                               omega)
 toks:=⟨60,9,_,Cr f d,wy (enc a) (enc b)⟩
 good:=fun D g=>AH f d h g
 six:=by simp[bin,vr,Fm.deep]
 quant:=fun e=>by simp at e
 ords:=by simp
 csize:=by
  show(aX [2,2]).size+(bu [enc a,enc b] _).size≤1000
  rw[xo,pf h];decide
 yes:=by
  show∃c,CoAu (.and (aX [2,2]) (bu [enc a,enc b] _)) 2 c _∧c≤200
  rw[xo,pf h];exact qo
 no:=by
  show∃c,CoAu (.and (aX [2,2]) (Co.not (bu [enc a,enc b] _))) 2 c _∧c≤200
  rw[xo,pf h];exact sO
 ty:=rfl
 tn:=rfl
theorem rx (f:NameR a) (d:NameR b) (h:enc a≠enc b):Deci (c6 a b tpl2) [(enc a,0),(enc b,1)] (bin GF (.leaf GI (enc a) 0) (bin GQ (vr (enc b)) (nm 2))) jN lA where
 gk:=nZ f.gk d.gk (by decide)
 size:=Nat.le_trans (dj _) (by have :=jB f.len d.len tpl2;have e:tpl2.length≤32:=by decide
                               omega)
 toks:=⟨60,9,_,Cq f d,wv (enc a) (enc b)⟩
 good:=fun D g=>AG f d h g
 six:=by simp[bin,vr,nm,Fm.deep]
 quant:=fun e=>by simp at e
 ords:=by simp
 csize:=by
  show(aX [0,1]).size+(bu [enc a,enc b] _).size≤1000
  rw[xn,pd h];decide
 yes:=by
  show∃c,CoAu (.and (aX [0,1]) (bu [enc a,enc b] _)) 2 c _∧c≤200
  rw[xn,pd h];exact ql
 no:=by
  show∃c,CoAu (.and (aX [0,1]) (Co.not (bu [enc a,enc b] _))) 2 c _∧c≤200
  rw[xn,pd h];exact sN
 ty:=rfl
 tn:=rfl
theorem rt (f:NameR a) (d:NameR b) (h:enc a≠enc b):Deci (c6 a b tpl3) [(enc b,1)] (.one GB (enc a) 1 (bin GK (vr (enc a)) (vr (enc b)))) jM lz where
 gk:=nZ f.gk d.gk (by decide)
 size:=Nat.le_trans (dj _) (by have :=jB f.len d.len tpl3;have e:tpl3.length≤32:=by decide
                               omega)
 toks:=⟨60,9,_,Cp f d,wu (enc a) (enc b)⟩
 good:=fun D g=>AF f d h g
 six:=by simp[bin,vr,Fm.deep]
 quant:=fun e=>by simp at e
 ords:=by simp
 csize:=by
  show(aX [1]).size+(bu [enc b] _).size≤1000
  rw[xk,o8 h];decide
 yes:=by
  show∃c,CoAu (.and (aX [1]) (bu [enc b] _)) 1 c _∧c≤200
  rw[xk,o8 h];exact qj
 no:=by
  show∃c,CoAu (.and (aX [1]) (Co.not (bu [enc b] _))) 1 c _∧c≤200
  rw[xk,o8 h];exact sM
 ty:=rfl
 tn:=rfl
theorem AU:Deci Eb [] (.one GC GS 1 (.one GB GT 1 (bin GK (vr GS) (vr GT)))) jL lw where
 gk:=fun r d=>.inl ((by decide:∀r∈Eb,r<128) r d)
 size:=Nat.le_trans (dj _) (by decide)
 toks:=⟨60,9,_,Cn,ws GS GT⟩
 good:=fun D e=>AE e
 six:=by decide
 quant:=fun _=>trivial
 ords:=by simp
 csize:=by
  show(aX []).size+(bu [] _).size≤1000
  rw[mM,oZ];decide
 yes:=by
  show∃c,CoAu (.and (aX []) (bu [] _)) 0 c _∧c≤200
  rw[mM,oZ];exact qi
 no:=by
  show∃c,CoAu (.and (aX []) (Co.not (bu [] _))) 0 c _∧c≤200
  rw[mM,oZ];exact sL
 ty:=rfl
 tn:=rfl
theorem AT:Deci Ea [] (.one GB GS 1 (.one GC GT 1 (bin GR (vr GT) (vr GS)))) jK lu where
 gk:=fun r d=>.inl ((by decide:∀r∈Ea,r<128) r d)
 size:=Nat.le_trans (dj _) (by decide)
 toks:=⟨60,9,_,Cm,wq GS GT⟩
 good:=fun D e=>AD e
 six:=by decide
 quant:=fun _=>trivial
 ords:=by simp
 csize:=by
  show(aX []).size+(bu [] _).size≤1000
  rw[mM,oY];decide
 yes:=by
  show∃c,CoAu (.and (aX []) (bu [] _)) 0 c _∧c≤200
  rw[mM,oY];exact qh
 no:=by
  show∃c,CoAu (.and (aX []) (Co.not (bu [] _))) 0 c _∧c≤200
  rw[mM,oY];exact sK
 ty:=rfl
 tn:=rfl
end
section
attribute [local irreducible] wpQuiet ax au aQ
variable {R:Ending→World→Prop} {w:World}
theorem E7 {c:Nat} (h:c<128):enc [c]=⟨#[c.toUInt8]⟩:=by
 unfold enc bA kj;simp[h]
theorem A0 {l:List Nat} (a:∀r∈l,r<128) {k:Nat} (c:k<l.length):pos l k=k∧byt (enc l) k=l[k]:=by
 have h1:∀m,m≤l.length→pos l m=m:=by
  intro m
  induction m with
  |zero=>intro _;exact BH l
  |succ m ih=>
   intro d;rw[oJ (show m<l.length by omega),ih (by omega)];have :l[m]<128:=a _ (List.getElem_mem _);unfold wid;rw[if_pos this]
 have h2:=yO (rs:=l) (fun r b=>.inl (a r b)) c;rw[h1 k (by omega)]at h2;have hx:l[k]<128:=a _ (List.getElem_mem _);refine⟨h1 k (by omega),?_⟩;rcases h2 with⟨_,_,h⟩|⟨h,_⟩
 ·exact h
 ·omega
theorem pD {l:List Nat} (a:∀r∈l,r<128):(enc l).size=l.length:=by
 rw[dJ]
 induction l with
 |nil=>rfl
 |cons c l ih=>
  rw[dm,List.length_append,io,ih (fun r b=>a r (List.mem_cons_of_mem _ b))];have :c<128:=a c (List.mem_cons_self);unfold wid;rw[if_pos this,List.length_cons];omega
theorem AK {a b l:List Nat} {k:Nat} (c:k<l.length):c6 a b (l.take (k+1))=c6 a b (l.take k)++(if l[k]=37 then a else if l[k]=38 then b else[l[k]]):=by
 rw[List.take_succ_eq_append_getElem c];unfold c6;rw[List.flatMap_append];simp
theorem BS (w:World) {c:Nat} (h:c<256):(convert 76 9 (.slice (IQ w.heap.size 0) 1 1)).run Tryz.prog (w.alloc (.cells #[.int .u8 (c:Int)] 5))=.ok (.string ⟨#[c.toUInt8]⟩) (w.alloc (.cells #[.int .u8 (c:Int)] 5)):=
 run_convert_bytes_back (P:=Tryz.prog) _ 76 9 5 ⟨w.heap.size,0,none⟩ 1 [c.toUInt8] Tryz.underlying76 Tryz.underlying5 Tryz.underlying9 (fun j a=>by
  have a:j<1:=a;obtain rfl:j=0:=by omega
  show(w.alloc (.cells #[.int .u8 (c:Int)] 5)).cell? ⟨w.heap.size,0+0,none⟩=_
  rw[ai (ag w (.cells #[.int .u8 (c:Int)] 5))];simp;omega)
theorem tB {l a b:List Nat} (n:∀r∈l,r<128) (A:l.length≤40) (F:a.length≤12) (E:b.length≤12) (s:∀e p,e=.returned (.string (enc (c6 a b l)))→Same w p→R e p):
 Calls Tryz.prog 6 #[.string (enc l),.string (enc a),.string (enc b)] w R:=by
 have G:=ae s;clear s;have v:=ae n;have x:=pD n;have z:=dj a;have y:=dj b;clear n;go_enter Tryz.func6,Tryz.ntmps6;go_wp2_with fail
 go_loopw [7,8] (fun t i wr=>∃k:Nat,i=.int .i64 k∧k≤l.length∧t=.string (enc (c6 a b (l.take k)))∧Hid (Same w wr)) (fun _ i _=>l.length -(intOf i).toNat)
 case atStart=>exact⟨0,rfl,Nat.zero_le _,rfl,ae (af _ _)⟩
 case round=>
  obtain⟨k,rfl,B,rfl,j⟩:=hrel;by_cases h:k<l.length
  ·have hx:=A0 v.o h;have q:l[k]<128:=v.o _ (List.getElem_mem _);have u:=AK (a:=a) (b:=b) h;have g:=jB F E (l.take k);have m:=dj (c6 a b (l.take k));rw[List.length_take,Nat.min_eq_left B]at g;have d:=ae (congrArg enc u);have f:k<(enc l).size:=by omega
   have C:((enc l)[k]'f).toNat=l[k]:=by
    rw[←hx.2];unfold byt;rw[show(enc l).get! k=(enc l)[k]'f from getElem!_pos (enc l).data k f]
   clear hx u;generalize l[k]=c at C q d;generalize c6 a b (l.take k)=t at d g m⊢;by_cases h1:c=37
   ·subst h1;rw[if_pos rfl,iQ]at d;go_wp2_with fail;go_roundw
    case rel=>exact⟨k+1,by go_num,by omega,by rw[d.o],j⟩
    case measure=>simp[intOf];omega
   ·by_cases h2:c=38
    ·subst h2;rw[if_neg (by decide),if_pos rfl,iQ]at d;go_wp2_with fail;go_roundw
     case rel=>exact⟨k+1,by go_num,by omega,by rw[d.o],j⟩
     case measure=>simp[intOf];omega
    ·rw[if_neg h1,if_neg h2,iQ,E7 q]at d;have I:((c:Nat):Int)≠37:=by omega
     have H:((c:Nat):Int)≠38:=by omega
     have D:=BS wr (show c<256 by omega);go_wp2_with fail;go_roundw
     case rel=>exact⟨k+1,by go_num,by omega,by rw[d.o],ae (j.o.alloc _)⟩
     case measure=>simp[intOf];omega
  ·have o:k=l.length:=by omega
   subst o;rw[List.take_length];go_wp2_with fail;exact G.o _ _ rfl j.o
def SetsAt (w:World) (v:Value) (ss:List (List Int)):Prop:=
 ∃a c,v=.slice a ss.length c∧ss.length≤c∧c≤maxLen∧∀k (hk:k<ss.length),∃b off s,a=some ⟨b,off,none⟩∧w.cell? ⟨b,off+k*3+2,none⟩=some s∧IntsAt w s ss[k]
theorem nV {v:Value} {D:List Dl} {W:List Nat} (h:ValsAt w v (dw D W)) {n:Nat} (i:D.length=n):SetsAt w v (aZ W n W.length 0):=by
 subst i;have hs:(dw D W).map (·.set)=aZ W D.length W.length 0:=by
  unfold dw;rw[List.map_map];have :=List.map_snd_zip (l₁:=D) (l₂:=aZ W D.length W.length 0) (by rw[dX];exact Nat.le_refl _)
  conv=>rhs;rw[←this]
  rfl
 rw[←hs];generalize dw D W=L at h;obtain⟨vs,h1,h2,l⟩:=h;obtain⟨a,c,rfl,q,g,f⟩:=h1.open;refine⟨a,c,by rw[List.length_map,h2],by rw[List.length_map];omega,g,fun k e=>?_⟩;rw[List.length_map]at e;have d:k<vs.length:=by omega
 obtain⟨b,off,p,_,o⟩:=f k d;obtain⟨_,_,m⟩:=o k d;have j:=l k vs[k] L[k] (List.getElem?_eq_getElem d) (List.getElem?_eq_getElem e);refine⟨b,off,_,p,m,?_⟩;rw[List.getElem_map];exact j.2.2.1
def Way (a b l:List Nat):Prop:=(∀r∈l,r<128)∧l.length≤40∧∃ds1 ds2 t1 t2 Ay An Ky Kn,Deci (c6 [120] [121] l) ds1 t1 Ay An∧Deci (c6 a b l) ds2 t2 Ay An∧Dst Ay Ky 0∧Dst An Kn 0∧ds1.length=ds2.length
def tpls:List (List Nat):=[tpl0,tpl1,tpl2,tpl3]
theorem x9:enc [120]≠enc [121]:=by decide
theorem Gt {a b:List Nat} (d:NameR a) (c:NameR b) (h:enc a≠enc b):∀l∈tpls,Way a b l:=by
 intro l e;simp only[tpls,List.mem_cons,List.not_mem_nil,or_false]at e;rcases e with rfl|rfl|rfl|rfl
 ·exact⟨by decide,by decide,_,_,_,_,_,_,_,_,rz jc jb x9,rz d c h,sB,uZ,rfl⟩
 ·exact⟨by decide,by decide,_,_,_,_,_,_,_,_,ry jc jb x9,ry d c h,sA,uY,rfl⟩
 ·exact⟨by decide,by decide,_,_,_,_,_,_,_,_,rx jc jb x9,rx d c h,sw,uX,rfl⟩
 ·exact⟨by decide,by decide,_,_,_,_,_,_,_,_,rt jc jb x9,rt d c h,sq,uW,rfl⟩
theorem Cb {a:ByteArray} (h:cM a):∃l,a=enc l∧NameR l∧l.length≤12:=by
 obtain⟨c,r,rfl,h1,h2,d,b⟩:=h;exact⟨c::r,rfl,⟨⟨c,r,rfl,h1,h2,d⟩,b⟩,by simp;omega⟩
theorem Bd:(⟨#[97,108,108,49,32,120,58,32,101,120,49,32,121,58,32,120,32,60,32,121,59]⟩:ByteArray)=enc Eb:=by kernel_rfl
theorem Bc:(⟨#[101,120,49,32,120,58,32,97,108,108,49,32,121,58,32,121,32,60,61,32,120,59]⟩:ByteArray)=enc Ea:=by kernel_rfl
theorem Bj (g:∀e c,e=.returned (.bool true)→Same w c→R e c):Calls Tryz.prog 8 #[] w R:=by
 have h:=ae g;clear g;go_enter Tryz.func8,Tryz.ntmps8;go_wp2_with fail;rw[Bd];refine vh AU (by omega) (by omega) so wI ?_;rintro e j D k rfl _ hv f;obtain⟨p,o,rfl,_,_,_⟩:=nV hv rfl;have b:=ae f;clear f hv;go_wp2_with fail;rw[Bc];refine vj AT (by omega) (by omega) wH uV ?_;rintro e i q l rfl _ hv d;obtain⟨n,m,rfl,_,_,_⟩:=nV hv rfl;have a:=ae (b.o.tr d);clear d hv;go_wp2_with fail;exact h.o _ _ rfl a.o
end
section
variable {R:Ending→World→Prop} {w:World}
structure St (w3:World) (bs:List Nat) (L:List (Value×List (List Int))) (W:World):Prop where
 box:∀b∈bs,W.heap[b]?=some (.cells #[IU,IU,IU,IM,IM] 37)∧w3.heap.size≤b
 sets:∀p∈L,∀Wf,Keeps (fun b=>b∉bs) W Wf→SetsAt Wf p.1 p.2
 same:Same w3 W
 nd:bs.Nodup
theorem St.start {a W:World} (k:Same a W):St a [] [] W:=⟨fun b h=>(by cases h),fun p h=>(by cases h),k,List.nodup_nil⟩
theorem St.step {c W d:World} {bs:List Nat} {L:List (Value×List (List Int))} (h:St c bs L W) (k:Same W d):St c bs L d:=
 ⟨fun b a=>⟨k.at (h.box b a).1 trivial,(h.box b a).2⟩,fun p f g e=>h.sets p f g (k.trans e fun b _ a=>⟨trivial,a⟩),h.same.tr k,h.nd⟩
theorem St.more {e W:World} {bs:List Nat} {L:List (Value×List (List Int))} (h:St e bs L W):St e (W.heap.size::bs) L (W.alloc Hm):=by
 have k:=sal W Hm;refine⟨fun b c=>?_,fun p g i f=>h.sets p g i (k.trans f fun b c d=>⟨trivial,fun a=>?_⟩),h.same.tr k,List.nodup_cons.2 ⟨fun a=>by have :=am (h.box _ a).1;omega,h.nd⟩⟩
 ·rcases List.mem_cons.1 c with rfl|c
  ·exact⟨ag W _,h.same.size⟩
  ·exact⟨k.at (h.box b c).1 trivial,(h.box b c).2⟩
 ·rcases List.mem_cons.1 a with rfl|a
  ·omega
  ·exact d a
theorem St.told {i W g:World} {bs:List Nat} {L:List (Value×List (List Int))} (h:St i bs L W) (k:Same W g) {j u2:Value} {m l:List (List Int)}
 (n:∀(S:Nat→Prop) w'',(∀b,W.heap.size≤b→S b)→Keeps S g w''→SetsAt w'' j m∧SetsAt w'' u2 l):St i bs ((j,m)::(u2,l)::L) g:=by
 have e:=h.step k;have d:∀b,W.heap.size≤b→b∉bs:=fun b d o=>by
  have :=am (h.box b o).1;omega
 refine⟨e.box,fun p a f c=>?_,e.same,h.nd⟩;rcases List.mem_cons.1 a with rfl|a
 ·exact(n _ f d c).1
 ·rcases List.mem_cons.1 a with rfl|a
  ·exact(n _ f d c).2
  ·exact e.sets p a f c
def Cmp (w3:World) (S1 S2:List (List Int)) (b1 b2:Nat) (u1 u2 u3 u4:Value) (W:World):Prop:=
 W.heap[b1]?=some (.cells #[IP 2,IU,IU,u1,u2] 37)∧
 W.heap[b2]?=some (.cells #[IP 2,IU,IU,u3,u4] 37)∧
 SetsAt W u1 S1∧SetsAt W u2 S2∧SetsAt W u3 S1∧SetsAt W u4 S2∧Same w3 W
theorem St.one {i W:World} {bs:List Nat} {L:List (Value×List (List Int))} (h:St i bs L W) {a:Nat} (b:a∈bs) (g f e d c:Value):
 Same i (((((W.setCell ⟨a,0,none⟩ g).setCell ⟨a,1,none⟩ f).setCell ⟨a,2,none⟩ e).setCell ⟨a,3,none⟩ d).setCell ⟨a,4,none⟩ c):=
 h.same.box5 (h.box a b).2 g f e d c
theorem St.fin {q W:World} {bs:List Nat} {m l:List (List Int)} {d u2 g f:Value} (h:St q bs [(g,m),(f,l),(d,m),(u2,l)] W) {a c:Nat} (j:a∈bs) (i:c∈bs) (k:a≠c):
 Cmp q m l a c d u2 g f ((((((((((W.setCell ⟨a,0,none⟩ (IP 2)).setCell ⟨a,1,none⟩ IU).setCell ⟨a,2,none⟩ IU).setCell ⟨a,3,none⟩ d).setCell ⟨a,4,none⟩ u2).setCell ⟨c,0,none⟩ (IP 2)).setCell ⟨c,1,none⟩ IU).setCell ⟨c,2,none⟩ IU).setCell ⟨c,3,none⟩ g).setCell ⟨c,4,none⟩ f):=by
 have o:=bq W a (IP 2) IU IU d u2;have h1:=bT (h.box a j).1 (IP 2) IU IU d u2;have h2:=o.at (h.box c i).1 (fun e=>k e.symm);have s:=h.one j (IP 2) IU IU d u2;generalize((((W.setCell ⟨a,0,none⟩ (IP 2)).setCell ⟨a,1,none⟩ IU).setCell ⟨a,2,none⟩ IU).setCell ⟨a,3,none⟩ d).setCell ⟨a,4,none⟩ u2=V at o h1 h2 s⊢;have r:=bq V c (IP 2) IU IU g f;have v:=bT h2 (IP 2) IU IU g f;have u:=r.at h1 k;have t:=s.box5 (h.box c i).2 (IP 2) IU IU g f;have n:Keeps (fun b=>b∉bs) W _:=(o.mono fun b _ p e=>p (e▸j)).tr (r.mono fun b _ p e=>p (e▸i));exact⟨u,v,h.sets (d,m) (by simp) _ n,h.sets (u2,l) (by simp) _ n,h.sets (g,m) (by simp) _ n,h.sets (f,l) (by simp) _ n,t⟩
theorem qz {W g:World} {D:List Dl} {p:List (ByteArray×Nat)} {e f:Value} {c d:List Nat} {N:Nat} (h:DlsOf D p) (q:p.length=N)
 (hv:∀(S:Nat→Prop) a,(∀b,W.heap.size≤b→S b)→Keeps S g a→ValsAt a e (dw D c)∧ValsAt a f (dw D d)):
 ∃l j k i,e=.slice l N j∧f=.slice k N i∧∀(S:Nat→Prop) a,(∀b,W.heap.size≤b→S b)→Keeps S g a→SetsAt a e (aZ c N c.length 0)∧SetsAt a f (aZ d N d.length 0):=by
 have m:D.length=N:=q▸h.split.2.2;have hs:∀(S:Nat→Prop) a,(∀b,W.heap.size≤b→S b)→Keeps S g a→SetsAt a e (aZ c N c.length 0)∧SetsAt a f (aZ d N d.length 0):=
  fun S a h1 h2=>⟨nV (hv S a h1 h2).1 m,nV (hv S a h1 h2).2 m⟩
 obtain⟨⟨l,j,o,_⟩,⟨k,i,n,_⟩⟩:=hs (fun _=>True) g (fun _ _=>trivial) (af _ _);rw[dX]at o n;exact⟨l,j,k,i,o,n,hs⟩
theorem vV {l:List Nat} (d:∀r∈l,r<128) (a:l.length≤40) (f:∀e b,e=.returned (.string (enc (c6 [120] [121] l)))→Same w b→R e b):
 Calls Tryz.prog 6 #[.string (enc l),.string GS,.string GT] w R:=by
 have hx:(GS:ByteArray)=enc [120]:=by kernel_rfl
 have c:(GT:ByteArray)=enc [121]:=by kernel_rfl
 rw[hx,c];exact tB d a (by decide) (by decide) f
theorem SetsAt.at_ {a:Option Addr} {n c:Nat} {ss:List (List Int)} (h:SetsAt w (.slice a n c) ss):n≤c∧c≤maxLen∧∀k (_:k<n),∃b off s l,a=some ⟨b,off,none⟩∧w.cell? ⟨b,off+k*3+2,none⟩=some s∧ss[k]?=some l∧IntsAt w s l:=by
 obtain⟨m,j,hv,h1,h2,e⟩:=h;simp only[Value.slice.injEq]at hv;obtain⟨rfl,rfl,rfl⟩:=hv;refine⟨h1,h2,fun k d=>?_⟩;obtain⟨b,off,s,i,g,f⟩:=e k d;exact⟨b,off,s,_,i,g,List.getElem?_eq_getElem d,f⟩
theorem D4 {P:Program} {c:Code} {Q:Exit→Act→World→Prop} {a:Act} {w:World} (F:Nat→Nat→Option Addr→Nat→Option Addr→Nat→Option Addr→Nat→Option Addr→Nat→Act)
 (C:Nat→Nat→Option Addr→Nat→Option Addr→Nat→Option Addr→Nat→Option Addr→Nat→World→Prop)
 (h1:c.wp P (fun e p b=>e=.normal∧∃k j o i n g m f l d,p=F k j o i n g m f l d∧C k j o i n g m f l d b) a w)
 (h2:∀k j o i n g m f l d b,C k j o i n g m f l d b→Q .normal (F k j o i n g m f l d) b):c.wp P Q a w:=
 Code.wp_mono (fun e p b h=>by
  obtain⟨rfl,k,j,o,i,n,g,m,f,l,d,rfl,q⟩:=h;exact h2 _ _ _ _ _ _ _ _ _ _ b q) h1
theorem wn {P:Program} {b:Array Oper} {Q:Exit→Act→World→Prop} {z:Nat} {S:World→Prop} {π:PlanT} {a:Act} {w:World} (m:PlanT) (F:Nat→Nat→Option Addr→Nat→Option Addr→Nat→Option Addr→Nat→Option Addr→Nat→Act)
 (C:Nat→Nat→Option Addr→Nat→Option Addr→Nat→Option Addr→Nat→Option Addr→Nat→World→Prop)
 (tree:(∀h g l f k e j d i c W,C h g l f k e j d i c W→bO P b Q z m S (F h g l f k e j d i c) W)→bO P b Q z π S a w)
 (leaf:∀h g l f k e j d i c W,C h g l f k e j d i c W→bO P b Q z m S (F h g l f k e j d i c) W):bO P b Q z π S a w:=tree leaf
end
end Go.Proofs.YtojegnbejmeehaaGreatDoor
