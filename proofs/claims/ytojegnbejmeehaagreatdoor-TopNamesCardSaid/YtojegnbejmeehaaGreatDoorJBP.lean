/- Helpers of the proof of TopNames. -/
import Derived.Test.YtojegnbejmeehaaGreatDoorJBJ
import Derived.Test.YtojegnbejmeehaaGreatDoorJBO
namespace Go.Proofs.YtojegnbejmeehaaGreatDoor
open Go.RowKit
set_option maxRecDepth 10000
set_option maxHeartbeats 16000000
set_option linter.all false
section
attribute [local irreducible] au ax aQ wpQuiet
variable {R:Ending→World→Prop} {w:World} {A B:Au}
def fN (l:List (Nat×Nat)):List (Int×Int):=l.map fun p=>((p.1:Int),(p.2:Int))
theorem rD {p q:Nat×Nat} (h:((p.1:Int),(p.2:Int))=((q.1:Int),(q.2:Int))):p=q:=by
 simp only[Prod.mk.injEq,Int.ofNat_inj]at h;exact Prod.ext h.1 h.2
theorem rC {l:List (Nat×Nat)} {p:Nat×Nat}:((p.1:Int),(p.2:Int))∈fN l↔p∈l:=by
 unfold fN;rw[List.mem_map];constructor
 ·rintro⟨q,a,e⟩;exact rD e▸a
 ·intro h;exact⟨p,h,rfl⟩
theorem AY (l:List (Nat×Nat)) (p:Nat×Nat):gF (fN l) ((p.1:Int),(p.2:Int))=gF l p:=
 uQ (fun p:Nat×Nat=>((p.1:Int),(p.2:Int))) fun _ _ h=>rD h
theorem xI (l:List (Nat×Nat)) (p:Nat×Nat):fN (l++[p])=fN l++[((p.1:Int),(p.2:Int))]:=by simp[fN]
theorem iu (l:List (Nat×Nat)):(fN l).length=l.length:=by simp[fN]
def pT (S:Nat→Prop) (w:World) (t:TypeId):Prop:=∀b cur,w.heap[b]?=some (.cells cur t (0,0))→S b
structure OutP (w:World) (B x:Nat) (T:Int) (va vn:Value) (acc:List Bool) (rows:List (List Int)):Prop where
 blk:w.heap[x]?=some (.cells #[T,va,vn] 166)
 acc:OwnBools w B va acc
 mat:OwnMat w B vn rows
variable {N0 N2 x mb mm mt:Nat} {T n:Int} {va vn vl:Value} {acc:List Bool} {rows:List (List Int)} {l:List (Int×Int)} {S:Nat→Prop} {w':World}
theorem OutP.keep (h:OutP w N2 x T va vn acc rows) (k:Keeps S w w') (h1:pT S w 166) (h2:pT S w 4) (i:pT S w 41) (g:pT S w 3):OutP w' N2 x T va vn acc rows:=by
 refine⟨k.at h.blk (h1 _ _ h.blk),ar h.acc k fun b f=>?_,h.mat.keepT k fun b c e a d _=>?_⟩
 ·obtain⟨_,c,a⟩:=ah h.acc f;exact h2 _ _ a
 ·rcases d with rfl|rfl
  ·exact i _ _ a
  ·exact g _ _ a
theorem MkSt.keep (h:MkSt w N0 mb mm mt vl l n) (k:Keeps S w w') (h1:pT S w 258) (h2:pT S w 193) (i:pT S w 97) (g:∀b c a,w.heap[b]?=some (.map c a)→S b):MkSt w' N0 mb mm mt vl l n:=by
 refine⟨k.at h.blk (h1 _ _ h.blk),?_,ar h.own k fun b f=>?_,k.at h.met (i _ _ h.met)⟩
 ·obtain⟨c,a,d,_⟩:=id h.map;exact h.map.keep k (g _ _ _ d)
 ·obtain⟨_,j,e⟩:=ah h.own f;exact h2 _ _ e
theorem MkSt.cov (h:MkSt w N0 mb mm mt vl l n) {t:TypeId} (h1:t≠258) (h2:t≠193) (g:t≠97):pT (fun b=>b≠mb∧b≠mm∧b≠mt∧vl.ownBlock≠some b) w t:=fun b i a=>by
 refine⟨fun e=>?_,fun e=>?_,fun e=>?_,fun e=>?_⟩
 ·subst e;have :=h.blk;rw[a]at this;simp at this;exact h1 this.2
 ·subst e;obtain⟨k,j,d,_⟩:=h.map;rw[a]at d;cases d
 ·subst e;have :=h.met;unfold MeterAt at this;rw[a]at this;simp at this;exact g this.2
 ·obtain⟨_,f,c⟩:=ah h.own e;rw[a]at c;simp at c;exact h2 c.2
theorem gX {t u:TypeId} {g:Nat} {c:Array Value} (f:w.heap[g]?=some (.cells c u (0,0))) (h:t≠u):pT (·≠g) w t:=fun b d a e=>by
 subst e;rw[f]at a;simp at a;exact h a.2.symm
theorem ej {t u:TypeId} {z N k:Nat} {v:Value} {d:List Value} (hv:w.ownsRow N u z v k d) (h:t≠u):pT (fun b=>v.ownBlock≠some b) w t:=fun b g f e=>by
 obtain⟨_,c,a⟩:=ah hv e;rw[f]at a;simp at a;exact h a.2
theorem OutP.next {c:Value} {a:List (List Int)} (h:OutP w N2 x T va vn acc rows) (k:Keeps (fun b=>vn.ownBlock≠some b) w w') (o:OwnMat w' N2 c a):OutP (w'.setCell ⟨x,2,none⟩ c) N2 x T va c acc a:=by
 obtain⟨vs,h1,_⟩:=h.mat;have i:=k.at h.blk (ej h1 (by decide) _ _ h.blk);have j:Keeps (·≠x) w' (w'.setCell ⟨x,2,none⟩ c):=(af (·≠x) w').setCell (fun p=>p.2 rfl) _;have m:OwnBools w' N2 va acc:=ar h.acc k fun b d=>by
  obtain⟨_,g,f⟩:=ah h.acc d;exact ej h1 (by decide) _ _ f
 refine⟨by rw[aj i];simp,ar m j fun b d=>?_,o.keepT j fun b g e f q _=>?_⟩
 ·obtain⟨_,g,f⟩:=ah m d;exact gX i (by decide) _ _ f
 ·rcases q with rfl|rfl
  ·exact gX i (by decide) _ _ f
  ·exact gX i (by decide) _ _ f
theorem OutP.accNext {a:Value} {c:List Bool} (h:OutP w N2 x T va vn acc rows) (k:Keeps (fun b=>va.ownBlock≠some b) w w') (o:OwnBools w' N2 a c):OutP (w'.setCell ⟨x,1,none⟩ a) N2 x T a vn c rows:=by
 have g:=k.at h.blk (ej h.acc (by decide) _ _ h.blk);have m:Keeps (·≠x) w' (w'.setCell ⟨x,1,none⟩ a):=(af (·≠x) w').setCell (fun q=>q.2 rfl) _;have p:OwnMat w' N2 vn rows:=h.mat.keepT k fun b f e d i _=>by
  rcases i with rfl|rfl
  ·exact ej h.acc (by decide) _ _ d
  ·exact ej h.acc (by decide) _ _ d
 refine⟨by rw[aj g];simp,ar o m fun b j=>?_,p.keepT m fun b f e d i _=>?_⟩
 ·obtain⟨_,f,d⟩:=ah o j;exact gX g (by decide) _ _ d
 ·rcases i with rfl|rfl
  ·exact gX g (by decide) _ _ d
  ·exact gX g (by decide) _ _ d
theorem MkSt.far {u:TypeId} {z N k:Nat} {v:Value} {c:List Value} (h:MkSt w N0 mb mm mt vl l n) (hv:w.ownsRow N u z v k c) (h1:258≠u) (h2:193≠u) (g:97≠u) (d:Keeps (fun b=>v.ownBlock≠some b) w w'):MkSt w' N0 mb mm mt vl l n:=
 h.keep d (ej hv h1) (ej hv h2) (ej hv g) fun b m j f e=>by
  obtain⟨_,i,a⟩:=ah hv e;rw[f]at a;cases a
theorem MkSt.set {c:Nat} {v:Value} {a:Array Value} (h:MkSt w N0 mb mm mt vl l n) (hx:w.heap[x]?=some (.cells a 166 (0,0))):MkSt (w.setCell ⟨x,c,none⟩ v) N0 mb mm mt vl l n:=by
 have f:Keeps (·≠x) w (w.setCell ⟨x,c,none⟩ v):=(af (·≠x) w).setCell (fun g=>g.2 rfl) _;exact h.keep f (gX hx (by decide)) (gX hx (by decide)) (gX hx (by decide)) fun b j i d e=>by
  subst e;rw[hx]at d;cases d
theorem xu (a b c:Value) (w:World):(Instr.field 166 (.agg #[a,b,c]) 2).run Tryz.prog w=.ok c w:=by kernel_rfl
attribute [local go_sem] xu
theorem OwnPairs.elem {B g m c k:Nat} {l:List (Int×Int)} (h:OwnPairs w B (.slice (IQ g 0) m c) l) (i:k<l.length):w.cell? ⟨g,k*2,none⟩=some (.int .i64 (l[k]).1)∧w.cell? ⟨g,k*2+1,none⟩=some (.int .i64 (l[k]).2):=by
 rcases h with⟨h0,⟨h1,_⟩|⟨s,cap,j,e,r,d,q,p,o,f⟩⟩
 ·cases h1
 ·simp only[Value.slice.injEq,Option.some.injEq,Addr.mk.injEq,and_true]at e;obtain⟨rfl,_,rfl⟩:=e;obtain⟨b,a⟩:=kH l k i;rw[←f]at b a;rw[List.getElem?_take]at b a;rw[if_pos (by omega)]at b a;rw[ai d,ai d];exact⟨by simpa using b,by simpa using a⟩
theorem tO (h:AuOk A) {s:Nat} (hs:s<A.next.length) (c:Nat) (d:c<2^A.T.toNat):∃a:c<(A.next[s]).length,(A.next[s])[c]=((nx A s c:Nat):Int):=by
 have b:=h.2 _ (List.getElem_mem hs);have a:c<(A.next[s]).length:=by rw[b.1];exact d
 refine⟨a,?_⟩;have h1:=b.2 _ (List.getElem_mem a);unfold nx;rw[show A.next.getD s []=A.next[s] by simp[List.getD,List.getElem?_eq_getElem hs],show(A.next[s]).getD c 0=(A.next[s])[c] by simp[List.getD,List.getElem?_eq_getElem a]];omega
structure BothSt (w0 w2 wr:World) (N1 x mb mm mt:Nat) (A B:Au) (t:Nat) (n:Int) (k:Nat) (l:List (Nat×Nat)) (outs:List (List Nat)) (vl va vn:Value):Prop where
 eq:dQ A B k=(l,outs)
 len:outs.length=k
 lim:(l.length:Int)≤n∧l.length≤400
 mkr:MkSt wr w0.heap.size mb mm mt vl (fN l) (n -l.length)
 ot:OutP wr w2.heap.size x A.T va vn ((l.take k).map fun p=>eu t (ac A p.1) (ac B p.2)) (outs.map fun r=>r.map Int.ofNat)
 own:∀b,vl.ownBlock=some b→b<N1∨w2.heap.size≤b
 old:Keeps (·<w0.heap.size) w0 wr
 mid:Keeps (N1≤·) w2 wr
def DU (w:World) (b:Nat):Prop:=∃cur ty,w.heap[b]?=some (.cells cur ty (0,0))∧(ty=166∨ty=4∨ty=41∨ty=3)
theorem OutP.keepTy {e:Nat} (h:OutP w N2 x T va vn acc rows) (k:Keeps (fun b=>b<e∧DU w b) w w') (d:w.heap.size≤e):OutP w' N2 x T va vn acc rows:=
 h.keep k (fun _ a c=>⟨Nat.lt_of_lt_of_le (am c) d,a,_,c,.inl rfl⟩) (fun _ a c=>⟨Nat.lt_of_lt_of_le (am c) d,a,_,c,.inr (.inl rfl)⟩)
  (fun _ a c=>⟨Nat.lt_of_lt_of_le (am c) d,a,_,c,.inr (.inr (.inl rfl))⟩) (fun _ a c=>⟨Nat.lt_of_lt_of_le (am c) d,a,_,c,.inr (.inr (.inr rfl))⟩)
theorem yW {e i:World} {j:Nat} (h:MkSt w N0 mb mm mt vl l n) (k:Keeps (fun b=>b<j∧DU e b) e w) (p:Keeps (fun b=>b≠mb∧b≠mm∧b≠mt∧vl.ownBlock≠some b) w i):Keeps (fun b=>b<j∧DU e b) e i:=
 k.trans p fun z q a=>⟨a,by
  obtain⟨f,d,o,m,c⟩:=a;have g:=k.at m ⟨f,d,o,m,c⟩;rcases c with rfl|rfl|rfl|rfl
  all_goals exact h.cov (by decide) (by decide) (by decide) z d g⟩
structure InSt (w0 w2 wo wr:World) (N1 mb mm mt:Nat) (A B:Au) (n:Int) (l:List (Nat×Nat)) (p:Nat×Nat) (pb c:Nat) (l':List (Nat×Nat)) (r:List Nat) (vl u:Value):Prop where
 eq:aT id l ((gt A B p).take c)=(l',r)
 len:r.length=c
 lim:(l'.length:Int)≤n∧l'.length≤400
 mkr:MkSt wr w0.heap.size mb mm mt vl (fN l') (n -l'.length)
 okp:Keeps (fun b=>b<pb∧DU wo b) wo wr
 own:∀b,vl.ownBlock=some b→(b<N1∨w2.heap.size≤b)∧b≠pb
 row:OwnInts wr pb u (r.map Int.ofNat)
 pbk:wr.heap[pb]?=(IB p.1 p.2)
 old:Keeps (·<w0.heap.size) w0 wr
 mid:Keeps (N1≤·) w2 wr
theorem InSt.push {w0 o F wr H:World} {G:Nat} {l U q:List (Nat×Nat)} {p:Nat×Nat} {g c id:Nat} {r:List Nat} {O k u u2:Value} (h:InSt w0 o F wr G mb mm mt A B n l p g c U r O u)
 (j:World) (M:aT _root_.id l ((gt A B p).take (c+1))=(q,r++[id])) (D:(q.length:Int)≤n∧q.length≤400) (V:MkSt j w0.heap.size mb mm mt k (fN q) (n -q.length))
 (y:Keeps (fun b=>b<g∧DU F b) F j) (t:∀b,k.ownBlock=some b→(b<G∨o.heap.size≤b)∧b≠g) (d:OwnInts j g u (r.map Int.ofNat))
 (s:j.heap[g]?=(IB p.1 p.2)) (v:Keeps (·<w0.heap.size) w0 j) (C:Keeps (G≤·) o j)
 (Y:w0.heap.size≤o.heap.size) (X:o.heap.size≤g) (f:Keeps (fun b=>u.ownBlock≠some b) j H) (L:OwnInts H g u2 ((r++[id]).map Int.ofNat)):
 InSt w0 o F H G mb mm mt A B n l p g (c+1) q (r++[id]) k u2:=by
 have m:∀b,u.ownBlock=some b→g≤b:=fun b N=>(ah d N).1;have i:∀I,I≠3→pT (fun b=>u.ownBlock≠some b) j I:=fun I J=>ej d J;exact
  {eq:=M
   len:=by simp[h.len]
   lim:=D
   mkr:=V.keep f (i _ (by decide)) (i _ (by decide)) (i _ (by decide)) (fun b es aH N e=>by
    obtain⟨_,Z,E⟩:=ah d e;rw[N]at E;cases E)
   okp:=y.trans f fun z _ a=>⟨a,fun e=>by have :=m z e;have :=a.1;omega⟩
   own:=t
   row:=L
   pbk:=f.at s (i _ (by decide) _ _ s)
   old:=v.trans f fun z _ a=>⟨a,fun e=>by
    have h1:z<w0.heap.size:=a;have :=m z e;omega⟩
   mid:=C.trans f fun z hz a=>⟨a,fun e=>by
    have :=m z e;omega⟩}
theorem BF {w0:World} {Ba Bb da db:Nat} (hA:DFAAt w0 Ba da A) (hB:DFAAt w0 Bb db B) (hk:Same w0 w) (hT:A.T=B.T) (t:Nat) (ht:t<16) {mt:Nat} {n:Int} (hm:MeterAt w mt n false) (KR:w0.heap.size≤mt) (h0:0≤n) (hn:n≤1000000)
 (La:∀e X d',e=.returned (.tuple (Ia (IL d') 0))→DFAAt X w0.heap.size d' (fS A B t)→Keeps (·<w0.heap.size) w0 X→R e X)
 (J0:(n<((A.acc.length*B.acc.length:Nat):Int)∨400<A.acc.length*B.acc.length)→∀e X,e=.returned (.tuple (Ia (.pointer none) 8))→Keeps (·<w0.heap.size) w0 X→R e X):
 Calls Tryz.prog 158 #[.pointer (IQ da 0),.pointer (IQ db 0),IP t,.pointer (IQ mt 0)] w R:=by
 have LZ:=ae La;have J2:=ae J0;have HA:=ae hA;have HB:=ae hB;have HK:=ae hk;have HM:=ae hm;have Lx:=ae KR;have HN:=ae (And.intro h0 hn);have Mm:(A.T !=B.T)=false:=by simp[hT]
 have Lm:=ae hT;have LN:=@run_makeMap Tryz.prog;have Kv:=ae (hA.same hk);have LC:=ae (hB.same hk);have Lr:Hid (1≤A.acc.length*B.acc.length):=ae (Nat.mul_pos (by have :=hA.ok.1.2.2.1;omega) (by have :=hB.ok.1.2.2.1;omega));clear La J0 hA hB hk hT hm KR h0 hn;go_enter Tryz.func158,Tryz.ntmps158;go_wp2_with fail;refine dB Kv.o ?_;rintro e rfl;go_wp2_with fail;refine dB LC.o ?_;rintro e rfl;go_wp2_with fail;have n1:=ag w (.map #[] 0);have e1:(w.alloc (.map #[] 0)).heap.size=w.heap.size+1:=by simp
 have n2:=ag (w.alloc (.map #[] 0)) (.cells #[.map (some w.heap.size),IM,IL mt] 258);have Kc:((w.alloc (.map #[] 0)).alloc (.cells #[.map (some w.heap.size),IM,IL mt] 258)).heap[w.heap.size]?=some (.map #[] 0):=by
  rw[Below.heap_alloc _ _ _ (by rw[e1];omega)];exact n1
 have e2:((w.alloc (.map #[] 0)).alloc (.cells #[.map (some w.heap.size),IM,IL mt] 258)).heap.size=w.heap.size+1+1:=by simp
 have ka:Same w ((w.alloc (.map #[] 0)).alloc (.cells #[.map (some w.heap.size),IM,IL mt] 258)):=((af _ w).alloc _).alloc _;rw[e1]at n2;generalize(w.alloc (.map #[] 0)).alloc (.cells #[.map (some w.heap.size),IM,IL mt] 258)=wm at Kc n2 ka e2⊢;have J6:MkSt wm w0.heap.size (w.heap.size+1) w.heap.size mt IM [] n:=⟨n2,⟨#[],0,Kc,rfl⟩,World.ownsRow_nil _ _ _ _,ka.at HM.o trivial⟩;have LH:w0.heap.size≤w.heap.size:=HK.o.size;obtain⟨mm,JT⟩:∃mm,mm=w.heap.size:=⟨_,rfl⟩;obtain⟨mb,Jb⟩:∃mb,mb=w.heap.size+1:=⟨_,rfl⟩;rw[←Jb,←JT]at J6;have JU:w.heap.size+1=mb:=Jb.symm;rw[JU];have Jm:Hid (w0.heap.size≤mm∧w0.heap.size≤mb∧mm<wm.heap.size∧mb<wm.heap.size∧w0.heap.size≤wm.heap.size∧mt<wm.heap.size):=ae ⟨by omega,by omega,by omega,by omega,by omega,by have :=am (ka.at HM.o trivial);omega⟩;have LA:=ae (HK.o.tr ka);have Lf:=ae J6;clear n1 e1 n2 Kc e2 J6 LN JT Jb JU LH HK;refine dB (Kv.o.same ka) ?_;rintro e rfl;clear ka Kv LC;go_wp2_with fail;have Jt:=ag wm (Ij A.T none 0 0 none 0 0);have kx:=sal wm (Ij A.T none 0 0 none 0 0);have ex:(wm.alloc (Ij A.T none 0 0 none 0 0)).heap.size=wm.heap.size+1:=by simp
 obtain⟨x,hx⟩:∃x,x=wm.heap.size:=⟨_,rfl⟩;rw[←hx]at Jt⊢;generalize wm.alloc _=wx at Jt kx ex⊢;have Jn:Hid (x<wx.heap.size∧w0.heap.size≤x∧wm.heap.size≤wx.heap.size):=ae ⟨by omega,by have :=Jm.o.2.2.2.2.1;omega,by omega⟩;have NX:=ae Jt;have Lz:=ae (LA.o.tr kx);have Jl:=ae (Lf.o.same kx);clear Jt kx ex hx LA Lf;refine qI (l:=[]) (p:=(0,0)) Jl.o (by simp) (by have :=Jn.o.2.2;have :=Jm.o.2.2.2.2.1;omega) (by decide) HN.o.1 (by have :=HN.o.2;omega) ?_;rintro e V vl rfl KC k2 JL;have LU:=ae KC;have Jp:Hid (Keeps (·<w0.heap.size) w0 V):=ae ((Lz.o.mono fun _ _ _=>trivial).trans k2 fun z hz o=>⟨o,by
  have h1:=Jm.o;have h2:=Lx.o;have Mk:z<w0.heap.size:=o;exact⟨by omega,by omega,by omega,by simp[Value.ownBlock]⟩⟩)
 have LW:=ae (k2.at NX.o (by
  have h1:=Jm.o;refine⟨fun e=>?_,fun e=>?_,fun e=>?_,by simp[Value.ownBlock]⟩
  all_goals
   subst e
   first
    |(have h2:=NX.o;rw[Jl.o.blk]at h2;simp at h2)
    |(obtain⟨es,LR,hm,_⟩:=Jl.o.map;have h2:=NX.o;rw[hm]at h2;cases h2)
    |(have h2:=NX.o;have h3:=Jl.o.met;unfold MeterAt at h3;rw[h3]at h2;simp at h2)))
 have Lg:=ae JL;have Lo:Hid (wx.heap.size≤V.heap.size):=ae k2.size;clear KC k2 JL Jl NX Lz;by_cases Jj:1≤n
 case neg=>
  have hd:decide (1≤n)=false:=decide_eq_false Jj;rw[hd];have HF:=ae (J2.o (.inl (by have :=Lr.o;omega)) _ V rfl Jp.o);clear hd Jj;go_wp2_with fail;exact HF.o
 have hd:decide (1≤n)=true:=decide_eq_true Jj;rw[hd,show decide (([]:List (Int×Int)).length+1≤400)=true by decide];have Le:=ae (LU.o Jj);clear hd;go_wp2_with fail;refine mh (HA.o.keep Jp.o fun b _ f=>f) ?_;rintro e wa Mi rfl oa ka;obtain⟨Mf,LT,rfl,_,ma⟩:=oa;have MA:=ae ma;have KA:=ae ka;clear ma ka;go_wp2_with fail;refine mh (HB.o.keep (Jp.o.tr_same KA.o) fun b _ f=>f) ?_;rintro e U Mh rfl ob kb;obtain⟨Me,LS,rfl,_,KJ⟩:=ob;have JE:=ae (KA.o.tr kb);have Kp:=ae (MA.o.same kb);have Ko:=ae (KJ.below KA.o.size);clear KJ kb MA;have LM:0<A.next.length:=by have :=HA.o.ok.1.2.2.1;have :=HA.o.ok.1.2.2.2.2;omega
 have LL:0<B.next.length:=by have :=HB.o.ok.1.2.2.1;have :=HB.o.ok.1.2.2.2.2;omega
 obtain⟨ga,Lc,rfl⟩:∃ga Lc,LT=.slice (IQ ga 0) A.next.length Lc:=by
  obtain⟨vs,h1,_⟩:=Kp.o;exact dN h1 LM
 obtain⟨gb,Lb,rfl⟩:∃gb Lb,LS=.slice (IQ gb 0) B.next.length Lb:=by
  obtain⟨vs,h1,_⟩:=Ko.o;exact dN h1 LL
 have J3:Hid (V.heap.size≤ga∧V.heap.size≤gb):=ae ⟨by
  obtain⟨vs,h1,_⟩:=Kp.o;exact(ah h1 (g:=ga) (by simp[Value.ownBlock])).1,by
  obtain⟨vs,h1,_⟩:=Ko.o;exact(ah h1 (g:=gb) (by simp[Value.ownBlock])).1⟩
 have IZ:Hid (A.next.length=A.acc.length∧B.next.length=B.acc.length):=ae ⟨HA.o.ok.1.2.2.2.2,HB.o.ok.1.2.2.2.2⟩;have Mo:A.next.length≤400:=by have :=HA.o.ok.1.2.2.2.1;have :=IZ.o.1;omega
 have Mn:B.next.length≤400:=by have :=HB.o.ok.1.2.2.2.1;have :=IZ.o.2;omega
 go_wp2_with fail;have Lk:Hid (BothSt w0 U U V.heap.size x mb mm mt A B t n 0 [(0,0)] [] vl IM IM):=ae
  {eq:=rfl
   len:=rfl
   lim:=⟨by simpa using Jj,by decide⟩
   mkr:=by simpa [fN]using Le.o.same JE.o
   ot:=⟨JE.o.at LW.o trivial,World.ownsRow_nil _ _ _ _,OwnMat.nil _ _⟩
   own:=fun b f=>by
    rcases Lg.o b f with h|h
    ·simp[Value.ownBlock]at h
    ·left;obtain⟨_,Km,hc⟩:=ah Le.o.own f;exact am hc
   old:=Jp.o.tr_same JE.o
   mid:=af _ _}
 have IS:Hid (w0.heap.size≤U.heap.size):=ae (Jp.o.tr_same JE.o).size;have G:=ae HA.o.ok;have J:=ae HB.o.ok
 go_loopw [16] (fun i wr=>∃(k:Nat) (l:List (Nat×Nat)) (a:List (List Nat)) (vl va vn:Value),i=.int .i64 k∧k≤l.length∧Hid (BothSt w0 U wr V.heap.size x mb mm mt A B t n k l a vl va vn)) (fun i _=>A.acc.length*B.acc.length -(intOf i).toNat)
 case atStart=>exact⟨0,_,_,_,_,_,rfl,Nat.zero_le _,Lk⟩
 case round=>
  obtain⟨k,l,a,vl,va,vn,rfl,hk,KP⟩:=hrel;have H:=ae KP.o;clear KP;obtain⟨LF,Kx,KK⟩:=av H.o.mkr.own;rw[iu]at KK;subst KK;have b1:=xc1 H.o.mkr.blk 1 rfl;have KT:l.length≤A.acc.length*B.acc.length:=by
   have :=tS G.o J.o k;rw[H.o.eq]at this;exact this
  have L7:=ae KT;have Kg:l.length≤400:=H.o.lim.2;clear KT;by_cases Kf:k<l.length
  ·obtain⟨g,Md,hg⟩:∃g c,Value.slice LF l.length Kx=.slice (IQ g 0) l.length c:=by
    have :=H.o.mkr.own;unfold OwnPairs at this;rw[iu]at this;exact dN this (by omega)
   simp only[Value.slice.injEq,true_and]at hg;obtain⟨rfl,rfl⟩:=hg;have I4:k<(fN l).length:=by rw[iu];exact Kf
   obtain⟨d0,d1⟩:=OwnPairs.elem H.o.mkr.own I4;have Ks:=ae (List.getElem?_eq_getElem Kf);have KY:(fN l)[k]=((l[k].1:Int),(l[k].2:Int)):=by simp[fN]
   rw[KY]at d0 d1;have ce:=oH G.o J.o k l[k] (by rw[H.o.eq];exact List.getElem_mem Kf);generalize l[k]=p at d0 d1 Ks ce
   obtain⟨Z,Y⟩:=p;simp only at d0 d1 ce
   have LB:=ae ce
   have Jz:Z<A.next.length:=by rw[IZ.o.1];exact ce.1
   have Jy:Y<B.next.length:=by rw[IZ.o.2];exact ce.2
   clear I4 KY ce
   obtain⟨sa,Mq,Kb,_,J8⟩:=Kp.o.elem (List.getElem?_eq_getElem Jz);obtain⟨sb,Mp,Ka,_,J7⟩:=Ko.o.elem (List.getElem?_eq_getElem Jy);have I9:=(G.o.2 _ (List.getElem_mem Jz)).1;have If:=(J.o.2 _ (List.getElem_mem Jy)).1;rw[←Lm.o]at If;have KQ:2^A.T.toNat≤64:=fp (by have :=G.o.1.2.1;omega);have L9:=ae (fun(X:World) (k':Keeps (V.heap.size≤·) U X)=>((J8.keep k' fun b f=>(ah J8 f).1).ints (G.o.bounds.2 _ (List.getElem_mem Jz))));have L8:=ae (fun(X:World) (k':Keeps (V.heap.size≤·) U X)=>((J7.keep k' fun b f=>(ah J7 f).1).ints (J.o.bounds.2 _ (List.getElem_mem Jy))));have L3:=ae (fun c hc=>tO G.o Jz c hc);have L0:=ae (fun c hc=>tO J.o Jy c hc);rw[I9]at Kb;rw[If]at Ka;have Lq:=ae (fun(X:World) (k':Keeps (V.heap.size≤·) U X)=>ak k' Kb J3.o.1);have Lp:=ae (fun(X:World) (k':Keeps (V.heap.size≤·) U X)=>ak k' Ka J3.o.2);have LX:=ae (And.intro I9 If);clear Kb Ka J8 J7 I9 If;obtain⟨q,hq⟩:∃q,q=2^A.T.toNat:=⟨_,rfl⟩;rw[←hq]at Lq Lp LX KQ;have HQ:=ae hq;have LY:Hid (q=2^B.T.toNat):=ae (by rw[hq,Lm.o]);clear hq;obtain⟨wo,rfl⟩:∃wo:World,wo=wr:=⟨_,rfl⟩;have KE:=Lq.o _ H.o.mid;have I0:=sal wo (Io Z Y);have Jr:=ag wo (Io Z Y);have KD:=ak I0 KE trivial;obtain⟨a8,aL⟩:=xc2 Jr rfl rfl;have Kq:Hid (InSt w0 U wo (wo.alloc (Io Z Y)) V.heap.size mb mm mt A B n l (Z,Y) wo.heap.size 0 l [] (.slice (IQ g 0) l.length Kx) IM):=ae
    {eq:=rfl
     len:=rfl
     lim:=H.o.lim
     mkr:=H.o.mkr.same I0
     okp:=I0.mono fun _ _ _=>trivial
     own:=fun b f=>⟨H.o.own b f,fun e=>by
      obtain⟨_,Km,hc⟩:=ah H.o.mkr.own f;subst e;exact Nat.lt_irrefl _ (am hc)⟩
     row:=World.ownsRow_nil _ _ _ _
     pbk:=Jr
     old:=H.o.old.tr_same I0
     mid:=H.o.mid.tr_same I0}
   have JH:Hid (U.heap.size≤wo.heap.size):=ae H.o.mid.size;obtain⟨pb,Jw⟩:∃pb,pb=wo.heap.size:=⟨_,rfl⟩;rw[←Jw]at Kq a8 aL JH;have Lt:=ae Jw;go_wp2_with fail;rw[←Jw];generalize wo.alloc _=w3 at Kq KD a8 aL⊢;clear b1 d0 d1 KE KD a8 aL Jr I0 Jw
   go_loopw [18,87] (fun u j wi=>∃(c:Nat) (L:List (Nat×Nat)) (r:List Nat) (I1:Value),j=.int .i64 c∧c≤q∧Hid (InSt w0 U wo wi V.heap.size mb mm mt A B n l (Z,Y) pb c L r I1 u)) (fun _ j _=>q -(intOf j).toNat)
   case atStart=>exact⟨0,_,_,_,rfl,Nat.zero_le _,Kq⟩
   case round=>
    obtain⟨c,L,r,I1,rfl,hc,ce⟩:=hrel;have d:=ae ce.o;clear ce
    obtain⟨ua,uc,hu⟩:=av d.o.row;have dZ:(r.map Int.ofNat).length=c:=by rw[List.length_map,d.o.len]
    rw[dZ]at hu;subst hu;by_cases I4:c<q
    ·obtain⟨Ki,KN⟩:=L3.o c (by rw[←HQ.o];exact I4);obtain⟨Kh,KM⟩:=L0.o c (by rw[←LY.o];exact I4);obtain⟨_,_,e1,_,_,KW⟩:=(L9.o _ d.o.mid).open;simp only[Value.slice.injEq]at e1;obtain⟨rfl,_,rfl⟩:=e1;obtain⟨ba,oa,rfl,_,K8⟩:=KW c Ki;have ha:=K8 c Ki;rw[KN]at ha;obtain⟨_,_,e1,_,_,KV⟩:=(L8.o _ d.o.mid).open;simp only[Value.slice.injEq]at e1;obtain⟨rfl,_,rfl⟩:=e1;obtain⟨bb,ob,rfl,_,KZ⟩:=KV c Kh;have f:=KZ c Kh;rw[KM]at f;have J9:=Lp.o _ d.o.mid;obtain⟨a8,aL⟩:=xc2 d.o.pbk rfl rfl;have I:=Bv (A:=A) (B:=B) (p:=(Z,Y)) (c:=c) (by rw[←HQ.o];exact I4) d.o.eq;simp only at I;have s:=FE G.o J.o k (c+1) (Z,Y);rw[H.o.eq]at s;simp only at s;rw[I]at s;simp only at s;have JG:=ae I;have Jo:=ae s;generalize nx A Z c=s1 at ha JG Jo;generalize nx B Y c=s2 at f JG Jo;clear KN KM KW KV K8 KZ Ki Kh I s;have LI:=Jm.o;have hs1:=Lo.o;have LJ:=Jn.o;have Lv:Hid (∀z,z<w0.heap.size→z≠mb∧z≠mm∧z≠mt∧I1.ownBlock≠some z):=ae fun z hz=>⟨by omega,by omega,by have :=Lx.o;omega,fun e=>by have :=(ah d.o.mkr.own e).1;omega⟩;have Ly:Hid (∀z,z<U.heap.size→V.heap.size≤z→z≠mb∧z≠mm∧z≠mt∧I1.ownBlock≠some z):=ae fun z hz Mj=>⟨by omega,by omega,by omega,fun e=>by rcases(d.o.own z e).1 with h|h<;>omega⟩;have Ls:Hid (pb≠mb∧pb≠mm∧pb≠mt∧I1.ownBlock≠some pb):=by
      refine ae ⟨?_,?_,?_,fun e=>(d.o.own pb e).2 rfl⟩
      ·intro e;have h:=d.o.pbk;rw[e,d.o.mkr.blk]at h;simp at h
      ·intro e;obtain⟨es,LR,hm,_⟩:=d.o.mkr.map;have h:=d.o.pbk;rw[e,hm]at h;cases h
      ·intro e;have h:=d.o.pbk;have h2:=d.o.mkr.met;unfold MeterAt at h2;rw[e,h2]at h;simp at h
     have Ll:Hid (w0.heap.size≤wr.heap.size∧U.heap.size≤wr.heap.size):=ae ⟨d.o.old.size,d.o.mid.size⟩;have Kt:Hid (pb<wr.heap.size):=ae (am d.o.pbk);clear LI hs1 LJ;go_wp2_with fail;by_cases N:(s1,s2)∈L
     ·have I:=JG.o;rw[if_pos N]at I;refine wl d.o.mkr (((s1:Nat):Int),((s2:Nat):Int)) ((rC (p:=(s1,s2))).2 N) ?_;rintro e w5 rfl k5;rw[AY L (s1,s2)];have JA:gF L (s1,s2)<400:=Nat.lt_of_lt_of_le (l9 N) d.o.lim.2;have IW:=ae I;generalize gF L (s1,s2)=id at IW JA;have M:OwnInts w5 pb (.slice ua c uc) (r.map Int.ofNat):=eK d.o.row k5;obtain⟨gg,Jk,w6,fd,D,Jd,Kj,_⟩:=bi (P:=Tryz.prog) w5 41 41 3 Tryz.underlying41 cC rfl M (Nat.le_of_lt (Nat.lt_of_lt_of_le Kt.o k5.size)) (IP (id:Int)) rfl (by rw[dZ];omega) (by decide);rw[dZ]at fd D;have HF:=ae (d.o.push w5 IW.o d.o.lim (d.o.mkr.same k5) (d.o.okp.tr_same k5) d.o.own M (k5.at d.o.pbk trivial) (d.o.old.tr_same k5) (d.o.mid.tr_same k5) IS.o JH.o Jd (u2:=.slice (IQ gg 0) (c+1) Jk) (by unfold OwnInts;rw[List.map_append];simpa [dZ]using D));clear I M D Jd Kj k5 ha f J9 a8 aL
      go_wp2_with (at_builtin;refine ap rfl _ _ _ rfl rfl rfl fd ?_;clear fd)
      go_roundw
      case rel=>exact⟨c+1,_,_,_,by go_num,by omega,HF⟩
      case measure=>simp[intOf];omega
     ·have I:=JG.o;rw[if_neg N,uP N]at I;have s:=Jo.o;rw[if_neg N]at s;have IW:=ae I;have Kk:(((s1:Nat):Int),((s2:Nat):Int))∉fN L:=fun h=>N ((rC (p:=(s1,s2))).1 h);refine qI d.o.mkr (((s1:Nat):Int),((s2:Nat):Int)) Kk Ll.o.1 (by rw[iu];have :=d.o.lim.2;omega) (by have :=d.o.lim.1;omega) (by have :=HN.o.2;omega) ?_;rintro e w5 LG rfl Jq k5 I6;rw[←xI L (s1,s2)]at Jq;rw[iu];have bL:Keeps (·<w0.heap.size) w0 w5:=d.o.old.trans k5 fun z hz o=>⟨o,Lv.o z hz⟩;have fw:Keeps (V.heap.size≤·) U w5:=d.o.mid.trans k5 fun z hz o=>⟨o,Ly.o z hz o⟩;by_cases cH:1≤n -(L.length:Int)∧L.length+1≤400
      ·have hd:(decide (1≤n -(L.length:Int))&&decide (L.length+1≤400))=true:=by simp;omega
       rw[hd];have M:OwnInts w5 pb (.slice ua c uc) (r.map Int.ofNat):=ar d.o.row k5 fun b f=>by
        obtain⟨_,Km,LP⟩:=ah d.o.row f;exact d.o.mkr.cov (by decide) (by decide) (by decide) b Km LP
       obtain⟨gg,Jk,w6,fd,D,Jd,Kj,_⟩:=bi (P:=Tryz.prog) w5 41 41 3 Tryz.underlying41 cC rfl M (Nat.le_of_lt (Nat.lt_of_lt_of_le Kt.o k5.size)) (IP ((L.length:Nat):Int)) rfl (by rw[dZ];omega) (by decide);rw[dZ]at fd D;have Kz:MkSt w5 w0.heap.size mb mm mt LG (fN (L++[(s1,s2)])) (n -((L++[(s1,s2)]).length:Nat)):=by
        have :=Jq cH.1;rw[show n -(((L++[(s1,s2)]).length:Nat):Int)=n -(L.length:Int) -1 by simp;omega];exact this
       have HF:=ae (d.o.push w5 IW.o ⟨by simp;omega,by simp only[List.length_append,List.length_cons,List.length_nil];exact cH.2⟩ Kz (yW d.o.mkr d.o.okp k5) (fun b f=>by
        rcases I6 b f with h|h
        ·exact d.o.own b h
        ·exact⟨.inr (Nat.le_trans Ll.o.2 h),by have :=Kt.o;omega⟩) M (k5.at d.o.pbk Ls.o) bL fw IS.o JH.o Jd (u2:=.slice (IQ gg 0) (c+1) Jk) (by unfold OwnInts;rw[List.map_append];simpa [dZ]using D))
       clear I s M D Jd Kj k5 ha f J9 a8 aL Jq Kz I6 bL fw hd cH Kk
       go_wp2_with (at_builtin;refine ap rfl _ _ _ rfl rfl rfl fd ?_;clear fd)
       go_roundw
       case rel=>exact⟨c+1,_,_,_,by go_num,by omega,HF⟩
       case measure=>simp[intOf];omega
      ·have hd:(decide (1≤n -(L.length:Int))&&decide (L.length+1≤400))=false:=by
        rw[Bool.and_eq_false_iff];by_cases h1:1≤n -(L.length:Int)
        ·right;simp;omega
        ·left;simp;omega
       rw[hd];have JV:n<((A.acc.length*B.acc.length:Nat):Int)∨400<A.acc.length*B.acc.length:=by
        simp only[List.length_append,List.length_cons,List.length_nil]at s;omega
       have HF:=ae (J2.o JV _ w5 rfl bL);clear I s k5 ha f J9 a8 aL Jq I6 bL fw hd cH Kk JV;go_wp2_with fail;exact HF.o
    ·obtain rfl:c=q:=by omega
     have JB:=d.o.eq;rw[List.take_of_length_le (by rw[jg,←HQ.o];exact Nat.le_refl _)]at JB;have I8:=zu H.o.eq (by rw[H.o.len];exact Ks.o) JB;have Ja:l<+:L:=by have :=gr id l (gt A B (Z,Y));rw[JB]at this;exact this
     have KO:(L.take (k+1)).map (fun p=>eu t (ac A p.1) (ac B p.2))=(l.take k).map (fun p=>eu t (ac A p.1) (ac B p.2))++[eu t (ac A Z) (ac B Y)]:=by
      obtain⟨m,rfl⟩:=Ja;have h1:=(List.getElem?_eq_some_iff.1 Ks.o);obtain⟨h2,h3⟩:=h1;rw[List.take_append_of_le_length (by omega),List.take_succ_eq_append_getElem h2,h3,List.map_append];rfl
     have Ln:=ae KO;have Kr:=ae I8;have KU:k+1≤L.length:=by have :=Ja.length_le;omega
     have E:=H.o.ot.keepTy d.o.okp (by rw[Lt.o];exact Nat.le_refl _);have LQ:U.heap.size≤wr.heap.size:=d.o.mid.size;have LK:a.length+1≤1000000:=by have :=H.o.len;have :=H.o.lim.2;omega
     have K7:((l.take k).map fun p=>eu t (ac A p.1) (ac B p.2)).length=k:=by simp;omega
     obtain⟨na,nc,Ju⟩:=E.mat.shape;rw[List.length_map]at Ju;subst Ju;obtain⟨aa,gI,Jv⟩:=av E.acc;rw[K7]at Jv;subst Jv;have JI:=aN d.o.row JH.o;obtain⟨g5,O,w5,Ke,gH,I3,_,_,_⟩:=E.mat.push LQ JI (by rw[List.length_map];exact LK);rw[List.length_map]at Ke gH;obtain⟨Mg,cE,_⟩:=id E.mat;have IR:=I3.at E.blk (ej cE (by decide) _ _ E.blk);have JO:=E.next I3 gH
     have KI:=(d.o.mkr.far cE (by decide) (by decide) (by decide) I3).set (x:=x) (c:=2) (v:=.slice (IQ g5 0) (a.length+1) O) IR;have JK:(w5.setCell ⟨x,2,none⟩ (.slice (IQ g5 0) (a.length+1) O)).heap[pb]?=(IB Z Y):=by
      have h1:=I3.at d.o.pbk (ej cE (by decide) _ _ d.o.pbk);rw[aS (gX IR (by decide) _ _ h1)];exact h1
     have Ml:x<V.heap.size:=by have :=Jn.o.1;have :=Lo.o;omega
     have Je:Keeps (fun b=>b≠x∧(Value.slice na a.length nc).ownBlock≠some b) wr (w5.setCell ⟨x,2,none⟩ (.slice (IQ g5 0) (a.length+1) O)):=(I3.mono fun _ _ hz=>hz.2).setCell (fun hh=>hh.2.1 rfl) _;have Jg:∀b,(Value.slice na a.length nc).ownBlock=some b→U.heap.size≤b:=fun b f=>(ah cE f).1;have JQ:=d.o.old.trans Je fun z _ o=>(⟨o,fun e=>by
      have h1:z<w0.heap.size:=o;have :=Jn.o.2.1;omega,fun e=>by
      have h1:z<w0.heap.size:=o;have :=Jg z e;have :=IS.o;omega⟩:z<w0.heap.size∧z≠x∧(Value.slice na a.length nc).ownBlock≠some z)
     have I7:=d.o.mid.trans Je fun z hz o=>(⟨o,fun e=>by
      have h1:V.heap.size≤z:=o;omega,fun e=>by
      have :=Jg z e;omega⟩:V.heap.size≤z∧z≠x∧(Value.slice na a.length nc).ownBlock≠some z)
     have z1:=xc1 IR 2 rfl;have y1:=xc1 E.blk 2 rfl;have z2:=ao IR 2;have JZ:U.heap.size≤(w5.setCell ⟨x,2,none⟩ (.slice (IQ g5 0) (a.length+1) O)).heap.size:=I7.size;have LE:=ae (And.intro JO (And.intro KI (And.intro JK (And.intro JQ (And.intro I7 JZ)))));have Lu:=ae (fun b f=>(d.o.own b f).1);have Ku:=ae d.o.lim;have JF:=ae (And.intro KU K7);clear E JI gH I3 cE JO KI JK Je Jg JQ I7 JB I8 Ja KO KU JZ
     go_wp2_with (at_builtin;refine ap rfl _ _ _ rfl rfl rfl Ke ?_;clear Ke)
     generalize w5.setCell ⟨x,2,none⟩ (.slice (IQ g5 0) (a.length+1) O)=w6 at LE⊢;obtain⟨JN,KH,JJ,gJ,JS,JY⟩:=LE.o;have kd:Same w6 w6.drew:=al (af (fun _=>True) w6);have C:=JN.keep kd (fun _ _ _=>trivial) (fun _ _ _=>trivial) (fun _ _ _=>trivial) (fun _ _ _=>trivial);have Js:=kd.at JJ trivial;have Mc:=ae (HA.o.keep (gJ.tr_same kd) fun b _ f=>f);have Mb:=ae (HB.o.keep (gJ.tr_same kd) fun b _ f=>f);have JX:gG A (Z:Int)=ac A Z:=by
      unfold gG ac inA;simp only[Int.toNat_natCast];rw[show(decide ((0:Int)≤(Z:Int))&&decide ((Z:Int)<(A.acc.length:Int)))=true by simp;exact LB.o.1];rfl
     have JW:gG B (Y:Int)=ac B Y:=by
      unfold gG ac inA;simp only[Int.toNat_natCast];rw[show(decide ((0:Int)≤(Y:Int))&&decide ((Y:Int)<(B.acc.length:Int)))=true by simp;exact LB.o.2];rfl
     have J5:=ae JX;have J4:=ae JW;have J1:=ae Ln.o;have q0:=gE t 0 (by omega);have q1:=gE t 1 (by omega);have q2:=gE t 2 (by omega);have q3:=gE t 3 (by omega);simp only[Int.reducePow,Int.pow_zero,Int.ediv_one]at q0 q1 q2 q3;have s0:IntKind.i64.wrap 0=0:=by decide
     have s1:IntKind.i64.wrap 1=1:=by decide
     have s2:IntKind.i64.wrap 2=2:=by decide
     have s3:IntKind.i64.wrap 3=3:=by decide
     have IT:Hid (eu t false false=t.testBit 0∧eu t false true=t.testBit 1∧eu t true false=t.testBit 2∧eu t true true=t.testBit 3):=ae ⟨rfl,rfl,rfl,rfl⟩;obtain⟨bz,ch⟩:∃bz,bz=eu t (ac A Z) (ac B Y):=⟨_,rfl⟩;have Ma:=ae ch;obtain⟨g7,dp,w7,Kd,fu,I2,_,_⟩:=bi (P:=Tryz.prog) w6.drew 164 164 4 Tryz.underlying164 gm rfl C.acc (show U.heap.size≤w6.drew.heap.size from JY) (.bool bz) rfl (by rw[JF.o.2];have :=H.o.lim.2;omega) (by decide);rw[JF.o.2]at Kd fu;have Ji:OwnBools w7 U.heap.size (.slice (IQ g7 0) (k+1) dp) ((L.take (k+1)).map fun p=>eu t (ac A p.1) (ac B p.2)):=by
      unfold OwnBools;rw[J1.o,←ch,List.map_append,List.length_append];simp only[List.map_cons,List.map_nil,List.length_cons,List.length_nil];rw[JF.o.2];exact fu
     have dE:=I2.at C.blk (ej C.acc (by decide) _ _ C.blk);have KF:=I2.at Js (ej C.acc (by decide) _ _ Js);have JM:=C.accNext I2 Ji;have KG:=((KH.same kd).far C.acc (by decide) (by decide) (by decide) I2).set (x:=x) (c:=1) (v:=.slice (IQ g7 0) (k+1) dp) dE;have Jf:∀b,(Value.slice aa k gI).ownBlock=some b→U.heap.size≤b:=fun b f=>(ah C.acc f).1;have Jc:Keeps (fun b=>b≠x∧(Value.slice aa k gI).ownBlock≠some b) w6.drew (w7.setCell ⟨x,1,none⟩ (.slice (IQ g7 0) (k+1) dp)):=(I2.mono fun _ _ hz=>hz.2).setCell (fun hh=>hh.2.1 rfl) _;have JP:=(gJ.tr_same kd).trans Jc fun z _ o=>(⟨o,fun e=>by
      have h1:z<w0.heap.size:=o;have :=Jn.o.2.1;omega,fun e=>by
      have h1:z<w0.heap.size:=o;have :=Jf z e;have :=IS.o;omega⟩:z<w0.heap.size∧z≠x∧(Value.slice aa k gI).ownBlock≠some z)
     have JR:=(JS.tr_same kd).trans Jc fun z hz o=>(⟨o,fun e=>by
      have h1:V.heap.size≤z:=o;omega,fun e=>by
      have :=Jf z e;omega⟩:V.heap.size≤z∧z≠x∧(Value.slice aa k gI).ownBlock≠some z)
     have Lj:Hid (BothSt w0 U (w7.setCell ⟨x,1,none⟩ (.slice (IQ g7 0) (k+1) dp)) V.heap.size x mb mm mt A B t n (k+1) L (a++[r]) I1 (.slice (IQ g7 0) (k+1) dp) (.slice (IQ g5 0) (a.length+1) O)):=ae
      {eq:=Kr.o
       len:=by simp[H.o.len]
       lim:=Ku.o
       mkr:=KG
       ot:=by rw[List.map_append];exact JM
       own:=Lu.o
       old:=JP
       mid:=JR}
     have y1:=xc1 dE 1 rfl;have y2:=ao dE 1;have aH:=ae C.blk;have I5:=ae Js;have LD:=ae dE;have LV:=ae KF;clear JN KH JJ gJ JS JY kd C Js JX JW fu Ji I2 JM KG Jf Jc JP JR dE KF z1 z2;generalize ac A Z=v1 at J5 ch;generalize ac B Y=v2 at J4 ch;clear Ma Ln J1
     cases v1
     all_goals cases v2
     all_goals
      first
       |(have f:bz=t.testBit 0:=ch.trans IT.o.1;rw[←f]at q0;clear f)
       |(have f:bz=t.testBit 1:=ch.trans IT.o.2.1;rw[←f]at q1;clear f)
       |(have f:bz=t.testBit 2:=ch.trans IT.o.2.2.1;rw[←f]at q2;clear f)
       |(have f:bz=t.testBit 3:=ch.trans IT.o.2.2.2;rw[←f]at q3;clear f)
      clear ch;refine zq0 21 (.take 0 (.take 1 (.take 2 (.take 3 (.take 4 (.take 5 (.take 9 (.take 10 (.take 11 (.one 6 (.one 7 (.take 8 (.one 12 (.one 13 (.take 14 (.take 15 (.take 16 (.take 17 (.one 18 (.one 19 (.take 20 .last))))))))))))))))))))) (fun X=>X.heap[x]?=(IC A.T aa k gI (IQ g5 0) (a.length+1) O)∧X.heap[pb]?=(IB Z Y)) (by kernel_rfl) (by kernel_rfl) ⟨aH.o,I5.o⟩ ?_
      iterate 9 (first|(apply aC;rfl;rfl;go_simp)|(apply aB;rfl;rfl;intro X hS;have x1:=ai hS.1 1;have c0:=ai hS.2 0;have c1:=ai hS.2 1;simp only[List.getElem?_toArray,List.getElem?_cons_zero,List.getElem?_cons_succ]at x1 c0 c1;go_simp;exact rfl;go_simp))
      refine aI (ay rfl rfl fun K y=>?_);go_simp;refine eU Mc.o (Z:Int) ?_;rintro e rfl;rw[J5.o];refine y _ _ _ ⟨aH.o,I5.o⟩ (fun _ h=>h) ?_;clear y K;refine aI (ay rfl rfl fun K y=>?_);go_simp;refine yl _ ?_;rintro e rfl
      (try simp only[Bool.false_eq_true,reduceIte])
      refine y _ _ _ ⟨aH.o,I5.o⟩ (fun _ h=>h) ?_;clear y K
      iterate 1 (first|(apply aC;rfl;rfl;go_simp)|(apply aB;rfl;rfl;intro X hS;go_simp;exact rfl;go_simp))
      refine aI (ay rfl rfl fun K y=>?_);go_simp;refine eU Mb.o (Y:Int) ?_;rintro e rfl;rw[J4.o];refine y _ _ _ ⟨aH.o,I5.o⟩ (fun _ h=>h) ?_;clear y K;refine aI (ay rfl rfl fun K y=>?_);go_simp;refine yl _ ?_;rintro e rfl
      (try simp only[Bool.false_eq_true,reduceIte])
      refine y _ _ _ ⟨aH.o,I5.o⟩ (fun _ h=>h) ?_;clear y K
      iterate 4 (first|(apply aC;rfl;rfl;go_simp)|(apply aB;rfl;rfl;intro X hS;go_simp;exact rfl;go_simp))
      refine aI (ay rfl rfl fun K y=>?_);go_simp;refine y _ _ _ ⟨aw aH.o _,aw I5.o _⟩ (fun _ h=>h) ?_;clear y K;refine aI (bZ _ _ _ rfl rfl rfl ?hs ?hx Kd _ ⟨LD.o,LV.o⟩ (fun _ h=>h) ?_)
      case hs=>rfl
      case hx=>rfl
      clear Kd;go_simp
      iterate 1 (first|(apply aC;rfl;rfl;go_simp)|(apply aB;rfl;rfl;intro X hS;go_simp;exact rfl;go_simp))
      refine aO rfl rfl fun K y=>?_;go_simp;refine y _ _ (aG ?_);clear y K y1 y2 q0 q1 q2 q3;go_wp2_with fail;go_roundw
      case rel=>exact⟨k+1,_,_,_,_,_,by go_num,JF.o.1,Lj⟩
      case measure=>(have :=L7.o;simp[intOf];omega)
  ·obtain rfl:k=l.length:=by omega
   have Jh:(dQ A B l.length).2.length=(dQ A B l.length).1.length:=by rw[H.o.eq];exact H.o.len
   have JD:=Eu G.o J.o Jh;rw[H.o.eq]at JD;have F:=H.o.ot;rw[List.take_length]at F;have Kl:fS A B t=⟨A.T,l.map (fun p=>eu t (ac A p.1) (ac B p.2)),a.map fun r=>r.map Int.ofNat⟩:=by
    unfold fS;rw[←JD]
   have cH:AuOk (fS A B t):=Et G.o J.o t (by rw[←JD];exact Kg);have JC:=cH.bounds;rw[Kl]at JC;have LO:(l.map (fun p=>eu t (ac A p.1) (ac B p.2))).length=l.length:=List.length_map ..;obtain⟨aa,gI,Jv⟩:=av F.acc;obtain⟨na,nc,Ju⟩:=F.mat.shape;subst Jv;subst Ju;have Kw:Hid (AutoAt wr (.agg #[A.T,.slice aa (l.map (fun p=>eu t (ac A p.1) (ac B p.2))).length gI,.slice na (a.map fun r=>r.map Int.ofNat).length nc]) (fS A B t)):=ae (by
    rw[Kl];exact⟨_,_,rfl,F.acc.bools,F.mat.rows JC.2,JC.1⟩)
   obtain⟨x0,x1,x2⟩:=xc3 F.blk rfl rfl rfl;have Lw:=ae cH;have Lh:=ae H.o.old;clear Jh JD F Kl cH JC;generalize(l.map (fun p=>eu t (ac A p.1) (ac B p.2))).length=q1 at Kw x1;generalize(a.map fun r=>r.map Int.ofNat).length=q2 at Kw x2;go_wp2_with fail;refine iz Kw.o Lw.o ?_;rintro e w4 d4 rfl Ld k4;have HF:=ae (LZ.o _ w4 d4 rfl (Ld.below Lh.o.size) (Lh.o.tr_same k4));clear Ld k4;go_wp2_with fail;exact HF.o
end
section
attribute [local irreducible] wpQuiet ax au aQ
attribute [local go_sem] nG
variable {R:Ending→World→Prop} {w:World} {A:Au} {B d:Nat}
def cz (A:Au) (s:Nat):Nat:=(ff A).getD s 0
def fo (A:Au) (l:List Nat):List Int:=l.map fun s=>(cz A s:Int)
theorem uH (A:Au) (l:List Nat):fo A l=(l.map (cz A)).map Int.ofNat:=by simp[fo]
theorem xf (A:Au) (l:List Nat) (t:Nat):fo A (l++[t])=fo A l++[(cz A t:Int)]:=by simp[fo]
theorem Ar (A:Au) (l:List Nat):(fo A l).length=l.length:=by simp[fo]
theorem zW {l:List Nat} {t:Nat}:((cz A t:Nat):Int)∈fo A l↔cz A t∈l.map (cz A):=by
 rw[uH,List.mem_map];constructor
 ·rintro⟨y,a,e⟩;rwa [show cz A t=y by simp only[Int.ofNat_eq_natCast]at e;omega]
 ·intro h;exact⟨_,h,rfl⟩
theorem Az {l:List Nat} {t:Nat}:(fo A l).idxOf ((cz A t:Nat):Int)=(l.map (cz A)).idxOf (cz A t):=by
 rw[uH];exact mL Int.ofNat fun y _ e=>by simp only[Int.ofNat_eq_natCast]at e;omega
theorem tN (l:List Nat) (ts:List Nat) (j:Nat):(aT (cz A) l (ts.take j)).1<+:(aT (cz A) l ts).1:=by
 conv=>rhs;rw[←List.take_append_drop j ts]
 unfold aT;rw[List.foldl_append];exact mf _ _ _
theorem my (A:Au) (k:Nat):bfs (bS A) (cz A) 0 k=bfs (bS A) (fun s=>(ff A).getD s 0) 0 k:=rfl
theorem DS {k s:Nat} {l:List Nat} {a:List (List Nat)} (b:bfs (bS A) (cz A) 0 k=(l,a)) (ho:a.length=k) (hs:l[k]?=some s):
 bfs (bS A) (cz A) 0 (k+1)=((aT (cz A) l (bS A s)).1,a++[(aT (cz A) l (bS A s)).2]):=by
 show el (bS A) (cz A) (bfs (bS A) (cz A) 0 k)=_
 rw[b];unfold el;simp only[ho,hs]
theorem wh {l ts:List Nat} {t:Nat} (h:cz A t∈(aT (cz A) l ts).1.map (cz A)):aT (cz A) l (ts++[t])=((aT (cz A) l ts).1,(aT (cz A) l ts).2++[((aT (cz A) l ts).1.map (cz A)).idxOf (cz A t)]):=by
 rw[eV];unfold eL;rw[if_pos h]
theorem zk {l ts:List Nat} {t:Nat} (h:cz A t∉(aT (cz A) l ts).1.map (cz A)):aT (cz A) l (ts++[t])=((aT (cz A) l ts).1++[t],(aT (cz A) l ts).2++[(aT (cz A) l ts).1.length]):=by
 rw[eV];unfold eL;rw[if_neg h,List.idxOf_eq_length h,List.length_map]
theorem Bp (A:Au):(ff A).length=A.acc.length:=dk A _
theorem MnSt.auto {W m x:Nat} {e wr:World} {f vr c b:Value} {K l r:List Int} (h:MnSt W m x e wr f vr c b A.T K l r A.acc A.next) (a:AuOk A):AutoAt wr (.agg #[A.T,c,b]) A:=by
 obtain⟨vs,h1,h2,k⟩:=h.mat;exact⟨c,b,rfl,OwnBools.bools h.accs,OwnMat.rows ⟨vs,h1,h2,fun i u q g j=>(k i u q g j).1⟩ a.bounds.2,a.bounds.1⟩
theorem Ce (h:DFAAt w B d A) (hR:∀e w' d',e=.returned (.tuple (Ia (IL d') 0))→DFAAt w' w.heap.size d' (dV A)→Same w w'→R e w'):
 Calls Tryz.prog 108 #[.pointer (IQ d 0)] w R:=by
 have HR:=ae hR;clear hR;have J:=ae h.ok;have Jp:0<A.acc.length:=h.ok.1.2.2.1;have KM:A.acc.length≤400:=h.ok.1.2.2.2.1;have Kq:=ae h.ok.1.2.2.2.2;have J0:=ae (fp (show A.T.toNat≤6 by have :=h.ok.1.1;have :=h.ok.1.2.1;omega));have H:=ae h;have I0:=ae (Bp A);have Kl:Hid (∀y∈(ff A).map Int.ofNat,aK y):=ae (lW fun y hy=>by have :=oe A _ y hy;omega);have IS:=@run_makeMap Tryz.prog;have Kr:=ae IS;clear h IS;go_enter Tryz.func108,Tryz.ntmps108;go_wp2_with fail;refine wN H.o ?_;rintro e w1 uc rfl o1 k1;have JN:=o1.ints Kl.o;obtain⟨ca,cc,rfl,JS,JR,X⟩:=JN.open;rw[List.length_map,I0.o]at JS⊢;unfold maxLen at JR;have J4:=ae k1;have J6:Hid (∀s,s<A.acc.length→∃b off,ca=some ⟨b,off,none⟩∧∀t,t<A.acc.length→w1.cell? ⟨b,off+t,none⟩=some (.int .i64 (cz A t:Int))):=ae fun s hs=>by
  obtain⟨b,off,e,_,I⟩:=X s (by rw[List.length_map,I0.o];exact hs);refine⟨b,off,e,fun t ht=>?_⟩;have Ke:t<((ff A).map Int.ofNat).length:=by rw[List.length_map,I0.o];exact ht
  have h2:=I t Ke;rw[List.getElem_map]at h2;rw[h2];unfold cz;rw[List.getD_eq_getElem?_getD,List.getElem?_eq_getElem (show t<(ff A).length by rw[I0.o];exact ht)];rfl
 clear o1 k1 JN X;go_wp2_with fail;refine mh (H.o.same J4.o) ?_;rintro e F v2 rfl o2 k2;obtain⟨va,vn,rfl,_,om⟩:=o2;obtain⟨na,nc,rfl⟩:=om.shape;have Km:=ae (om.rows J.o.bounds.2);have JC:=ae (J4.o.tr k2);have Je:=ae k2;obtain⟨cb,KG,rfl,JU⟩:=J6.o 0 Jp;have hz:=ak k2 (JU 0 Jp) trivial;rw[Nat.add_zero]at hz;have Kc:=dt hz (.map #[] 0);have IS:=Kr.o;clear om k2 JU hz;obtain⟨L,KK,m4,k4⟩:=aR uI Tryz.underlying220 (A:=([]:List (Int×Value))) (w:=F.alloc (.map #[] 0)) (m:=F.heap.size) ⟨#[],0,ag F _,rfl⟩ (cz A 0:Int) IU rfl;go_wp2_with fail;have Jh:Same F L:=((af (fun _=>True) F).alloc (.map #[] 0)).trans k4 fun b hb _=>⟨trivial,by omega⟩;have Kb:F.heap.size+1≤L.heap.size:=by
  have :=k4.size;simp at this;omega
 refine dB (H.o.same (JC.o.tr (Jh.alloc Hn))) ?_;rintro e rfl;go_wp2_with fail;have Jg:Same L ((L.alloc Hn).alloc (Ij A.T none 0 0 none 0 0)):=((af _ L).alloc _).alloc _;have a:MnSt F.heap.size F.heap.size (L.heap.size+1) F ((L.alloc Hn).alloc (Ij A.T none 0 0 none 0 0)) (.slice (IQ L.heap.size 0) 1 1) IM IM IM A.T (fo A [0]) ([0]:List Int) [] [] []:=by
  have h1:=aw (ag L Hn) (Ij A.T none 0 0 none 0 0);have h2:=ag (L.alloc Hn) (Ij A.T none 0 0 none 0 0);rw[show(L.alloc Hn).heap.size=L.heap.size+1 by simp]at h2;exact⟨m4.keep Jg trivial,RowIn.own (l:=[0]) h1 (by omega) rfl (by decide),World.ownsRow_nil _ _ _ _,fun b hb=>by simp[Value.ownBlock]at hb,h2,World.ownsRow_nil _ _ _ _,⟨[],World.ownsRow_nil _ _ _ _,rfl,fun i u q hu=>by simp at hu⟩,Jh.tr Jg,rfl,Nat.le_refl _,by omega⟩
 generalize(L.alloc Hn).alloc (Ij A.T none 0 0 none 0 0)=w6 at a⊢;generalize L.heap.size+1=x at a⊢;generalize L.heap.size=g0 at a⊢;obtain⟨W,hW⟩:∃W,W=F.heap.size:=⟨_,rfl⟩;rw[←hW]at a⊢;have HW:=ae hW;generalize Jq:W=m at a⊢;have J1:=ae Jq;have Kk:Hid (MnSt W m x F w6 (.slice (IQ g0 0) 1 1) IM IM IM A.T (fo A [0]) [0] [] [] []):=ae (by rw[Jq];exact a);clear a Jh Jg Kb k4 m4 hW Jq IS Kc
 go_loopw [7,9] (fun u i wr=>∃(k:Nat) (l:List Nat) (f:List (List Nat)) (ua vn:Value),i=.int .i64 k∧k≤l.length∧l.length≤A.acc.length∧f.length=k∧Hid (bfs (bS A) (cz A) 0 k=(l,f))∧Hid (MnSt W m x F wr u IM ua vn A.T (fo A l) (l.map Int.ofNat) [] ((l.take k).map (ac A)) (f.map fun r=>r.map Int.ofNat))) (fun _ i _=>A.acc.length -(intOf i).toNat)
 case atStart=>exact⟨0,[0],[],_,_,rfl,Nat.zero_le _,Jp,rfl,rfl,Kk.o⟩
 case round=>
  obtain⟨k,l,f,ua,Y,rfl,hk,KN,Jn,aH,a⟩:=hrel;obtain⟨la,lc,rfl⟩:∃la lc,u7=.slice la l.length lc:=by simpa using a.o.lown.shape
  have IW:∀s∈l,s<A.acc.length:=fun s hs=>by
   have :=yA J.o k s;rw[←my,aH.o]at this;exact this hs
  have Jr:∀y∈l.map Int.ofNat,aK y:=lW fun y hy=>by have :=IW y hy;omega
  by_cases IT:k<l.length
  ·obtain⟨s,hs⟩:∃s,l[k]?=some s:=⟨_,List.getElem?_eq_getElem IT⟩;have JF:=IW s (List.mem_of_getElem? hs);have gI:s<A.next.length:=by rw[Kq.o];exact JF
   obtain⟨_,_,e1,_,Kj,dE⟩:=(a.o.lown.ints Jr).open;simp only[Value.slice.injEq,List.length_map]at e1;obtain⟨rfl,_,rfl⟩:=e1;have Jt:k<(l.map Int.ofNat).length:=by simpa using IT
   obtain⟨lb,KC,rfl,_,I⟩:=dE k Jt;have JQ:=I k Jt;have JK:(l.map Int.ofNat)[k]=(s:Int):=by
    simp only[List.getElem_map];rw[(List.getElem?_eq_some_iff.1 hs).2];rfl
   rw[JK]at JQ;obtain⟨_,_,e2,_,Kd,I6⟩:=Km.o.open;simp only[Value.slice.injEq,true_and]at e2;obtain⟨rfl,rfl⟩:=e2;unfold maxLen at Kd;obtain⟨nb,Kz,rfl,_,JJ⟩:=I6 s gI;obtain⟨ru,JH,Jk⟩:=JJ s gI;have Z:=J.o.2 _ (List.getElem_mem gI);have Jo:∀c,c<2^A.T.toNat→(A.next[s])[c]?=some (nx A s c:Int):=fun c hc=>by
    have I:c<(A.next[s]).length:=by rw[Z.1];exact hc
    have hb:=Z.2 _ (List.getElem_mem I);rw[List.getElem?_eq_getElem I];unfold nx;simp only[List.getD_eq_getElem?_getD,List.getElem?_eq_getElem gI,Option.getD_some,List.getElem?_eq_getElem I];rw[Int.toNat_of_nonneg hb.1]
   generalize A.next[s]=row at Jk Z Jo
   obtain⟨ra,rc,rfl,_,Kg,I4⟩:=Jk.open;unfold maxLen at Kg Kj;have KJ:row.length≤64:=by rw[Z.1];exact J0.o
   have JG:=ak a.o.keep JH trivial;have Ko:=ae I4;have JZ:=ae Z.1;have Kp:=ae Jo;have Kv:=ae aH.o;have HS:=ae a.o;have JY:=ae hs;have I2:=ae Jn;clear a aH hs dE I Jt JK I6 JJ JH Jk Z Jo I4 Jr IW Jn;go_wp2_with fail;clear JQ JG
   go_loopw [7,10,45] (fun u vr i wr=>∃(j:Nat),i=.int .i64 j∧j≤row.length∧Hid (MnSt W m x F wr u vr ua Y A.T (fo A (aT (cz A) l ((bS A s).take j)).1) ((aT (cz A) l ((bS A s).take j)).1.map Int.ofNat) ((aT (cz A) l ((bS A s).take j)).2.map Int.ofNat) ((l.take k).map (ac A)) (f.map fun r=>r.map Int.ofNat))) (fun _ _ i _=>row.length -(intOf i).toNat)
   case atStart=>exact⟨0,rfl,Nat.zero_le _,HS.o⟩
   case round=>
    obtain⟨j,rfl,hj,a⟩:=hrel;obtain⟨o,p⟩:∃o,o=(aT (cz A) l ((bS A s).take j)).1:=⟨_,rfl⟩;obtain⟨r2,n⟩:∃r2,r2=(aT (cz A) l ((bS A s).take j)).2:=⟨_,rfl⟩;rw[←p,←n]at a;have ce:l<+:o:=by rw[p];exact gr _ _ _
    have dZ:=DS Kv.o I2.o JY.o;have JL:o.length≤A.acc.length:=by
     have h1:=rV J.o (k+1);rw[←my,dZ]at h1;have h2:=(tN (A:=A) l (bS A s) j).length_le;rw[←p]at h2;exact Nat.le_trans h2 h1
    have KE:r2.length≤64:=by
     have Kf:∀(l ts:List Nat),(aT (cz A) l ts).2.length=ts.length:=fun l ts=>by
      induction ts using gq with
      |h0=>rfl
      |h1 ts t ih=>rw[eV];unfold eL;simp[ih]
     rw[n,Kf,List.length_take];omega
    obtain⟨Ji,aL,rfl⟩:∃Ji aL,u7=.slice Ji o.length aL:=by simpa using a.o.lown.shape
    obtain⟨JE,JD,rfl⟩:∃JE JD,u10=.slice JE r2.length JD:=by simpa using a.o.rown.shape
    have fw:=ae a.o;have KP:=ae p;have KO:=ae n;have Jd:=ae ce;have KQ:=ae dZ;by_cases Ju:j<row.length
    ·have Jv:j<2^A.T.toNat:=by rw[←JZ.o];exact Ju
     have Jj:=Kp.o j Jv;have JB:Hid ((bS A s).take (j+1)=(bS A s).take j++[nx A s j]):=ae (by
      have JM:j<(bS A s).length:=by rw[eW];exact Jv
      rw[List.take_succ_eq_append_getElem JM];have :=fE (A:=A) (s:=s) Jv;rw[List.getElem?_eq_getElem JM]at this;rw[Option.some.inj this])
     have gH:=ep J.o s j;obtain⟨rb,Kx,rfl,_,G⟩:=Ko.o j Ju;have G:=G j Ju;rw[(List.getElem?_eq_some_iff.1 Jj).2]at G;have JI:rb≠m:=fun e=>by
      have h2:=World.block_lt_of_cell? F _ G;have h1:=J1.o;have h4:=HW.o;simp only at h2;omega
     have G:=ak a.o.keep G trivial;generalize nx A s j=t at Jj JB gH G;obtain⟨_,_,e3,Jw⟩:=J6.o t gH;simp only[Option.some.injEq,Addr.mk.injEq,and_true]at e3;obtain⟨rfl,rfl⟩:=e3;have Ki:=ak (Je.o.tr a.o.keep) (Jw t gH) trivial;have JT:cb≠m:=fun e=>by
      have h1:=J1.o;have h2:=World.block_lt_of_cell? w1 _ (Jw t gH);have h3:=Je.o.size;have h4:=HW.o;simp only at h2;omega
     have cE:=a.o.look ((cz A t:Nat):Int);have hM:=zW (A:=A) (l:=o) (t:=t);have hX:=Az (A:=A) (l:=o) (t:=t);clear a Jj Jw ce dZ;by_cases U:cz A t∈o.map (cz A)
     ·rw[if_pos (hM.2 U),decide_eq_true (hM.2 U),hX]at cE;obtain⟨g,cap,w7,O,C⟩:=fw.o.pushR (((o.map (cz A)).idxOf (cz A t):Nat):Int) (by simp;omega);rw[List.length_map]at O C;have N:=wh (A:=A) (l:=l) (ts:=(bS A s).take j) (t:=t) (by rw[←p];exact U);rw[←p,←n,←JB.o]at N;have HF:Hid (MnSt W m x F w7 (.slice Ji o.length aL) (.slice (IQ g 0) (r2.length+1) cap) ua Y A.T (fo A (aT (cz A) l ((bS A s).take (j+1))).1) ((aT (cz A) l ((bS A s).take (j+1))).1.map Int.ofNat) ((aT (cz A) l ((bS A s).take (j+1))).2.map Int.ofNat) ((l.take k).map (ac A)) (f.map fun r=>r.map Int.ofNat)):=ae (by
       rw[N]
       simpa using C)
      clear C N U hM hX p n
      go_wp2_with (at_builtin;refine ap rfl _ _ _ rfl rfl rfl O ?_;clear O)
      go_roundw
      case rel=>exact⟨j+1,by go_num,by omega,HF.o⟩
      case measure=>simp[intOf];omega
     ·have IR:((cz A t:Nat):Int)∉fo A o:=fun h=>U (hM.1 h);rw[if_neg IR,decide_eq_false IR]at cE;obtain⟨w5,If,E,k5⟩:=fw.o.put IR (z:=(o.length:Int)) (by rw[Ar]);obtain⟨KF,KD⟩:=xk2 k5 Ki G JT JI;obtain⟨g6,JX,KH,Jm,bL⟩:=E.pushL (t:Int) (by simp;omega);rw[List.length_map]at Jm bL;obtain⟨g,cap,w7,O,C⟩:=bL.pushR (o.length:Int) (by simp;omega);rw[List.length_map]at O C;have N:=zk (A:=A) (l:=l) (ts:=(bS A s).take j) (t:=t) (by rw[←p];exact U);rw[←p,←n,←JB.o]at N;have HF:Hid (MnSt W m x F w7 (.slice (IQ g6 0) (o.length+1) JX) (.slice (IQ g 0) (r2.length+1) cap) ua Y A.T (fo A (aT (cz A) l ((bS A s).take (j+1))).1) ((aT (cz A) l ((bS A s).take (j+1))).1.map Int.ofNat) ((aT (cz A) l ((bS A s).take (j+1))).2.map Int.ofNat) ((l.take k).map (ac A)) (f.map fun r=>r.map Int.ofNat)):=ae (by
       rw[N]
       simpa [xf]using C)
      clear E bL C N U IR hM hX p n k5
      go_wp2_with (at_builtin;first|(refine ap rfl _ _ _ rfl rfl rfl Jm ?_;clear Jm)|(refine ap rfl _ _ _ rfl rfl rfl O ?_;clear O))
      go_roundw
      case rel=>exact⟨j+1,by go_num,by omega,HF.o⟩
      case measure=>simp[intOf];omega
    ·obtain rfl:j=row.length:=by omega
     have a8:(bS A s).take row.length=bS A s:=List.take_of_length_le (by rw[eW,JZ.o];exact Nat.le_refl _);rw[a8]at p n;have Jb:bfs (bS A) (cz A) 0 (k+1)=(o,f++[r2]):=by rw[p,n];exact dZ
     obtain⟨g,cap,w5,If,Jy,E⟩:=fw.o.outNext (by rw[List.length_map,I2.o];omega);have I5:(f.map fun r=>r.map Int.ofNat).length=k:=by rw[List.length_map,I2.o]
     rw[I5]at If E;obtain⟨KI,rfl⟩:∃J8,Y=J8:=⟨_,rfl⟩;have y0:=xc1 fw.o.blk 0 rfl;have y2:=xc1 fw.o.blk 2 rfl;have z2:=xc1 Jy 2 rfl;have z3:=ao Jy 2;have I1:=ae E;have Jf:=ae Jb;clear a E ce dZ Jb a8 p n Jy I5
     go_wp2_with (at_builtin;refine ap rfl _ _ _ rfl rfl rfl If ?_;clear If)
     have I8:∀y∈o.map Int.ofNat,aK y:=lW fun y hy=>by
      have h1:=yA J.o (k+1) y;rw[←my,Jf.o]at h1;have :=h1 hy;omega
     have gJ:o[k]?=some s:=by
      obtain⟨u,hu⟩:=Jd.o;rw[←hu,List.getElem?_append_left IT];exact JY.o
     have I9:k<o.length:=(List.getElem?_eq_some_iff.1 gJ).1;generalize w5.setCell ⟨x,2,none⟩ (.slice (IQ g 0) (k+1) cap)=wz at I1⊢;obtain⟨_,_,e4,_,Kh,V⟩:=(I1.o.lown.ints I8).open;simp only[Value.slice.injEq,List.length_map]at e4;obtain⟨rfl,_,rfl⟩:=e4;have dp:k<(o.map Int.ofNat).length:=by simpa using I9
     obtain⟨M,v,rfl,_,JO⟩:=V k dp;have JP:=JO k dp;have Ja:(o.map Int.ofNat)[k]=(s:Int):=by
      simp only[List.getElem_map];rw[(List.getElem?_eq_some_iff.1 gJ).2];rfl
     rw[Ja]at JP;unfold maxLen at Kh;have cH:(Value.slice (IQ M v) o.length aL).ownBlock=some M:=jr (by
      obtain⟨q,hq⟩:∃q,o.length=q+1:=⟨o.length -1,by omega⟩;rw[hq];rfl)
     have kd:Same wz wz.drew:=al (af (fun _=>True) wz);have D:=I1.o.same kd;have hS0:wz.drew.heap[x]?=some (.cells #[A.T,ua,.slice (IQ g 0) (k+1) cap] 166)∧wz.drew.cell? ⟨M,v+k,none⟩=some (.int .i64 (s:Int)):=⟨D.blk,ak kd JP trivial⟩;have JV:((l.take k).map (ac A)).length=k:=by rw[List.length_map,List.length_take];omega
     obtain⟨ga,Jc,w8,Jl,IZ,k8,I3⟩:=D.outAcc (ac A s) (by omega);have JA:w8.heap[x]?=some (.cells #[A.T,ua,.slice (IQ g 0) (k+1) cap] 166)∧w8.cell? ⟨M,v+k,none⟩=some (.int .i64 (s:Int)):=⟨IZ,ak k8 hS0.2 fun e=>iL D.accs D.lown (by decide) M e cH⟩;obtain⟨Ka,J9,rfl⟩:=av D.accs;have Kt:=ae (H.o.same ((JC.o.tr I1.o.keep).tr kd));have J7:=ae (vJ JF);have J5:Hid (MnSt W m x F (w8.setCell ⟨x,1,none⟩ (.slice (IQ ga 0) (((l.take k).map (ac A)).length+1) Jc)) (.slice (IQ M v) o.length aL) IM (.slice (IQ ga 0) (((l.take k).map (ac A)).length+1) Jc) (.slice (IQ g 0) (k+1) cap) A.T (fo A o) (o.map Int.ofNat) [] ((o.take (k+1)).map (ac A)) ((f++[r2]).map fun r=>r.map Int.ofNat)):=ae (by
      have e5:(o.take (k+1)).map (ac A)=(l.take k).map (ac A)++[ac A s]:=by
       obtain⟨u,hu⟩:=Jd.o;rw[List.take_succ_eq_append_getElem I9,List.map_append,(List.getElem?_eq_some_iff.1 gJ).2,←hu,List.take_append_of_le_length (Nat.le_of_lt IT)];rfl
      rw[e5,List.map_append,List.map_singleton];exact I3)
     rw[JV]at J5 Jl hS0 JA;clear I3 V JO dp Ja gJ I8 D cH k8 y0 y2 z2 z3;refine zq0 11 (.take 0 (.take 1 (.take 2 (.take 3 (.take 4 (.take 5 (.take 6 (.one 7 (.one 8 (.one 9 (.take 10 .last))))))))))) (fun w'=>w'.heap[x]?=(IC A.T Ka k J9 (IQ g 0) (k+1) cap)∧w'.cell? ⟨M,v+k,none⟩=some (.int .i64 (s:Int))) (by kernel_rfl) (by kernel_rfl) hS0 ?_
     iterate 7 (first|(apply aC;rfl;rfl;go_simp)|(apply aB;rfl;rfl;intro w' hS;have q1:=ai hS.1 1;have q2:=hS.2;simp only[List.getElem?_toArray,List.getElem?_cons_zero,List.getElem?_cons_succ]at q1;go_simp;exact rfl;go_simp))
     refine aI (ay rfl rfl fun K fu=>?_);go_simp;refine eU Kt.o _ ?_;rintro e rfl;rw[J7.o];refine fu _ _ _ hS0 (fun _ h=>h) ?_;clear fu K;refine aI (ay rfl rfl fun K fu=>?_);go_simp;refine fu _ _ _ ⟨aw hS0.1 _,dt hS0.2 _⟩ (fun _ h=>h) ?_;clear fu K;refine aI (bZ _ _ _ rfl rfl rfl ?hs ?hx Jl _ JA (fun _ h=>h) ?_)
     case hs=>rfl
     case hx=>rfl
     clear Jl;go_simp
     iterate 1 (first|(apply aC;rfl;rfl;go_simp)|(apply aB;rfl;rfl;intro w' hS;go_simp;exact rfl;go_simp))
     have z1:=xc1 IZ 1 rfl;have z2:=ao IZ 1;clear hS0 JA kd;refine aO rfl rfl fun K hK=>?_;go_simp;refine hK _ _ (aG ?_);clear hK K z1 z2 IZ;go_wp2_with fail;have Js:o.length≤A.acc.length:=JL;go_roundw
     case rel=>exact⟨k+1,o,f++[r2],_,_,by go_num,by omega,Js,by simp[I2.o],Jf.o,J5.o⟩
     case measure=>simp[intOf];omega
  ·obtain rfl:k=l.length:=by omega
   have I7:nQ A=(l,f):=by
    rw[←EP J.o (k:=l.length) (by rw[←my,aH.o];exact Jn),←my];exact aH.o
   have Jz:dV A=⟨A.T,l.map (ac A),f.map fun r=>r.map Int.ofNat⟩:=by unfold dV;rw[I7]
   have ch:=FN J.o;have fd:AutoAt wr (.agg #[A.T,ua,Y]) (dV A):=by
    have h1:=a.o;rw[List.take_length]at h1;have h2:MnSt W m x F wr (.slice la l.length lc) IM ua Y (dV A).T (fo A l) (l.map Int.ofNat) [] (dV A).acc (dV A).next:=by rw[Jz];exact h1
    have h3:=h2.auto ch;rw[show(dV A).T=A.T by rw[Jz]]at h3;exact h3
   have Kw:=ae fd;have J2:=ae ch;obtain⟨y0,y1,y2⟩:=xc3 a.o.blk rfl rfl rfl;have J3:=ae (JC.o.tr a.o.keep);clear a aH I7 Jz ch fd IW Jr;go_wp2_with fail;refine iz Kw.o J2.o ?_;rintro e w9 d9 rfl JW k9;have Ku:=ae (JW.below J3.o.size);have Ks:=ae (J3.o.tr k9);clear JW k9 y0 y1 y2;go_wp2_with fail;exact HR.o _ _ d9 rfl Ku.o Ks.o
end
section
attribute [local irreducible] wpQuiet ax au aQ
variable {R:Ending→World→Prop} {w:World} {B x:Nat} {T:Int} {u vn:Value} {acc:List Bool} {rows:List (List Int)}
theorem EM {o:AOp} {N s t:Nat} {a b c:Bool} (hs:s<fY o N+1) (h:gA o N s a b c=some t):t≤fY o N:=by
 cases o<;>simp only[gA,fY]at h hs⊢<;>(repeat' split at h)<;>simp at h<;>omega
theorem BV (o:AOp) (N A B C s l:Nat):nxO o N A B C s l<fY o N+2:=by
 unfold nxO
 split
 ·rename_i hs
  cases h:gA o N s (l.testBit A) (l.testBit B) (l.testBit C)with
  |none=>simp
  |some t=>have :=EM hs h;simp;omega
 ·omega
theorem yF (o:AOp) {N:Nat} (a:N≤20):fY o N≤21:=by cases o<;>simp only[fY]<;>omega
theorem Aa {o:AOp} {N A B C n:Nat} (c:N≤20) (d:n≤6):AuOk (ew o N A B C n):=by
 have :=yF o c;refine⟨⟨by simp[ew],by simp[ew];omega,by simp[ew],by simp[ew];omega,by simp[ew]⟩,fun l b=>?_⟩;obtain⟨s,hs,rfl⟩:=List.mem_map.1 b;refine⟨by simp[ew],fun y a=>?_⟩;obtain⟨l,_,rfl⟩:=List.mem_map.1 a;have :=BV o N A B C s l;simp[ew];omega
theorem ToIn.stepA {f:World} {i:Value} {d:List Bool} (h:ToIn w B x T u vn acc rows) (k:Keeps (fun b=>u.ownBlock≠some b) w f) (o:OwnBools f B i d):ToIn (f.setCell ⟨x,1,none⟩ i) B x T i vn d rows:=by
 have hx:u.ownBlock≠some x:=fun e=>by
  obtain⟨_,g,c⟩:=ah h.acc e;rw[h.blk]at c;simp at c
 have l:=k.at h.blk hx;have n:Keeps (·≠x) f (f.setCell ⟨x,1,none⟩ i):=(af (·≠x) f).setCell (fun r=>r.2 rfl) _;have q:OwnMat f B vn rows:=h.mat.keepT k fun b g e c a s p=>by
  obtain⟨_,t,m⟩:=ah h.acc p;rw[c]at m;simp only[Option.some.injEq,Obj.cells.injEq]at m;obtain⟨_,rfl,_⟩:=m;rcases a with a|a<;>exact absurd a (by decide)
 refine⟨by rw[aj l];simp,h.low,ar o n fun b j=>?_,q.keepT n fun b g e c a _=>?_⟩
 ·rintro rfl;obtain⟨_,v,h1⟩:=ah o j;rw[l]at h1;simp at h1
 ·rintro rfl;rw[l]at c;simp only[Option.some.injEq,Obj.cells.injEq]at c;obtain⟨_,rfl,_⟩:=c;rcases a with a|a<;>exact absurd a (by decide)
theorem ToIn.auto {A:Au} (h:ToIn w B x T u vn acc rows) (e:A.T=T) (d:A.acc=acc) (a:A.next=rows) (c:aK T) (b:∀l∈rows,∀y∈l,aK y):AutoAt w (.agg #[T,u,vn]) A:=by
 subst e;subst d;subst a;exact⟨u,vn,rfl,h.acc.bools,h.mat.rows b,c⟩
theorem DR {p l v:Nat} (f:w.cell? ⟨p,0,none⟩=some (.int .i64 (l:Int))) (g:l<64) (hv:v≤6) (b:∀e a,e=.returned (.bool (l.testBit v))→Same w a→R e a):
 Calls Tryz.prog 214 #[IP v,.pointer (IQ p 0)] w R:=by
 have d:=ae b;clear b;have c:=gE l v (by omega);go_enter Tryz.func214,Tryz.ntmps214;go_wp2_with fail;exact d.o _ _ rfl (af _ _)
theorem td (a:Array Value) (w:World):(callFunc 214 a).run Tryz.prog w=.ok (.enter 214 a) w:=by kernel_rfl
end
section
attribute [local irreducible] wpQuiet ax au aQ
variable {R:Ending→World→Prop} {w:World}
def rM (o:AOp) (N A B C n s:Nat):List Int:=(List.range (2^n)).map fun l=>(nxO o N A B C s l:Int)
def rN (o:AOp) (N A B C s k:Nat):List Int:=(List.range k).map fun l=>(nxO o N A B C s l:Int)
theorem zl (o:AOp) (N A B C s k:Nat):rN o N A B C s (k+1)=rN o N A B C s k++[(nxO o N A B C s k:Int)]:=by simp[rN,List.range_succ]
theorem oG (o:AOp) (N A B C s k:Nat):(rN o N A B C s k).length=k:=by simp[rN]
theorem xT {o:AOp} {A B C N n h:Nat} {ka:Option Addr} {kc:Nat} (hN:N≤20) (hn:n≤6) (hA:A≤6) (hB:B≤6) (hC:C≤6) (hF:aE o A B C N n 0)
 (hv:CoreIn w h (Ib o.name A B C N ka 0 kc))
 (hR:∀e w' d,e=.returned (.tuple (Ia (IL d) 0))→DFAAt w' w.heap.size d (dV (ew o N A B C n))→Same w w'→R e w'):
 Calls Tryz.prog 161 (Ia (Ib o.name A B C N ka 0 kc) n) w R:=by
 have HR:=ae hR;clear hR;have HF:=ae (show 0≤(n:Int)∧(n:Int)≤6∧aE o A B C N n 0 from⟨by omega,by omega,hF⟩);have Ja:=sal w (Hu o.name A B C N ka 0 kc);have HV:=ae (CoreIn.same Ja hv);have JJ:=ae Ja;have JM:=ae (ag w (Hu o.name A B C N ka 0 kc));have JV:=ae (Aa (o:=o) (N:=N) (A:=A) (B:=B) (C:=C) (n:=n) hN hn);have J8:=td;clear hv Ja hF;go_enter Tryz.func161,Tryz.ntmps161;go_wp2_with fail;refine F8 hN ?_;rintro e w2 F caps rfl J7 IR k2;have E:=k2.at JM.o trivial;have I2:=ae E;have J1:=ae (JJ.o.tr k2);have JC:=ae (CoreIn.same k2 HV.o);have JO:=ae IR;have Js:=yF o hN;obtain⟨q0,q1,q2,q3,q4,q5⟩:=xc6 E rfl rfl rfl rfl rfl rfl;clear k2 E IR;generalize a8:fY o N=last at Js⊢;have b:=ae a8;clear a8;have km:=sal w2 (IE (.func (.func F) #[] caps) last ((last:Int)+1));have hm:=ag w2 (IE (.func (.func F) #[] caps) last ((last:Int)+1));obtain⟨q0,q1,q2,q3,q4,q5⟩:=xs6 km q0 q1 q2 q3 q4 q5;have JL:=ae (km.at I2.o trivial);have JF:=ae hm;have JX:=ae (J1.o.tr km);have IW:=ae km;go_wp2_with fail;refine F4 (CoreIn.same IW.o JC.o) ?_;rintro e M r rfl q k3;obtain rfl:r=true:=q.2 HF.o;have I1:=ae (k3.at JL.o trivial);have J:=ae (k3.at JF.o trivial);have J0:=ae (JX.o.tr k3);have JI:=ae (IW.o.tr k3);have m2:=xc1 J.o 2 rfl;clear q k3 km hm q0 q1 q2 q3 q4 q5 JL JF HV JC JM I2 JJ;have I4:=sal M (Ij n none 0 0 none 0 0);have I:Hid (ToIn (M.alloc (Ij n none 0 0 none 0 0)) M.heap.size M.heap.size (n:Int) IM IM [] []):=ae ⟨ag _ _,Nat.le_refl _,World.ownsRow_nil _ _ _ _,OwnMat.nil _ _⟩;have IZ:=ae I4;have m2:=ak I4 m2 trivial;go_wp2_with fail;generalize M.alloc _=w4 at I IZ⊢;obtain⟨W0,Je⟩:∃W0,W0=M.heap.size:=⟨_,rfl⟩;rw[←Je]at I⊢;have O:=ae Je;obtain⟨L,dZ⟩:∃L,L=W0:=⟨_,rfl⟩;have JD:Hid (ToIn w4 W0 L (n:Int) IM IM [] []):=ae (by rw[dZ];exact I.o);have J9:=ae dZ;rw[show Value.pointer (IQ W0 0)=Value.pointer (IQ L 0) by rw[dZ]];generalize w.heap.size=xc at I1⊢;generalize w2.heap.size=xm at J⊢;clear Je dZ I4 m2 I;have Jl:=go hn;have Jy:=fp hn;have JS:0<2^n:=Nat.pow_pos (by decide);have JE:Hid (∀k,rN o N A B C k (2^n)=rM o N A B C n k):=ae (fun _=>rfl);generalize Jn:2^n=p at Jl Jy JS JE;have Ka:=ae Jn;clear Jn
 go_loopw [9,10,11,12,13,34] (fun _ _ _ _ _ i wr=>∃(k:Nat) (u vn:Value),i=.int .i64 k∧k≤last+2∧Hid (ToIn wr W0 L (n:Int) u vn ((List.range k).map fun s=>decide (s=last)) ((List.range k).map fun s=>rM o N A B C n s))∧Same M wr) (fun _ _ _ _ _ i _=>last+2 -(intOf i).toNat)
 case atStart=>exact⟨0,_,_,rfl,Nat.zero_le _,JD,IZ.o⟩
 case round=>
  obtain⟨k,ua,vn,rfl,hk,a,hK⟩:=hrel;have Jh:=ae a.o;have dp:=ae hK;have I0:=ae (hK.at I1.o trivial);have IT:=ae (hK.at J.o trivial);clear a hK;by_cases J6:k<last+2
  ·obtain⟨wo,I5⟩:∃wo:World,wo=wr:=⟨_,rfl⟩;have JU:Hid (Same wo wr):=ae (by rw[I5];exact af _ _);rw[←I5]at Jh dp I0 IT;clear I5;obtain⟨Wo,Ju⟩:∃z,z=wo.heap.size:=⟨_,rfl⟩;have Jg:=ae Ju;clear Ju;go_wp2_with fail;rw[Jl,show decide ((k:Int)<(last:Int)+1+1)=true from decide_eq_true (by omega)]
   go_loopw [10,11,12,13,39] (fun u _ _ _ i wi=>∃l:Nat,i=.int .i64 l∧l≤p∧Hid (OwnInts wi Wo u (rN o N A B C k l))∧Same wo wi) (fun _ _ _ _ i _=>p -(intOf i).toNat)
   case atStart=>exact⟨0,rfl,Nat.zero_le _,ae (World.ownsRow_nil _ _ _ _),JU.o⟩
   case round=>
    obtain⟨l,rfl,hl,j,m⟩:=hrel;by_cases J4:l<p
    ·have dE:Hid (∀(W:World) (v:Int),Same wr W→v=(nxO o N A B C k l:Int)→∃g cap w',(Builtin.append_ #[41,41] 41 #[u10,.slice (IQ W.heap.size 0) 1 1]).run Tryz.prog (W.alloc (Ic v))=.ok (.slice (IQ g 0) (l+1) cap) w'∧OwnInts w' Wo (.slice (IQ g 0) (l+1) cap) (rN o N A B C k (l+1))∧Same wo w'):=ae (by
      intro W v hW hv;have aL:=oG o N A B C k l;have Y:=ar j.o hW fun _ _=>trivial;obtain⟨g,JB,JP,q,X,JR,hg,_⟩:=bi (P:=Tryz.prog) W 41 41 3 Tryz.underlying41 cC rfl Y (by rw[Jg.o];exact(m.tr hW).size) (IP v) rfl (by rw[aL];omega) (by decide);rw[aL]at q X;refine⟨g,JB,JP,q,?_,(m.tr hW).trans JR fun y hy _=>⟨trivial,fun e=>?_⟩⟩
      ·unfold OwnInts;rw[zl,List.length_append,List.map_append,aL,←hv];exact X
      ·have :=(ah Y e).1;rw[Jg.o]at this;omega)
     obtain⟨s4,c4,hu⟩:=j.o.shape;rw[oG]at hu;subst hu;have JY:=ae m;have ka:=sal wr (Ic l);have Jo:=ag wr (Ic l);have gH:=(m.tr ka).at I0.o trivial;have I7:=(m.tr ka).at IT.o trivial;have q1:=xc1 gH 1 rfl;have q2:=xc1 gH 2 rfl;have q3:=xc1 gH 3 rfl;have m0:=xc1 I7 0 rfl;have m2:=xc1 I7 2 rfl;have p0:=xc1 Jo 0 rfl;have cH:=ae ka;clear j m gH I7 Jo ka;by_cases I8:k<last+1
     ·have JW:=ae I8;have T:Hid (nxO o N A B C k l=(gA o N k (l.testBit A) (l.testBit B) (l.testBit C)).getD (last+1)):=ae (by unfold nxO;rw[b.o,if_pos I8]);go_wp2_with fail;refine aq (by kernel_rfl) (by kernel_rfl) ?_
      iterate 17 (apply wpQuiet_step;intro K hK;(first|(apply aA;rfl;go_simp)|(apply aJ;rfl;intro w' f;obtain⟨z1,z2,z3,y0,p1⟩:=xs5 f q1 q2 q3 m0 p0;go_simp;(first|exact rfl|(first|exact DR p1 (by omega) hA (fun e I3 he hk=>⟨he,f.tr hk⟩)|exact DR p1 (by omega) hB (fun e I3 he hk=>⟨he,f.tr hk⟩)|exact DR p1 (by omega) hC (fun e I3 he hk=>⟨he,f.tr hk⟩)|exact JO.o k (by rw[b.o];exact JW.o) (l.testBit A) (l.testBit B) (l.testBit C) _ _ ((JI.o.tr dp.o).tr ((JY.o.tr cH.o).tr f)) (fun e I3 he hk=>⟨he,f.tr hk⟩)));go_simp));refine hK _ ?_;clear hK K)
      apply wpQuiet_nil;intro w5 k5;have m2:=ak k5 m2 trivial;have JG:=ae (cH.o.tr k5);clear q1 q2 q3 m0 p0 k5
      cases fu:gA o N k (l.testBit A) (l.testBit B) (l.testBit C)with
      |none=>
       rw[fu]at T;clear fu;obtain⟨g,cap,w6,q,x,D⟩:=dE.o w5 ((last:Int)+1) JG.o (by rw[T.o];simp);have cE:=ae x;have G:=ae D;clear x D
       go_wp2_with (at_builtin;refine ap rfl _ _ _ rfl rfl rfl q ?_;clear q)
       go_roundw
       case rel=>exact⟨l+1,by go_num,by omega,cE,G.o⟩
       case measure=>simp[intOf];omega
      |some t=>
       rw[fu]at T;clear fu;obtain⟨g,cap,w6,q,x,D⟩:=dE.o w5 (t:Int) JG.o (by rw[T.o];simp);have cE:=ae x;have G:=ae D;have J5:((t:Int)==-1)=false:=by rw[beq_eq_false_iff_ne];omega
       clear x D
       go_wp2_with (at_builtin;refine ap rfl _ _ _ rfl rfl rfl q ?_;clear q)
       go_roundw
       case rel=>exact⟨l+1,by go_num,by omega,cE,G.o⟩
       case measure=>simp[intOf];omega
     ·have T:Hid (nxO o N A B C k l=last+1):=ae (by unfold nxO;rw[b.o,if_neg I8]);obtain⟨g,cap,w6,q,x,D⟩:=dE.o _ ((last:Int)+1) cH.o (by rw[T.o];simp);rw[show(wr.alloc (Ic l)).heap.size=wr.heap.size+1 by simp]at q;have cE:=ae x;have G:=ae D;clear q1 q2 q3 m0 p0 x D
      go_wp2_with (at_builtin;refine ap rfl _ _ _ rfl rfl rfl q ?_;clear q)
      go_roundw
      case rel=>exact⟨l+1,by go_num,by omega,cE,G.o⟩
      case measure=>simp[intOf];omega
    ·obtain rfl:l=p:=by omega
     have a:=Jh.o.same m;have gI:=ae (dp.o.tr m);have Jd:W0≤wr.heap.size:=by rw[O.o];exact gI.o.size
     have If:OwnInts wr W0 u10 (rN o N A B C k l):=aN j.o (by rw[O.o,Jg.o];exact dp.o.size);have Jm:((List.range k).map fun s=>rM o N A B C n s).length+1≤1000000:=by simp;omega
     obtain⟨g,cap,w5,I6,Z,I9,bL,_,_⟩:=a.mat.push Jd If Jm;obtain⟨s4,c4,hu⟩:=j.o.shape;rw[oG]at hu;subst hu;obtain⟨ma,mc,rfl⟩:=a.mat.shape;obtain⟨ba,bc,rfl⟩:=av a.acc;have JQ:=ai a.blk 2;have Jq:(Value.slice ma ((List.range k).map fun s=>rM o N A B C n s).length mc).ownBlock≠some L:=fun e=>by
      obtain⟨vs,h1,_⟩:=a.mat;obtain⟨_,JT,hc⟩:=ah h1 e;rw[a.blk]at hc;simp at hc
     have Jc:=I9.at a.blk Jq;have z5:=ai Jc 2;have f5:=ao Jc 2;have c:=a.step I9 Z;have aH:=a.low;have IS:Same M w5:=gI.o.trans bL fun y hy _=>⟨trivial,by rw[O.o];exact hy⟩;have Jf:Same M (w5.setCell ⟨L,2,none⟩ (.slice (IQ g 0) (((List.range k).map fun s=>rM o N A B C n s).length+1) cap)):=IS.setCell (fun hh=>absurd hh.1 (Nat.not_lt.2 (by rw[←O.o];exact aH))) _;have U:(w5.setCell ⟨L,2,none⟩ (.slice (IQ g 0) (((List.range k).map fun s=>rM o N A B C n s).length+1) cap)).heap.size=w5.heap.size:=by simp[World.setCell]
     have Jr:=Jf.at J.o trivial;have y1:=ai c.blk 1;have m1:=ai Jr 1;have Jp:(Value.slice ba ((List.range k).map fun s=>decide (s=last)).length bc).ownBlock≠some L:=fun e=>by
      obtain⟨_,JT,hc⟩:=ah c.acc e;rw[c.blk]at hc;simp at hc
     obtain⟨g2,H,w7,fd,V,fw,_,_⟩:=bi (P:=Tryz.prog) (w5.setCell ⟨L,2,none⟩ (.slice (IQ g 0) (((List.range k).map fun s=>rM o N A B C n s).length+1) cap)) 164 164 4 Tryz.underlying164 gm rfl c.acc (by rw[U];exact Nat.le_trans Jd bL.size) (.bool ((k:Int)==(last:Int))) rfl (by simp;omega) (by decide);rw[U]at fd;have Jb:=fw.at c.blk Jp;have z7:=ai Jb 1;have f7:=ao Jb 1;have ce:OwnBools w7 W0 (.slice (IQ g2 0) (((List.range k).map fun s=>decide (s=last)).length+1) H) (((List.range k).map fun s=>decide (s=last))++[((k:Int)==(last:Int))]):=by
      unfold OwnBools;rw[List.length_append,List.map_append];exact V
     have gJ:=c.stepA fw ce;have ch:=c.acc;have Jw:Same M w7:=Jf.trans fw fun y hy _=>⟨trivial,fun e=>by
      have :=(ah ch e).1;rw[O.o]at this;omega⟩
     have Jv:Same M (w7.setCell ⟨L,1,none⟩ (.slice (IQ g2 0) (((List.range k).map fun s=>decide (s=last)).length+1) H)):=Jw.setCell (fun hh=>absurd hh.1 (Nat.not_lt.2 (by rw[←O.o];exact aH))) _;have Jt:((k:Int)==(last:Int))=decide (k=last):=by
      cases h:decide (k=last)with
      |true=>have :=of_decide_eq_true h;rw[this];simp
      |false=>have :=of_decide_eq_false h;rw[beq_eq_false_iff_ne];omega
     have JK:Hid (ToIn (w7.setCell ⟨L,1,none⟩ (.slice (IQ g2 0) (((List.range k).map fun s=>decide (s=last)).length+1) H)) W0 L (n:Int) (.slice (IQ g2 0) (((List.range k).map fun s=>decide (s=last)).length+1) H) (.slice (IQ g 0) (((List.range k).map fun s=>rM o N A B C n s).length+1) cap) ((List.range (k+1)).map fun s=>decide (s=last)) ((List.range (k+1)).map fun s=>rM o N A B C n s)):=ae (by
      rw[List.range_succ,List.map_append,List.map_append];have :=gJ;rw[Jt,JE.o k]at this;exact this)
     have JH:=ae Jv;simp only[List.length_map,List.length_range,List.getElem?_toArray,List.getElem?_cons_zero,List.getElem?_cons_succ]at I6 fd JQ z5 f5 y1 m1 z7 f7 JK JH;clear a If Jm Z I9 bL Jq Jc c aH IS Jf U Jr Jp V fw Jb ce gJ ch Jw Jv Jt j m Jd
     go_wp2_with (at_builtin;first|(refine ap rfl _ _ _ rfl rfl rfl I6 ?_;clear I6)|(refine ap rfl _ _ _ rfl rfl rfl fd ?_;clear fd))
     go_roundw
     case rel=>exact⟨k+1,_,_,by go_num,by omega,JK,JH.o⟩
     case measure=>simp[intOf];omega
  ·obtain rfl:k=last+2:=by omega
   have a:=Jh.o;have JN:Hid (AutoAt wr (.agg #[n,ua,vn]) (ew o N A B C n)):=ae (by
    refine a.auto rfl ?_ ?_ (by unfold aK;omega) ?_
    ·unfold ew;rw[b.o]
    ·unfold ew;rw[b.o];rfl
    ·intro r q y hy;obtain⟨s,_,rfl⟩:=List.mem_map.1 q;obtain⟨l,_,rfl⟩:=List.mem_map.1 hy;have :=BV o N A B C s l;rw[b.o]at this;unfold aK;omega)
   obtain⟨ma,mc,rfl⟩:=a.mat.shape;obtain⟨ba,bc,rfl⟩:=av a.acc;have Jk:=ai a.blk 0;have Jj:=ai a.blk 1;have Ji:=ai a.blk 2;simp only[List.length_map,List.length_range,List.getElem?_toArray,List.getElem?_cons_zero,List.getElem?_cons_succ]at Jk Jj Ji JN;have gI:=ae (J0.o.tr dp.o);clear a;go_wp2_with fail;refine iz JN.o JV.o ?_;rintro e w6 d6 rfl JA k6;have J3:=ae JA;have G:=ae (gI.o.tr k6);clear JA k6 Jk Jj Ji;go_wp2_with fail;refine Ce J3.o ?_;rintro e w7 d7 rfl Jz k7;have J2:=ae (Jz.below G.o.size);have JZ:=ae (G.o.tr k7);clear Jz k7;go_wp2_with fail;exact HR.o _ _ d7 rfl J2.o JZ.o
end
end Go.Proofs.YtojegnbejmeehaaGreatDoor
