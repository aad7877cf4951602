/- Helpers of the proof of TopNames. -/
import Derived.Test.YtojegnbejmeehaaGreatDoorJAH
import Derived.Test.YtojegnbejmeehaaGreatDoorJAJ
namespace Go.Proofs.YtojegnbejmeehaaGreatDoor
open Go.RowKit
set_option maxRecDepth 10000
set_option maxHeartbeats 16000000
set_option linter.all false
section
variable {R:Ending→World→Prop} {w:World} {T:Nat} {L:List Nd}
theorem aG {Q:Exit→Act→World→Prop} {a:Act} {w:World} (h:Q .normal a w):NP Q .normal a w:=h
def RootsOk (T:Nat) (L:List Nd) (roots:List Int) (next:List (List Int)):Prop:=
 roots.length=next.length∧∀(i:Nat) (r:Int) (l:List Int),roots[i]?=some r→next[i]?=some l→∃k:Nat,r=(k:Int)∧k<L.length∧∀c,c<2^T→val L k c=l.getD c 0
theorem RootsOk.grow {f:List Nd} {a:List Int} {next:List (List Int)} (h:RootsOk T L a next) (hw:WF T L) (b:WF T f) (g:L<+:f):RootsOk T f a next:=by
 refine⟨h.1,fun i r l m n=>?_⟩;obtain⟨k,e,j,hv⟩:=h.2 i r l m n;exact⟨k,e,Nat.lt_of_lt_of_le j g.length_le,fun c o=>(bI hw b g c k j).trans (hv c o)⟩
theorem RootsOk.snoc {a:List Int} {next:List (List Int)} {k:Nat} {l:List Int} (h:RootsOk T L a next) (j:k<L.length) (hv:∀c,c<2^T→val L k c=l.getD c 0):RootsOk T L (a++[(k:Int)]) (next++[l]):=by
 refine⟨by simp[h.1],fun i r m b e=>?_⟩;by_cases g:i<a.length
 ·rw[List.getElem?_append_left g]at b;rw[List.getElem?_append_left (by rw[←h.1];exact g)]at e;exact h.2 i r m b e
 ·have f:i=a.length:=by
   have :=(List.getElem?_eq_some_iff.1 b).1;simp at this;omega
  subst f;rw[List.getElem?_append_right (Nat.le_refl _)]at b;rw[h.1,List.getElem?_append_right (Nat.le_refl _)]at e;simp at b e;subst b;subst e;exact⟨k,rfl,j,hv⟩
theorem eg {s:Nat} {e:TypeId} {z B n:Nat} {v:Value} {a:List Value} (h:w.ownsRow B e z v n a) (hs:StoreAt w s T L) (h1:e≠231) (h2:e≠300):∀b,v.ownBlock=some b→¬de w s b:=fun b f=>by
 obtain⟨_,g,c⟩:=ah h f;exact fI hs c h1 h2
structure DfaIn (w:World) (B d s:Nat) (va vr:Value) (T:Nat) (acc:List Bool) (L:List Nd) (roots:List Int):Prop where
 blk:w.heap[d]?=some (.cells #[va,vr,IL s] 224)
 low:B≤d
 acc:OwnBools w B va acc
 roots:OwnInts w B vr roots
 store:StoreAt w s T L
 foot:∀x,de w s x→B≤x
variable {B d s:Nat} {va vr:Value} {acc:List Bool} {roots:List Int}
theorem DfaIn.keep {S:Nat→Prop} {c:World} (h:DfaIn w B d s va vr T acc L roots) (k:Keeps S w c) (hs:∀b,B≤b→b<w.heap.size→S b):DfaIn c B d s va vr T acc L roots:=by
 have e:w.heap[s]?=c.heap[s]?:=by
  obtain⟨v,m,g,_⟩:=h.store.st;exact g.trans (k.at g (hs s (h.foot s (.inl rfl)) (am g))).symm
 refine⟨k.at h.blk (hs d h.low (am h.blk)),h.low,ar h.acc k fun b a=>?_,ar h.roots k fun b a=>?_,h.store.keep k fun b a=>hs b (h.foot b a) (pB h.store a),fun x hx=>h.foot x ((dO e.symm x).1 hx)⟩
 ·obtain⟨h1,i,f⟩:=ah h.acc a;exact hs b h1 (am f)
 ·obtain⟨h1,i,f⟩:=ah h.roots a;exact hs b h1 (am f)
theorem DfaIn.same {a:World} (h:DfaIn w B d s va vr T acc L roots) (k:Same w a):DfaIn a B d s va vr T acc L roots:=h.keep k fun _ _ _=>trivial
theorem DfaIn.grew {a:World} {b:List Nd} (h:DfaIn w B d s va vr T acc L roots) (g:Grew s w a) (c:StoreAt a s T b) (e:B≤w.heap.size):DfaIn a B d s va vr T acc b roots:=
 ⟨g.keeps.at h.blk (fI h.store h.blk (by decide) (by decide)),h.low,ar h.acc g.keeps (eg h.acc h.store (by decide) (by decide)),ar h.roots g.keeps (eg h.roots h.store (by decide) (by decide)),c,g.footB h.foot e⟩
theorem DfaIn.root {g:World} {c:Value} {a:List Int} (h:DfaIn w B d s va vr T acc L roots) (k:Keeps (fun b=>vr.ownBlock≠some b) w g) (ho:OwnInts g B c a):DfaIn (g.setCell ⟨d,1,none⟩ c) B d s va c T acc L a:=by
 have t:vr.ownBlock≠some d:=fun e=>by
  obtain⟨_,u,o⟩:=ah h.roots e;rw[h.blk]at o;simp at o
 have i:=k.at h.blk t;have ka:Keeps (fun b=>vr.ownBlock≠some b∧b≠d) w (g.setCell ⟨d,1,none⟩ c):=(k.mono (fun _ _ h=>h.1)).setCell (fun l=>l.2.2 rfl) _;have r:Keeps (·≠d) g (g.setCell ⟨d,1,none⟩ c):=(af (·≠d) g).setCell (fun l=>l.2 rfl) _;have n:∀b,de w s b→vr.ownBlock≠some b∧b≠d:=fun b i=>⟨fun e=>eg h.roots h.store (by decide) (by decide) b e i,fun e=>fI h.store h.blk (by decide) (by decide) (e▸i)⟩;have j:(g.setCell ⟨d,1,none⟩ c).heap[s]?=w.heap[s]?:=by
  obtain⟨v,m,p,_⟩:=h.store.st;exact(ka.at p (n s (.inl rfl))).trans p.symm
 refine⟨by rw[aj i];simp,h.low,ar h.acc ka fun b f=>⟨fun e=>?_,?_⟩,ar ho r fun b f=>?_,h.store.keep ka n,fun x hx=>h.foot x ((dO j x).1 hx)⟩
 ·obtain⟨_,q,h1⟩:=ah h.acc f;obtain⟨_,y,h2⟩:=ah h.roots e;rw[h1]at h2;simp at h2
 ·rintro rfl;obtain⟨_,q,h1⟩:=ah h.acc f;rw[h.blk]at h1;simp at h1
 ·rintro rfl;obtain⟨_,q,h1⟩:=ah ho f;rw[i]at h1;simp at h1
structure DFAAt (w:World) (B d:Nat) (A:Au):Prop where
 ok:AuOk A
 st:∃va vr s L roots,DfaIn w B d s va vr A.T.toNat A.acc L roots∧L.length≤127*A.acc.length∧RootsOk A.T.toNat L roots A.next
theorem DFAAt.keep {S:Nat→Prop} {c:World} {A:Au} (h:DFAAt w B d A) (k:Keeps S w c) (hs:∀b,B≤b→b<w.heap.size→S b):DFAAt c B d A:=by
 obtain⟨e,vr,s,L,a,h1,h2⟩:=h.st;exact⟨h.ok,e,vr,s,L,a,h1.keep k hs,h2⟩
theorem DFAAt.same {a:World} {A:Au} (h:DFAAt w B d A) (k:Same w a):DFAAt a B d A:=h.keep k fun _ _ _=>trivial
theorem DfaIn.below {B':Nat} (h:DfaIn w B d s va vr T acc L roots) (a:B'≤B):DfaIn w B' d s va vr T acc L roots:=
 ⟨h.blk,Nat.le_trans a h.low,aN h.acc a,aN h.roots a,h.store,fun x hx=>Nat.le_trans a (h.foot x hx)⟩
theorem DFAAt.below {B':Nat} {A:Au} (h:DFAAt w B d A) (c:B'≤B):DFAAt w B' d A:=by
 obtain⟨b,vr,s,L,a,h1,h2⟩:=h.st;exact⟨h.ok,b,vr,s,L,a,h1.below c,h2⟩
theorem RowOk.all {n:Nat} {l:List Int} (h:RowOk T n l) (a:n≤400):l.all dv=true:=by
 rw[List.all_eq_true];intro x hx;have :=h.2 x hx;unfold dv;simp;omega
theorem RowOk.bounds {n:Nat} {l:List Int} (h:RowOk T n l) (a:n≤400):∀x∈l,aK x:=fun x hx=>by
 have :=h.2 x hx;unfold aK;omega
end
section
attribute [local irreducible] au ax aQ
variable {R:Ending→World→Prop} {w:World}
theorem iz {v:Value} {A:Au} (hv:AutoAt w v A) (dZ:AuOk A) (hR:∀e N d,e=.returned (.tuple (Ia (IL d) 0))→DFAAt N w.heap.size d A→Same w N→R e N):
 Calls Tryz.prog 164 #[v] w R:=by
 have HR:=ae hR;clear hR;have HV:=ae hv;have IZ:=ae dZ;obtain⟨T,acc,next⟩:=A;obtain⟨⟨h1,h2,h3,h4,h5⟩,q⟩:=dZ;obtain⟨va,vn,rfl,z,r,hT⟩:=hv;simp only at h1 h2 h3 h4 h5 q z r hT;obtain⟨T,rfl⟩:=Int.eq_ofNat_of_zero_le h1;have I1:=ae z;obtain⟨aa,ac,rfl,Jd,I5,_⟩:=z.open;obtain⟨na,nc,rfl,Jc,I3,J⟩:=r.open;have HC:=ae J;have I7:=ae q;have H5:=ae h5;have H2:Hid (T≤6):=ae (by omega);have Y:=ae (And.intro h3 h4);have y:=ag w (Ij T aa acc.length ac na next.length nc);obtain⟨c0,c1,c2⟩:=xc3 y rfl rfl rfl;have hk:=sal w (Ij T aa acc.length ac na next.length nc);have bL:decide (AuOk ⟨(T:Int),acc,next⟩)=true:=by simpa using IZ.o
 unfold maxLen at I5 I3;obtain⟨B,IR⟩:∃B,B=w.heap.size:=⟨_,rfl⟩;have p:=ae IR;clear IR z r hT J y h1 h2 h3 h4 h5 q;go_enter Tryz.func164,Tryz.ntmps164;go_wp2_with fail;refine F7 (HV.o.same hk) ?_;rintro e E rfl k1;rw[bL];obtain⟨d0,d1,d2⟩:=xs3 k1 c0 c1 c2;have D2:=ae d2;have dp:=ae (hk.tr k1);clear c0 c1 c2 hk k1 bL d2;go_wp2_with fail;refine az (.take 0 (.take 1 (.take 3 (.take 4 (.one 2 (.one 5 (.take 6 (.one 7 (.take 8 .done))))))))) (Same E) (by kernel_rfl) (by kernel_rfl) (al (af (fun _=>True) E)) ?_
 iterate 4
  (apply aD
   case ho=>rfl
   case hw=>rfl
   case hv=>
    intro N O;obtain⟨q0,q1⟩:=xs2 O d0 d1;go_simp;exact rfl
   go_simp)
 refine aP (ay rfl rfl fun K c=>?_);go_simp;refine iU (I1.o.same (dp.o.tr (al (af (fun _=>True) E)))) Y.o.1 (by have :=Y.o.2;omega) ?_;rintro e w2 u2 rfl o2 k2;obtain⟨ub,uc,rfl⟩:=av o2;refine c (Same E) _ _ ((al (af (fun _=>True) E)).tr k2) (fun _ h=>h) ?_;clear c K;refine aP (ay rfl rfl fun K c=>?_);go_simp;refine tF (T:Int) (by omega) (by have :=H2.o;omega) ?_;rintro e Z s rfl s3 k3 f3;refine c (Same E) _ _ (((al (af (fun _=>True) E)).tr k2).tr k3) (fun _ h=>h) ?_;clear c K;apply aD
 case ho=>rfl
 case hw=>rfl
 case hv=>intro N O;go_simp;exact rfl
 go_simp;refine aP (ay rfl rfl fun K c=>?_);go_simp;have n:DfaIn (Z.alloc (.cells #[.slice ub acc.length uc,IM,IL s] 224)) B Z.heap.size s (.slice ub acc.length uc) IM T acc [] []:=by
  have IT:B≤E.heap.size:=by rw[p.o];exact dp.o.size
  have IS:B≤w2.heap.size:=Nat.le_trans IT k2.size;have ka:=sal Z (.cells #[.slice ub acc.length uc,IM,IL s] 224);rw[Int.toNat_natCast]at s3;exact⟨ag _ _,Nat.le_trans IS k3.size,aN (ar o2 (k3.tr ka) fun _ _=>trivial) IT,World.ownsRow_nil _ _ _ _,s3.same ka,fun x hx=>Nat.le_trans IS (s3.foot ka f3 x hx)⟩
 have I:Same E (Z.alloc (.cells #[.slice ub acc.length uc,IM,IL s] 224)):=(((al (af (fun _=>True) E)).tr k2).tr k3).alloc _;refine c (Same E) _ _ I (fun _ h=>h) ?_;clear c K;generalize Z.alloc _=w4 at n I⊢;generalize Z.heap.size=d at n⊢;apply aD
 case ho=>rfl
 case hw=>rfl
 case hv=>intro N O;go_simp;exact rfl
 go_simp;refine aW ?_;have e2:=ak I D2.o trivial;have X:=ae n
 have Ja:=ae (dp.o.tr I);clear o2 k2 s3 k3 f3 n I d0 d1;go_wp2_with fail
 go_loopw [21] (fun i wr=>∃(k:Nat) (vr:Value) (L:List Nd) (a:List Int),i=.int .i64 k∧k≤next.length∧Hid (DfaIn wr B d s (.slice ub acc.length uc) vr T acc L a∧L.length≤127*k∧RootsOk T L a (next.take k))∧Same w wr) (fun i _=>next.length -(intOf i).toNat)
 case atStart=>exact⟨0,_,[],[],rfl,Nat.zero_le _,ae ⟨X.o,Nat.le_refl _,rfl,by simp⟩,Ja.o⟩
 case round=>
  clear e2;obtain⟨k,vr,L,a,rfl,hk,t,hK⟩:=hrel;by_cases H:k<next.length
  ·obtain⟨bl,off,rfl,Je,fu⟩:=HC.o k H;obtain⟨u,hu,D⟩:=fu k H;obtain⟨ua,I2,rfl,_⟩:=D.open;have I4:=ak hK hu trivial;have M:=ae (I7.o next[k] (List.getElem_mem H));have HT:=ae (List.take_succ_eq_append_getElem H);have dE:=ae D;generalize next[k]=row at I4 M HT dE
   obtain⟨n,o,C⟩:=t.o;obtain⟨ra,rc,rfl⟩:=n.roots.shape;have X:=ae n
   have HL:=ae o;have IW:=ae C;have cH:=ae hK;clear fu hu D t n o C hK;go_wp2_with fail;refine zq0 15 (.take 0 (.take 1 (.take 2 (.take 3 (.take 4 (.take 5 (.take 6 (.take 7 (.take 8 (.take 9 (.one 10 (.one 11 (.one 12 (.take 13 (.take 14 .last))))))))))))))) (fun N=>N.heap[d]?=some (.cells #[.slice ub acc.length uc,.slice ra a.length rc,IL s] 224)) (by kernel_rfl) (by kernel_rfl) X.o.blk ?_
   iterate 10 (first|(apply aC;rfl;rfl;go_simp)|(apply aB;rfl;rfl;intro N hS;have q1:=ai hS 1;have q2:=ai hS 2;simp only[List.getElem?_toArray,List.getElem?_cons_zero,List.getElem?_cons_succ]at q1 q2;go_simp;exact rfl;go_simp))
   refine aI (ay rfl rfl fun K c=>?_);go_simp;have kd:Same wr wr.drew:=al (af (fun _=>True) wr);have If:B≤wr.heap.size:=by rw[p.o];exact cH.o.size
   have m:=X.o.same kd;have D:=dE.o.same (cH.o.tr kd);have fw:Apart wr.drew s (.slice ua row.length I2):=Apart.old m.foot (fun b hb=>by rw[p.o];exact dE.o.lt b hb) If;have I6:T≤6:=H2.o;obtain⟨j,l,aH⟩:=vM m.store.wf M.o.1 (M.o.all Y.o.2);have Jb:=yU T L row I6;have ch:Hid (acc.length≤400):=ae Y.o.2;have I0:Hid (k<acc.length):=ae (by rw[←H5.o];exact H);refine tE m.store D fw (by have :=HL.o;have :=ch.o;have :=I0.o;omega) ?_;rintro e w2 rfl s2 g2;rw[l.num];have f:=m.grew g2 s2 If;have gJ:Same w w2:=(cH.o.tr kd).trans g2.keeps fun x hx _=>⟨trivial,fun hf=>by have :=m.foot x hf;rw[p.o]at this;omega⟩;have aL:=(IW.o.grow m.store.wf l.wf l.pre).snoc l.lt aH;have I8:Hid (a.length=k):=ae (by rw[IW.o.1];simp;omega);obtain⟨g,ce,w5,hr,G,U,hg,_⟩:=bi (P:=Tryz.prog) w2 41 41 3 Tryz.underlying41 cC rfl f.roots (by rw[p.o];exact gJ.size) (IP (j:Int)) rfl (by have :=I8.o;have :=ch.o;have :=I0.o;omega) (by decide);have F:OwnInts w5 B (.slice (IQ g 0) (a.length+1) ce) (a++[(j:Int)]):=by unfold OwnInts;simpa using G
   have a8:=f.root U F;have fd:(Value.slice ra a.length rc).ownBlock≠some d:=fun e=>by
    obtain⟨_,Jf,hc⟩:=ah f.roots e;rw[f.blk]at hc;simp at hc
   have V:=U.at f.blk fd;have gI:Same w w5:=gJ.trans U fun x hx _=>⟨trivial,fun e=>by
    have :=(ah f.roots e).1;rw[p.o]at this;omega⟩
   have gH:Same w (w5.setCell ⟨d,1,none⟩ (.slice (IQ g 0) (a.length+1) ce)):=gI.setCell (fun hh=>by have :=f.low;rw[p.o]at this;have :=hh.1;simp at this;omega) _;have z1:=xc1 V 1 rfl;have z2:=ao V 1;have HF:=ae (And.intro a8 (And.intro aL gH));have cE:=f.blk;refine c _ _ _ cE (fun _ h=>h) ?_;clear c K a8 aL gH gI fd F G f U m D fw aH l;refine aI (ay rfl rfl fun K c=>?_);go_simp;refine c _ _ _ (aw cE _) (fun _ h=>h) ?_;clear c K;refine aI (bZ _ _ _ rfl rfl rfl ?hs ?hx hr _ V (fun _ h=>h) ?_)
   case hs=>rfl
   case hx=>rfl
   clear hr;go_simp
   iterate 2 (first|(apply aC;rfl;rfl;go_simp)|(apply aB;rfl;rfl;intro N hS;go_simp;exact rfl;go_simp))
   refine aO rfl rfl fun K c=>?_;go_simp;refine c _ _ (aG ?_);clear c K z1 z2 V cE;go_wp2_with fail;go_roundw
   case rel=>
    refine⟨k+1,_,_,_,by go_num,by omega,ae ⟨HF.o.1,?_,?_⟩,HF.o.2.2⟩
    ·have :=HL.o;omega
    ·rw[HT.o];exact HF.o.2.1
   case measure=>simp[intOf];omega
  ·obtain rfl:k=next.length:=by omega
   obtain⟨n,o,C⟩:=t.o;rw[List.take_length]at C;have hD:DFAAt wr B d ⟨(T:Int),acc,next⟩:=⟨IZ.o,_,_,_,L,a,by simpa using n,by have :=H5.o;simp only;omega,by simpa using C⟩;have HD:=ae hD;have I9:=ae hK;clear t n o C hD hK;go_wp2_with fail;exact HR.o _ _ d rfl (by have :=HD.o;rw[p.o]at this;exact this) I9.o
end
section
variable {R:Ending→World→Prop} {w:World} {A:Au} {B d:Nat}
theorem DFAAt.open (h:DFAAt w B d A):∃(g f:Option Addr) (ac e s:Nat) (L:List Nd) (a:List Int),w.cell? ⟨d,0,none⟩=some (.slice g A.acc.length ac)∧w.cell? ⟨d,1,none⟩=some (.slice f a.length e)∧w.cell? ⟨d,2,none⟩=some (IL s)∧
 BoolsAt w (.slice g A.acc.length ac) A.acc∧IntsAt w (.slice f a.length e) a∧StoreAt w s A.T.toNat L∧L.length≤127*A.acc.length∧RootsOk A.T.toNat L a A.next:=by
 obtain⟨q,vr,s,L,a,b,p,j⟩:=h.st;obtain⟨g,ac,rfl⟩:=av b.acc;obtain⟨f,e,rfl⟩:=av b.roots;obtain⟨o,n,m⟩:=xc3 b.blk rfl rfl rfl;refine⟨g,f,ac,e,s,L,a,o,n,m,b.acc.bools,b.roots.ints fun x hx=>?_,b.store,p,j⟩;obtain⟨i,l⟩:=List.getElem?_of_mem hx;have c:=(List.getElem?_eq_some_iff.1 l).1;rw[j.1]at c;obtain⟨k,rfl,r,_⟩:=j.2 i x _ l (List.getElem?_eq_getElem c);have :=h.ok.1.2.2.2.1;unfold aK;omega
theorem iq (h:DFAAt w B d A) (b:∀e,e=.returned (IP (A.acc.length:Int))→R e w):Calls Tryz.prog 110 #[.pointer (IQ d 0)] w R:=by
 have c:=ae b;clear b;obtain⟨l,g,ac,f,s,L,a,k,j,i,_⟩:=h.open;clear h;go_enter Tryz.func110,Tryz.ntmps110;go_wp2_with fail;exact c.o _ rfl
theorem DC (h:DFAAt w B d A) (i:∀e s L a c vr,e=.returned (IL s)→DfaIn w B d s c vr A.T.toNat A.acc L a→L.length≤127*A.acc.length→RootsOk A.T.toNat L a A.next→R e w):Calls Tryz.prog 116 #[.pointer (IQ d 0)] w R:=by
 obtain⟨c,vr,s,L,a,b,g,f⟩:=h.st;have k:=ae (i _ s L a c vr rfl b g f);clear i;have j:=xc1 b.blk 2 rfl;clear h b g f;go_enter Tryz.func116,Tryz.ntmps116;go_wp2_with fail;exact k.o
theorem dB (h:DFAAt w B d A) (c:∀e,e=.returned (IP A.T)→R e w):Calls Tryz.prog 66 #[.pointer (IQ d 0)] w R:=by
 have g:=ae c;clear c;have f:((A.T.toNat:Nat):Int)=A.T:=Int.toNat_of_nonneg h.ok.1.1;go_enter Tryz.func66,Tryz.ntmps66;go_wp2_with fail;refine DC h ?_;rintro e s L a i vr rfl b _ _;go_wp2_with fail;refine dh b.store ?_;rintro e rfl;rw[f];go_wp2_with fail;exact g.o _ rfl
def inA (A:Au) (i:Int):Bool:=decide (0≤i)&&decide (i<(A.acc.length:Int))
theorem FC (h:DFAAt w B d A) (i:Int) (a:∀e,e=.returned (.bool (inA A i))→R e w):Calls Tryz.prog 220 (Ia (IL d) i) w R:=by
 have b:=ae a;clear a;by_cases h0:0≤i
 ·go_enter Tryz.func220,Tryz.ntmps220;go_wp2_with fail;refine iq h ?_;rintro e rfl;go_wp2_with fail;exact b.o _ (be (by simp[inA,h0]))
 ·go_enter Tryz.func220,Tryz.ntmps220;go_wp2_with fail;exact b.o _ (be (by simp[inA];omega))
def gG (A:Au) (i:Int):Bool:=inA A i&&A.acc.getD i.toNat false
theorem eU (h:DFAAt w B d A) (i:Int) (t:∀e,e=.returned (.bool (gG A i))→R e w):Calls Tryz.prog 163 (Ia (IL d) i) w R:=by
 have l:=ae t;clear t
 cases f:inA A i with
 |false=>
  go_enter Tryz.func163,Tryz.ntmps163;go_wp2_with fail;refine FC h i ?_;rintro e rfl;rw[f];go_wp2_with fail;exact l.o _ (be (by simp[gG,f]))
 |true=>
  have g:0≤i∧i<(A.acc.length:Int):=by simpa [inA]using f
  obtain⟨k,rfl⟩:=Int.eq_ofNat_of_zero_le g.1;have c:k<A.acc.length:=by omega
  obtain⟨G,C,ac,z,s,L,m,F,E,D,q,_⟩:=h.open;obtain⟨y,x,u,v,o,a⟩:=q.open;simp only[Value.slice.injEq]at u;obtain⟨rfl,_,rfl⟩:=u;obtain⟨b,off,rfl,_,j⟩:=a k c;have n:=j k c;have p:gG A (k:Int)=A.acc[k]:=by simp[gG,f,List.getD,List.getElem?_eq_getElem c]
  rw[p]at l;unfold maxLen at o;generalize A.acc[k]=r at n l;have H:=ae h;clear h a j q p g;go_enter Tryz.func163,Tryz.ntmps163;go_wp2_with fail;refine FC H.o k ?_;rintro e rfl;rw[f];clear f;go_wp2_with fail;exact l.o _ rfl
end
section
attribute [local irreducible] au ax aQ
variable {R:Ending→World→Prop} {w:World} {A:Au} {B d:Nat}
end
section
variable {R:Ending→World→Prop} {w:World}
end
end Go.Proofs.YtojegnbejmeehaaGreatDoor
