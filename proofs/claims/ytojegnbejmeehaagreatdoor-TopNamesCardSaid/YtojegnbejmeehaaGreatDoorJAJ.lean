/- Helpers of the proof of TopNames. -/
import Derived.Laws.EntriesVeiled
import Derived.Test.YtojegnbejmeehaaGreatDoorJAG
namespace Go.Proofs.YtojegnbejmeehaaGreatDoor
open Go.RowKit
set_option maxRecDepth 10000
set_option maxHeartbeats 16000000
set_option linter.all false
structure Made (T:Nat) (L:List Nd) (r:List Nd×Int) (k:Nat):Prop where
 num:r.2=(k:Int)
 lt:k<r.1.length
 wf:WF T r.1
 pre:L<+:r.1
theorem xa {T:Nat} {L:List Nd} (h:WF T L) {v:Int} (hv:dv v=true):∃k,Made T L (fW L v) k∧∀c,val (fW L v).1 k c=v:=by
 have a:0≤v∧v≤1099511627776:=by simpa [dv]using hv
 have e:fW L v=((fs L (.leaf v)).1,((fs L (.leaf v)).2:Int)):=if_pos a;rw[e];exact⟨_,⟨rfl,yH,yG h a,fL⟩,fun c=>bR il⟩
theorem FM {T:Nat} {L:List Nd} {t a b:Nat} (c:t<T) (h1:Under L a t) (h2:Under L b t):
 mkA T L t a b=if a=b then(L,(a:Int))else((fs L (.fork t a b)).1,((fs L (.fork t a b)).2:Int)):=by
 unfold mkA;rw[if_neg]
 ·simp only[Int.ofNat_inj,Int.toNat_natCast]
 ·rw[iG.2 h1,iG.2 h2];simp;omega
theorem ug {T:Nat} {L:List Nd} (h:WF T L) {t b d:Nat} (i:t<T) (h1:Under L b t) (h2:Under L d t):
 ∃k,Made T L (mkA T L t b d) k∧From (mkA T L t b d).1 k t∧∀c,val (mkA T L t b d).1 k c=val L (if c.testBit t then d else b) c:=by
 rw[FM i h1 h2];by_cases e:b=d
 ·subst e;rw[if_pos rfl];exact⟨b,⟨rfl,h1.1,h,List.prefix_rfl⟩,fun u l r f=>by have :=h1.2 u l r f;omega,fun c=>by simp⟩
 ·rw[if_neg e];have g:NdOk T L L.length (.fork t b d):=⟨i,h1.1,h2.1,e,h1,h2⟩;have a:=yG h g;refine⟨_,⟨rfl,yH,a,fL⟩,fun u l r f=>?_,fun c=>?_⟩
  ·simp only[il,Option.some.injEq,Nd.fork.injEq]at f;omega
  ·simp only[];rw[co a il]
   split
   ·exact bI h a fL c _ h2.1
   ·exact bI h a fL c _ h1.1
theorem wF {c t:Nat} (h:c<2^t):c|||2^t=c+2^t:=by
 have :=Nat.two_pow_add_eq_or_of_lt h 1;rw[Nat.mul_one]at this;rw[Nat.or_comm,←this,Nat.add_comm]
theorem EO (x t:Nat):x%2^(t+1)=if x.testBit t then x%2^t+2^t else x%2^t:=by
 rw[Nat.mod_pow_succ,np];have :=Nat.mod_two_eq_zero_or_one (x/2^t);rcases this with h|h<;>simp[h]
theorem From.prefx {L b:List Nd} {i t:Nat} (h:From L i t) (d:L<+:b) (f:i<L.length):From b i t:=by
 obtain⟨M,rfl⟩:=d;intro u c a e;rw[List.getElem?_append_left f]at e;exact h u c a e
theorem From.under {L:List Nd} {i t:Nat} (h:From L i (t+1)) (c:i<L.length):Under L i t:=⟨c,fun u b a e=>h u b a e⟩
theorem BU {T:Nat} {row:List Int} (A:row.length=2^T) (o:row.all dv=true):∀(d t c:Nat) (L:List Nd),t+d=T→c<2^t→WF T L→
 ∃k,Made T L (ofA T row d L c) k∧From (ofA T row d L c).1 k t∧∀x,x<2^T→x%2^t=c→val (ofA T row d L c).1 k x=row.getD x 0:=by
 intro d
 induction d with
 |zero=>
  intro t c L r p h;obtain rfl:t=T:=by omega
  have hv:dv (row.getD c 0)=true:=by
   have n:c<row.length:=by omega
   rw[List.getD_eq_getElem?_getD,List.getElem?_eq_getElem n];exact List.all_eq_true.1 o _ (List.getElem_mem n)
  obtain⟨k,i,g⟩:=xa h hv;unfold ofA;refine⟨k,i,fun u H M e=>?_,fun x hx f=>?_⟩
  ·have :=i.wf.ok k _ e;have :=this.1;have J:=g (2^u)
   exfalso
   have j:0≤row.getD c 0∧row.getD c 0≤1099511627776:=by simpa [dv]using hv
   have G:fW L (row.getD c 0)=((fs L (.leaf (row.getD c 0))).1,((fs L (.leaf (row.getD c 0))).2:Int)):=if_pos j;have z:=i.num;rw[G]at z e;have :(fs L (.leaf (row.getD c 0))).2=k:=Int.ofNat_inj.1 z;rw[←this,il]at e
   cases e
  ·rw[g];rw[Nat.mod_eq_of_lt hx]at f;rw[f]
 |succ d ih=>
  intro t c L r p h;have F:T -(d+1)=t:=by omega
  have E:c<2^(t+1):=Nat.lt_of_lt_of_le p (Nat.pow_le_pow_right (by decide) (by omega));obtain⟨y,b,v,q⟩:=ih (t+1) c L (by omega) E h;obtain⟨I,a,s,j⟩:=ih (t+1) (c|||2^t) (ofA T row d L c).1 (by omega) (Fx p) b.wf;have m:y<(ofA T row d (ofA T row d L c).1 (c|||2^t)).1.length:=Nat.lt_of_lt_of_le b.lt a.pre.length_le;have C:=(v.prefx a.pre b.lt).under m;have u2:=s.under a.lt;obtain⟨k,i,D,g⟩:=ug a.wf (show t<T by omega) C u2;unfold ofA;rw[F,b.num,a.num];refine⟨k,⟨i.num,i.lt,i.wf,(b.pre.trans a.pre).trans i.pre⟩,D,fun x hx f=>?_⟩;rw[g];have l:=EO x t;rw[f]at l
  cases B:x.testBit t with
  |true=>
   rw[B,if_pos rfl,←wF p]at l;rw[if_pos rfl];exact j x hx l
  |false=>
   rw[B,if_neg (by decide)]at l;rw[if_neg (by decide),bI b.wf a.wf a.pre x y b.lt];exact q x hx l
theorem vM {T:Nat} {L:List Nd} {row:List Int} (h:WF T L) (a:row.length=2^T) (b:row.all dv=true):
 ∃k,Made T L (OfA T L row) k∧∀x,x<2^T→val (OfA T L row).1 k x=row.getD x 0:=by
 obtain⟨k,c,_,hv⟩:=BU a b T 0 0 L (by omega) (by decide) h;rw[show OfA T L row=ofA T row T L 0 from if_pos ⟨a,b⟩];exact⟨k,c,fun x hx=>hv x hx (by simp[Nat.mod_one])⟩
section
variable {R:Ending→World→Prop} {w:World} {a T:Nat} {L:List Nd}
theorem StoreAt.foot {b:World} (h:StoreAt w a T L) (k:Same w b) {B:Nat} (c:∀x,de w a x→B≤x):∀x,de b a x→B≤x:=by
 obtain⟨v,m,e,_⟩:=h.st
 exact fun x hx=>c x ((dO ((k.at e trivial).trans e.symm) x).1 hx)
theorem pB (h:StoreAt w a T L) {b:Nat} (f:de w a b):b<w.heap.size:=by
 obtain⟨v,m,e,i,o,j,g,_⟩:=h.st;rcases f with rfl|⟨l,k,n,d,c⟩
 ·exact am e
 ·rw[e]at d;simp only[Option.some.injEq,Obj.cells.injEq,Array.mk.injEq,List.cons.injEq,Value.map.injEq]at d;obtain⟨⟨_,rfl,rfl,_⟩,_⟩:=d;rcases c with rfl|c
  ·exact am g
  ·exact(i.lt b c).2
theorem yU (T:Nat) (L:List Nd) (row:List Int) (b:T≤6):(OfA T L row).1.length≤L.length+127:=by
 unfold OfA
 split
 ·have :=lS T row T L 0;have :2^(T+1)≤128:=Nat.pow_le_pow_right (by decide) (show T+1≤7 by omega);omega
 ·simp
theorem Em {a b:List Int} (c:a.length=b.length) (h:∀x,x<a.length→a.getD x 0=b.getD x 0):a=b:=nq c h (Nat.le_refl _)
theorem ft {L c:List Nd} (h:L<+:c) {k:Nat} {n:Nd} (b:L[k]?=some n):c[k]?=some n:=by
 obtain⟨M,rfl⟩:=h;rw[List.getElem?_append_left (List.getElem?_eq_some_iff.1 b).1];exact b
end
section
structure Au where
 T:Int
 acc:List Bool
 next:List (List Int)
def AutoAt (w:World) (v:Value) (A:Au):Prop:=∃va vn,v=.agg #[A.T,va,vn]∧BoolsAt w va A.acc∧RowsAt w vn A.next∧aK A.T
theorem AutoAt.same {w a:World} {v:Value} {A:Au} (h:AutoAt w v A) (k:Same w a):AutoAt a v A:=by
 obtain⟨c,b,e,h1,h2,d⟩:=h;exact⟨c,b,e,h1.same k,h2.same k,d⟩
def RowOk (T n:Nat) (l:List Int):Prop:=l.length=2^T∧∀x∈l,0≤x∧x<(n:Int)
instance (T n:Nat) (l:List Int):Decidable (RowOk T n l):=by unfold RowOk;infer_instance
def AuOk (A:Au):Prop:=(0≤A.T∧A.T≤6∧1≤A.acc.length∧A.acc.length≤400∧A.next.length=A.acc.length)∧∀l∈A.next,RowOk A.T.toNat A.acc.length l
instance (A:Au):Decidable (AuOk A):=by unfold AuOk;infer_instance
variable {R:Ending→World→Prop} {w:World}
end
section
variable {R:Ending→World→Prop} {w:World}
theorem sZ (a:Array Value) (w:World):(callFunc 252 a).run Tryz.prog w=.ok (.enter 252 a) w:=by kernel_rfl
theorem te (a:Array Value) (w:World):(callFunc 254 a).run Tryz.prog w=.ok (.enter 254 a) w:=by kernel_rfl
def zO (n:Nat) (x:Int):Bool:=decide (x<0)||decide ((n:Int)≤x)
theorem Gl {n a:Nat} (x:Int) (d:w.cell? ⟨a,0,none⟩=some (.int .i64 (n:Int))) (b:∀e,e=.returned (.bool (zO n x))→R e w):
 Calls Tryz.prog 252 #[IP x,.pointer (IQ a 0)] w R:=by
 have c:=ae b;clear b;by_cases h0:x<0
 ·go_enter Tryz.func252,Tryz.ntmps252;go_wp2_with fail;exact c.o _ (be (by simp[zO,h0]))
 ·go_enter Tryz.func252,Tryz.ntmps252;go_wp2_with fail;exact c.o _ (be (by simp[zO];omega))
def nf (T n:Nat) (l:List Int):Bool:=!(decide (RowOk T n l))
theorem A1 {T n p:Nat} {l:List Int} (b:2^T=p):nf T n l=(((l.length:Nat):Int) !=((p:Nat):Int)||l.any (zO n)):=by
 subst b;rw[Bool.eq_iff_iff];unfold nf;rw[Bool.not_eq_true',decide_eq_false_iff_not,Bool.or_eq_true,bne_iff_ne,List.any_eq_true];unfold RowOk zO;constructor
 ·intro h;by_cases a:l.length=2^T
  ·right;apply Classical.byContradiction;intro c;refine h ⟨a,fun x hx=>?_⟩;have :¬(x<0∨(n:Int)≤x):=fun f=>c ⟨x,hx,by simpa using f⟩;omega
  ·left;intro e;exact a (by exact_mod_cast e)
 ·rintro(h|⟨x,hx,d⟩) ⟨h1,h2⟩
  ·exact h (by rw[h1])
  ·have :=h2 x hx;simp at d;omega
theorem Gm {T n r o m:Nat} {u:Value} {l:List Int} (C:T≤6) (g:IntsAt w u l) (H:w.cell? ⟨r,0,none⟩=some (.int .i64 (T:Int))) (z:w.cell? ⟨o,0,none⟩=some (.int .i64 (n:Int)))
 (ho:w.cell? ⟨m,0,none⟩=some (.func (.func 252) #[] #[.pointer (IQ o 0)]))
 (q:∀e h,e=.returned (.bool (nf T n l))→Same w h→R e h):
 Calls Tryz.prog 254 #[u,.pointer (IQ r 0),.pointer (IQ m 0)] w R:=by
 have s:=ae q;clear q;have d:=go C;have D:=ae g;obtain⟨G,F,rfl,B,j,_⟩:=g.open;unfold maxLen at j;have t:=ae (fun p y=>A1 (T:=T) (n:=n) (p:=p) (l:=l) y);by_cases f:l.length=2^T
 ·generalize a:2^T=p at d f;have c:=ae a;clear a g;have b:(((l.length:Nat):Int) !=((p:Nat):Int))=false:=by rw[f];simp
  clear f;go_enter Tryz.func254,Tryz.ntmps254;go_wp2_with fail;refine gj (p:=zO n) sZ D.o ?_ ?_
  ·intro x _ h R i k;exact Gl x (ak i z trivial) (fun e A=>k e _ A (af _ _))
  rintro e E rfl v;go_wp2_with fail;exact s.o _ _ (be (by rw[t.o p c.o,b];simp)) v
 ·generalize a:2^T=p at d f;have c:=ae a;clear a g;have b:(((l.length:Nat):Int) !=((p:Nat):Int))=true:=by rw[bne_iff_ne];omega
  clear f;go_enter Tryz.func254,Tryz.ntmps254;go_wp2_with fail;exact s.o _ _ (be (by rw[t.o p c.o,b];simp)) (af _ _)
theorem F7 {v:Value} {A:Au} (hv:AutoAt w v A) (X:∀e B,e=.returned (.bool (decide (AuOk A)))→Same w B→R e B):
 Calls Tryz.prog 221 #[v] w R:=by
 have O:=ae X;clear X;obtain⟨T,acc,next⟩:=A;obtain⟨va,vn,rfl,f,a,V⟩:=hv;simp only at f a V;obtain⟨y,ac,rfl,aL,G,_⟩:=f.open;have HN:=ae a;obtain⟨s,r,rfl,aH,F,_⟩:=a.open;unfold maxLen at G F;unfold aK at V;have b:=ag w (Ij T y acc.length ac s next.length r);obtain⟨x,M,L⟩:=xc3 b rfl rfl rfl;have m:=sal w (Ij T y acc.length ac s next.length r);clear f a b;by_cases n:next.length=acc.length
 case neg=>
  have E:(((next.length:Nat):Int) !=((acc.length:Nat):Int))=true:=by rw[bne_iff_ne];omega
  have k:=ae n;clear n;go_enter Tryz.func221,Tryz.ntmps221;go_wp2_with fail
  all_goals exact O.o _ _ (be (by symm;rw[decide_eq_false_iff_not];exact fun h=>k.o h.1.2.2.2.2)) (m.alloc _)
 have H5:=ae n;have E:(((next.length:Nat):Int) !=((acc.length:Nat):Int))=false:=by rw[n];simp
 clear n;by_cases d:0≤T∧T≤6∧1≤acc.length∧acc.length≤400
 ·have c:=ae d;obtain⟨h1,h2,h3,h4⟩:=d;obtain⟨T,rfl⟩:=Int.eq_ofNat_of_zero_le h1;have HD:Hid (AuOk ⟨(T:Int),acc,next⟩↔∀l∈next,RowOk T acc.length l):=ae ⟨fun h=>h.2,fun h=>⟨⟨c.o.1,c.o.2.1,c.o.2.2.1,c.o.2.2.2,H5.o⟩,h⟩⟩;go_enter Tryz.func221,Tryz.ntmps221;go_wp2_with fail;have o:(w.alloc (Ij T y acc.length ac s next.length r)).heap.size=w.heap.size+1:=by simp
  have N:Hid (T≤6):=ae (by omega);generalize w.alloc _=z at x M L m o⊢;have t:=mr z #[IP acc.length] 3 0;have C:(z.alloc (Ic acc.length)).heap.size=w.heap.size+1+1:=by simp[o]
  have J:=dt x (Ic acc.length);have j:=m.alloc (Ic acc.length);rw[o]at t;generalize z.alloc _=U at t C J j⊢;have q:=mr U #[.func (.func 252) #[] #[.pointer (some ⟨w.heap.size+1,0,none⟩)]] 86 0;rw[C]at q;have I:=dt J (.cells #[.func (.func 252) #[] #[.pointer (some ⟨w.heap.size+1,0,none⟩)]] 86);have D:=dt t (.cells #[.func (.func 252) #[] #[.pointer (some ⟨w.heap.size+1,0,none⟩)]] 86);have i:=j.alloc (.cells #[.func (.func 252) #[] #[.pointer (some ⟨w.heap.size+1,0,none⟩)]] 86);generalize U.alloc _=w3 at q I D i⊢;clear x M L m o t C J j;have O1:=ae q;have E0:=ae I;have N2:=ae D;have Y:=ae i;clear q I D i;refine qf (p:=nf T acc.length) te (HN.o.same Y.o) ?_ ?_
  ·intro u l _ hu B R g H;exact Gm N.o (hu.same g) (ak g E0.o trivial) (ak g N2.o trivial) (ak g O1.o trivial) H
  rintro e w4 rfl Z;have HB:Hid ((!(next.any (nf T acc.length)))=decide (AuOk ⟨(T:Int),acc,next⟩)):=ae (by
   rw[Bool.eq_iff_iff,decide_eq_true_iff,HD.o,Bool.not_eq_true',List.any_eq_false];exact forall_congr' fun l=>by unfold nf;simp)
  go_wp2_with fail;exact O.o _ _ (be HB.o) (Y.o.tr Z)
 ·have k:Hid (¬AuOk ⟨T,acc,next⟩):=ae fun h=>d ⟨h.1.1,h.1.2.1,h.1.2.2.1,h.1.2.2.2.1⟩;go_enter Tryz.func221,Tryz.ntmps221;go_wp2_with fail
  all_goals first
   |exact O.o _ _ (be (by symm;rw[decide_eq_false_iff_not];exact k.o)) (m.alloc _)
   |(exfalso;omega)
end
end Go.Proofs.YtojegnbejmeehaaGreatDoor
