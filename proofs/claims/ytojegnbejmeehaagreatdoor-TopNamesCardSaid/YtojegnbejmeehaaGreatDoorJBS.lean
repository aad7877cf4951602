/- Helpers of the proof of TopNames. -/
import Derived.Test.YtojegnbejmeehaaGreatDoorJBQ
import Derived.Test.YtojegnbejmeehaaGreatDoorJBR
namespace Go.Proofs.YtojegnbejmeehaaGreatDoor
open Go.RowKit
set_option maxRecDepth 10000
set_option maxHeartbeats 16000000
set_option linter.all false
section
attribute [local irreducible] wpQuiet ax au aQ
variable {R:Ending→World→Prop} {w:World}
theorem Av (w:World) {x:Int} (hx:aK x):IntsAt (w.alloc (Ic x)) (.slice (IQ w.heap.size 0) 1 1) [x]:=by
 refine⟨⟨_,1,rfl,Nat.le_refl _,by unfold maxLen;omega,.inr ⟨w.heap.size,0,#[IP x],_,_,rfl,ag w _,fun i v hv=>?_⟩⟩,fun z a=>?_⟩
 ·match i,hv with
  |0,hv=>simpa using hv
 ·simp at a;rw[a];exact hx
theorem tQ {w0:World} {B d t I:Nat} {A:Au} (h:DFAAt w0 B d A) (hk:Same w0 w) (LE:w0.heap.size≤I) (hT:A.T=(t:Int)+1) (ht:t≤5) (hs:A.acc.length≤99) (hd:(cA A t 400).2.length=(cA A t 400).1.length) (JQ:(cA A t 400).1.length≤400) (X:MeterAt w I 401 false)
 (hR:∀e w' d',e=.returned (.tuple (Ia (IL d') 0))→DFAAt w' w0.heap.size d' (eR A t 400)→Keeps (·<w0.heap.size) w0 w'→R e w'):
 Calls Tryz.prog 160 #[.pointer (IQ d 0),IP t,.pointer (IQ I 0)] w R:=by
 have HR:=ae hR;clear hR;have JC:=ae h.ok;have H:=ae h;have JF:=ae hk;have HT:=ae hT;have HM:=ae X;have HD:=ae hd;have Js:=ae JQ;have Lr:I<w.heap.size:=am X;have KY:=hk.size;have Ld:2^t≤32:=by have :=Nat.pow_le_pow_right (n:=2) (by decide) ht;simpa using this
 clear h hk X hd JQ;go_enter Tryz.func160,Tryz.ntmps160;go_wp2_with fail;refine zq (H.o.same JF.o) hT ht ?_;rintro e J dc rfl Kt k2;have Ll:=ae Kt;have K2:=ae k2;have KW:=k2.size;clear Kt k2 hT;go_wp2_with fail;refine Ez (G:=fun _=>True) ?_;rintro e w3 mm rfl JV K8 k3;have K3:=ae (K2.o.tr k3);have Kw:=ae JV;have kx:=sal w3 (.cells #[.pointer (some ⟨J.heap.size+1,0,none⟩),IL I] 266);have J3:=ae (ag w3 (.cells #[.pointer (some ⟨J.heap.size+1,0,none⟩),IL I] 266));have Jr:=ae kx;have KV:J.heap.size+2≤w3.heap.size:=by have :=am JV.blk;omega
 have Kc:Same J w3:=k3;have JT:=ae Kc;clear JV k3 kx Kc;go_wp2_with fail;have JZ:(w3.alloc (.cells #[.pointer (some ⟨J.heap.size+1,0,none⟩),IL I] 266)).heap.size=w3.heap.size+1:=by simp
 generalize w3.alloc _=w4 at J3 Jr JZ⊢;have JY:=Av w4 (x:=0) (by constructor<;>omega);rw[JZ]at JY;have ka:=sal w4 Hn;have KK:Hid (MeterAt w4 I 401 false):=ae (Jr.o.at (K3.o.at HM.o trivial) trivial);have Ka:MaSt (w4.alloc Hn) J.heap.size w3.heap.size (J.heap.size+1) mm I IM [] 401 (fun _=>True):=⟨ka.at J3.o trivial,(Kw.o.same Jr.o).same ka,ka.at KK.o trivial⟩;have K7:1≤A.acc.length:=JC.o.1.2.2.1;have Kh:=ka.size;refine uk Ka (l:=[0]) JY (by simp) (by simp) (fun n hn=>by simp at hn;omega) (by simp) (by simp) (by omega) (by simp) (by omega) (by omega) (fun _ _=>trivial) ?_;rintro e w5 JU rfl J9 k5 Lc;have KZ:J.heap.size+1<w3.heap.size:=by omega
 have Km:mm<w3.heap.size:=by omega
 have I8:Hid (Keeps (·≠I) J w5):=ae (((JT.o.tr Jr.o).tr ka).trans k5 fun b f JA=>⟨trivial,by omega,by omega,JA,fun e=>by cases e⟩);have I9:Hid (Keeps (·<w0.heap.size) w0 w5):=ae ((JF.o.tr K2.o).trans I8.o fun b f JA=>⟨trivial,by have :b<w0.heap.size:=JA;omega⟩);have Jq:=ae J9;have KU:=I8.o.size;have Lv:Hid (∀b,JU.ownBlock=some b→J.heap.size≤b):=ae fun b f=>by
  obtain⟨vs,q1,_⟩:=Jq.o.pool.own;exact(ah q1 f).1
 clear Ka J9 k5 Lc ka JY KK HM J3 Jr Kw JT K3;go_wp2_with fail;refine dB (H.o.keep I9.o fun b _ f=>f) ?_;rintro e rfl;rw[HT.o];have ko:=sal w5 (Ij t none 0 0 none 0 0);have HO:=ae (ag w5 (Ij t none 0 0 none 0 0));have Jc:=ae ko;have JM:(w5.alloc (Ij t none 0 0 none 0 0)).heap.size=w5.heap.size+1:=by simp
 clear ko;go_wp2_with fail;generalize w5.alloc _=J5 at HO Jc JM⊢;refine mh (H.o.keep (I9.o.tr_same Jc.o) fun b _ f=>f) ?_;rintro e w6 v6 rfl o6 k6;obtain⟨Lz,Ly,rfl,JP,Jw⟩:=o6;obtain⟨LA,LK,rfl⟩:=av JP;clear JP;have Lu:∀(T:Int) (a b:Value) (w:World),(Instr.field 166 (.agg #[T,a,b]) 2).run Tryz.prog w=.ok b w:=fun T a b w=>by kernel_rfl
 obtain⟨sn,cn,rfl⟩:=Jw.shape;have K6:=ae k6;have KJ:=ae Jw;have Kg:=k6.size;have J8:=(Jq.o.same Jc.o).same k6;have JS:=ae J8;have KI:=ae (k6.at HO.o trivial);have KN:=ae ((I8.o.tr_same Jc.o).tr_same k6);have Lw:=ae ((I9.o.tr_same Jc.o).tr_same k6);have KR:w3.heap.size<w5.heap.size:=am Jq.o.blk;have Lq:I<J.heap.size:=by omega
 have JK:∀b,JU.ownBlock=some b→b<J5.heap.size:=fun b f=>by
  have :=MaSt.lt Jq.o (b:=b) (.inr (.inr (.inr f)));omega
 have JR:=ae JK;have KO:=ae (JF.o.tr K2.o);obtain⟨p,hp⟩:∃p,p=J.heap.size+1:=⟨_,rfl⟩;obtain⟨x,hx⟩:∃x,x=w3.heap.size:=⟨_,rfl⟩;obtain⟨o,ho⟩:∃o,o=w5.heap.size:=⟨_,rfl⟩;obtain⟨z5,Kd⟩:∃z,z=J5.heap.size:=⟨_,rfl⟩;rw[←hp,←hx]at JS;rw[←ho]at KI;rw[←Kd]at KJ JR;rw[←hp,←hx,←ho];have Lp:p<x∧x<o∧o<z5∧mm<x∧J.heap.size≤p∧J.heap.size≤mm∧J.heap.size≤x∧z5≤w6.heap.size:=by omega
 have LD:A.next.length≤cn∧cn≤maxLen:=by
  obtain⟨vs,q1,_⟩:=Jw;exact⟨jl q1,by rcases q1.2 with⟨e,h0⟩|⟨g,cap,C,e,_,_,_,h2,_⟩<;>simp at e<;>omega⟩
 clear k6 Jw J8 JK hp hx ho Kd Jq Jc HO I8 I9 K6 H JF K2 Kh JZ JM Kg KZ Km KR KV KU KY KW K8;go_wp2_with fail
 go_loopw [15] (fun i wr=>∃(k:Nat) (vl ua vn:Value) (L:List (List Nat)) (cE:List (List Nat)),i=.int .i64 (k:Int)∧k≤400∧Hid (PrSt A t J w6 wr z5 x p mm I o k vl ua vn L cE)) (fun i _=>401 -(intOf i).toNat)
 case atStart=>
  refine⟨0,JU,.slice none 0 0,.slice none 0 0,[[0]],[],rfl,by omega,ae ⟨?_,⟨KI.o,World.ownsRow_nil _ _ _ _,OwnMat.nil _ _⟩,KN.o,af _ _,fun b f=>.inl (JR.o b f),(fun b _ e=>by cases e),rfl,rfl,fun l hl=>?_⟩⟩
  ·exact JS.o
  ·rw[List.mem_singleton.1 hl];exact GoodS.zero K7
 case round=>
  obtain⟨k,vl,ua,vn,L,cE,rfl,hk,u⟩:=hrel;obtain⟨wo,KT⟩:∃wo,wo=wr:=⟨_,rfl⟩;subst KT;have c0:=xc1 u.o.mak.blk 0 rfl;go_wp2_with fail;refine lL u.o.mak.pool ?_;rintro e rfl;have LJ:L.length≤400:=by
   have h1:=qG A t k 400 hk;rw[u.o.law]at h1;exact Nat.le_trans h1.length_le Js.o
  by_cases Ko:k<L.length
  ·have J2:L[k]?=some L[k]:=List.getElem?_eq_getElem Ko;have Jz:=u.o.good _ (List.getElem_mem Ko);generalize L[k]=l at J2 Jz;have JE:=ae J2;have IZ:=ae Jz;have LF:=Jz.len;clear J2 Jz;go_wp2_with fail;refine EC u.o.mak.pool JE.o IZ.o.1 (by omega) (by omega) ?_;rintro e wg lv rfl JW kg;obtain⟨sl,ml,cl,rfl⟩:∃sl ml cl,lv=.slice sl ml cl:=by obtain⟨sl,cl,e⟩:=JW.shape;exact⟨_,_,_,e⟩
   have Jb:=ae JW;have fu:=ae kg;have og:=ai (kg.at u.o.ot.blk trivial) 0;simp only[List.getElem?_toArray,List.getElem?_cons_zero]at og;obtain⟨Kk,Kj⟩:=tT ht;obtain⟨q,hq⟩:∃q:Nat,q=2^t:=⟨_,rfl⟩;rw[←hq]at Kk Kj;have HQ:=ae hq;have Lo:q≤32:=by rw[hq];exact Ld
   have dp:Hid (MaSt wg J.heap.size x p mm I vl L (401 -(L.length:Int)) fun _=>True):=ae (u.o.mak.same kg);clear hq JW kg;go_wp2_with fail;clear Kk Kj og c0
   go_loopw [17,67] (fun rv i wi=>∃(c:Nat) (aH:Value) (L':List (List Nat)) (r:List Nat) (sr:Option Addr) (cr:Nat),rv=.slice sr c cr∧i=.int .i64 (c:Int)∧c≤q∧Hid (PjSt A t wg wi J.heap.size x p mm I vl L l c aH L' r (.slice sr c cr))∧r.length=c) (fun _ i _=>q -(intOf i).toNat)
   case atStart=>
    exact⟨0,vl,L,[],none,0,rfl,rfl,Nat.zero_le _,ae ⟨dp.o.mono (fun b _ _ e=>by cases e),World.ownsRow_nil _ _ _ _,rfl,af _ _,fun b f=>.inl f,u.o.good⟩,rfl⟩
   case round=>
    obtain⟨c,aH,L',r,sr,cr,rfl,rfl,hc,N,V⟩:=hrel;by_cases Ks:c<q
    ·have JI:∀b,z5≤b→b<w6.heap.size→¬Px p mm I vl b:=fun b h1 h2=>by
      rintro(e|e|e|e)
      ·omega
      ·omega
      ·omega
      ·rcases u.o.vlo b e with h|h<;>omega
     have JN:Keeps (z5≤·) w6 wr:=(u.o.k6.tr_same fu.o).trans N.o.kp fun b f hz=>⟨hz,JI b hz f⟩;have I1:=(KJ.o.keep JN fun b C e _ hB=>hB).rows JC.o.bounds.2;have Kp:OwnInts wr wo.heap.size (.slice sl ml cl) (l.map Int.ofNat):=Jb.o.keep N.o.kp fun b f=>by
      obtain⟨_,C,j⟩:=ah Jb.o f;exact dp.o.other j (by decide) (by decide) (by decide)
     have I3:=Kp.ints (fun y hy=>by obtain⟨n,hn,rfl⟩:=bQ.1 hy;have :=IZ.o.2.2 n hn;constructor<;>omega);have Lh:=ae I1;have Lj:=ae I3;clear JI JN I1 Kp I3;go_wp2_with fail;refine BE (A:=A) Lh.o JC.o HT.o ht (by rw[←HQ.o];exact Ks) Lj.o IZ.o.2.2 (by omega) IZ.o.1 ?_;rintro e w7 u7 rfl o7 k7;obtain⟨s7,m7,c7,rfl⟩:∃s7 m7 c7,u7=.slice s7 m7 c7:=by obtain⟨s7,c7,e⟩:=o7.shape;exact⟨_,_,_,e⟩
     have Jy:=AJ JC.o (t:=t) (c:=c) IZ.o.1;have IR:=zm (A:=A) (l:=l) (by rw[←HQ.o];exact Ks) N.o.run;generalize eD (dR A t l c)=s at o7 Jy IR;have fw:=ae Jy;have LC:=Jy.len;have Kl:=o7.ints (fun y hy=>by obtain⟨n,hn,rfl⟩:=bQ.1 hy;have :=fw.o.2.2 n hn;constructor<;>omega);have KG:=ae Kl;have Jd:=ae k7;have JD:=ae (N.o.mak.same k7);have Y:∀L2 r2,aT id L ((fR A t l).take (c+1))=(L2,r2)→L2.length≤400:=fun L2 r2 h=>by
      have h1:=rP (id:List Nat→List Nat) L (fR A t l) (c+1);rw[h]at h1;have h2:=qG A t (k+1) 400 (by omega);have h3:(cA A t (k+1)).1=(aT id L (fR A t l)).1:=by
       obtain⟨a,b,e⟩:∃a b,aT id L (fR A t l)=(a,b):=⟨_,_,rfl⟩;have :=qF u.o.law (by rw[u.o.len];exact JE.o) e;rw[this,e]
      rw[h3]at h2;exact Nat.le_trans (h1.trans h2).length_le Js.o
     clear k7 o7 Jy Kl;go_wp2_with fail;by_cases Ja:s∈L'
     ·rw[if_pos Ja]at IR;refine zX JD.o KG.o fw.o.2.1 fw.o.1 (fun n hn=>by have :=fw.o.2.2 n hn;omega) (by omega) Ja ?_;rintro e w8 rfl k8;have Lb:=l9 Ja
      generalize gF L' s=Ju at IR Lb;have h8:OwnInts w8 wg.heap.size (.slice sr c cr) (r.map Int.ofNat):=(eK N.o.row Jd.o).same k8;obtain⟨gg,cap,w9,IS,F,Jj,Jm,_⟩:=bi (P:=Tryz.prog) w8 41 41 3 Tryz.underlying41 cC rfl h8 (by have :=N.o.kp.size;have :=Jd.o.size;have :=k8.size;omega) (IP (Ju:Int)) rfl (by rw[List.length_map,V];omega) (by decide);rw[List.length_map,V]at IS F;have Jp:OwnInts w9 wg.heap.size (.slice (IQ gg 0) (c+1) cap) ((r++[Ju]).map Int.ofNat):=by
       unfold OwnInts;rw[show((r++[Ju]).map Int.ofNat).length=c+1 by simp[V],List.map_append,List.map_append];exact F
      have HF:=ae (N.o.step (JD.o.same k8) ((Jd.o.tr k8).mono fun _ _ _=>trivial) (fun b f=>.inl f) IR N.o.good (by rw[V];exact Jp) Jj Jm);rw[V]at HF;clear F Jj Jm h8 k8 Jp
      go_wp2_with (at_builtin;refine ap rfl _ _ _ rfl rfl rfl IS ?_;clear IS)
      go_roundw
      case rel=>exact⟨c+1,aH,L',r++[Ju],some ⟨gg,0,none⟩,cap,rfl,by go_num,by omega,HF,by simp[V]⟩
      case measure=>simp[intOf];omega
     ·rw[if_neg Ja,uP Ja]at IR;have La:=Y _ _ IR;rw[List.length_append,List.length_cons,List.length_nil]at La;have ch:=eK N.o.row Jd.o;have LG:=N.o.kp.size;have Ls:=Jd.o.size;have LB:J.heap.size≤wg.heap.size:=by have :=u.o.k2.size;have :=fu.o.size;omega
      refine uk JD.o KG.o fw.o.2.1 fw.o.1 (fun n hn=>by have :=fw.o.2.2 n hn;omega) (by omega) Ja (by omega) (by omega) (by omega) (by omega) (fun b f e=>by
       obtain⟨_,C,j⟩:=ah ch e;have :=am j;omega) ?_;rintro e w8 J6 rfl J7 k8 Kq
      have h8:OwnInts w8 wg.heap.size (.slice sr c cr) (r.map Int.ofNat):=ch.keep (CF k8) fun b f=>by
       obtain⟨_,C,j⟩:=ah ch f;exact JD.o.other j (by decide) (by decide) (by decide)
      obtain⟨gg,cap,w9,IS,F,Jj,Jm,_⟩:=bi (P:=Tryz.prog) w8 41 41 3 Tryz.underlying41 cC rfl h8 (by have :=k8.size;omega) (IP (L'.length:Int)) rfl (by rw[List.length_map,V];omega) (by decide);rw[List.length_map,V]at IS F;have Jp:OwnInts w9 wg.heap.size (.slice (IQ gg 0) (c+1) cap) ((r++[L'.length]).map Int.ofNat):=by
       unfold OwnInts;rw[show((r++[L'.length]).map Int.ofNat).length=c+1 by simp[V],List.map_append,List.map_append];exact F
      have JG:MaSt w8 J.heap.size x p mm I J6 (L'++[s]) (401 -((L'++[s]).length:Int)) fun b=>(Value.slice sr c cr).ownBlock≠some b:=by
       have e:(401 -((L'++[s]).length:Int))=401 -(L'.length:Int) -1:=by rw[List.length_append];simp;omega
       rw[e];exact J7
      have HF:=ae (N.o.step JG (Keeps.tr (Jd.o.mono fun _ _ _=>trivial) (CF k8)) (fun b f=>(Kq b f).imp (fun e=>e) fun e=>by omega) IR (fun m X=>by
       rcases List.mem_append.1 X with h|h
       ·exact N.o.good m h
       ·rw[List.mem_singleton.1 h];exact fw.o) (by rw[V];exact Jp) Jj Jm)
      rw[V]at HF;clear F Jj Jm h8 k8 Jp J7 JG Kq ch
      go_wp2_with (at_builtin;refine ap rfl _ _ _ rfl rfl rfl IS ?_;clear IS)
      go_roundw
      case rel=>exact⟨c+1,J6,L'++[s],r++[L'.length],some ⟨gg,0,none⟩,cap,rfl,by go_num,by omega,HF,by simp[V]⟩
      case measure=>simp[intOf];omega
    ·obtain rfl:c=q:=by omega
     have I0:=N.o.run;rw[List.take_of_length_le (by rw[jh,HQ.o];exact Nat.le_refl _)]at I0;have KF:=ae (qF u.o.law (by rw[u.o.len];exact JE.o) I0);have v:=(u.o.ot.same fu.o).keepM N.o.kp (fun b C ty f ht=>dp.o.other f (by rcases ht with rfl|rfl|rfl<;>decide) (by rcases ht with rfl|rfl|rfl<;>decide) (by rcases ht with rfl|rfl|rfl<;>decide)) fun b f=>by
      obtain⟨vs,q1,_⟩:=(u.o.ot.same fu.o).mat;obtain⟨_,C,j⟩:=ah q1 f;rintro(e|e|e|e)
      ·subst e;have :=dp.o.pool.blk;rw[j]at this;simp at this
      ·subst e;obtain⟨es,Le,X,_⟩:=dp.o.pool.map;rw[j]at X;cases X
      ·subst e;have :=dp.o.met;unfold MeterAt at this;rw[j]at this;simp at this
      ·exact u.o.sep b e f
     have Ke:w6.heap.size≤wg.heap.size:=by have :=u.o.k6.size;have :=fu.o.size;omega
     have LI:=N.o.kp.size;have KD:Hid (∀b,vn.ownBlock=some b→b<wg.heap.size):=ae fun b f=>by
      obtain⟨vs,q1,_⟩:=(u.o.ot.same fu.o).mat;obtain⟨_,C,j⟩:=ah q1 f;exact am j
     obtain⟨g5,O,a8,J1,Jf,k5,_,Kr,JO⟩:=v.mat.push (by omega) (aN N.o.row Ke) (by rw[List.length_map,u.o.len];omega);have If:∀b,aH.ownBlock=some b→vn.ownBlock≠some b:=fun b f e=>by
      rcases N.o.vlo b f with h|h
      ·exact u.o.sep b h e
      ·have :=KD.o b e;omega
     have E:∀{b:Nat} {cs:Array Value} {ty:TypeId},wr.heap[b]?=some (.cells cs ty (0,0))→ty≠41→vn.ownBlock≠some b:=fun f ht e=>by
      obtain⟨vs,q1,_⟩:=v.mat;obtain⟨_,C,j⟩:=ah q1 e;rw[f]at j;simp at j;exact ht j.2
     have Ji:MaSt a8 J.heap.size x p mm I aH L' (401 -(L'.length:Int)) fun _=>True:=(N.o.mak.keep2 k5 (E N.o.mak.blk (by decide)) (fun b f=>by
      rcases f with e|e|e|e
      ·subst e;exact E N.o.mak.pool.blk (by decide)
      ·subst e;intro e2;obtain⟨vs,q1,_⟩:=v.mat;obtain⟨_,C,j⟩:=ah q1 e2;obtain⟨es,Le,X,_⟩:=N.o.mak.pool.map;rw[j]at X;cases X
      ·subst e;exact E N.o.mak.met (by decide)
      ·exact If b e) fun b C f _=>E f (by decide)).mono fun _ _ _=>trivial
     have U:=v.next k5 Jf
     have fd:=k5.at v.blk (E v.blk (by decide));rw[List.length_map,u.o.len]at J1 Jf U;have gJ:Keeps (·≠o) a8 (a8.setCell ⟨o,2,none⟩ (.slice (IQ g5 0) (k+1) O)):=(af (·≠o) a8).setCell (fun hh=>hh.2 rfl) _;have I2:=Ji.keep2 gJ (by omega) (fun b f e=>Ji.other fd (by decide) (by decide) (by decide) (e▸f)) fun b C f _ e=>by subst e;rw[fd]at f;simp at f
     have JL:∀b,vl.ownBlock=some b→J.heap.size≤b:=fun b f=>by
      obtain⟨vs,q1,_⟩:=u.o.mak.pool.own;exact(ah q1 f).1
     have Jg:∀b,vn.ownBlock=some b→w6.heap.size≤b:=fun b f=>by
      obtain⟨vs,q1,_⟩:=u.o.ot.mat;exact(ah q1 f).1
     have JJ:J.heap.size≤w6.heap.size:=by omega
     have I5:Keeps (fun b=>b≠o∧vn.ownBlock≠some b) wr (a8.setCell ⟨o,2,none⟩ (.slice (IQ g5 0) (k+1) O)):=k5.trans gJ fun b _ f=>⟨f.2,f.1⟩;have dE:Keeps (·≠I) J (a8.setCell ⟨o,2,none⟩ (.slice (IQ g5 0) (k+1) O)):=((u.o.k2.tr_same fu.o).trans N.o.kp fun b f (X:b≠I)=>(⟨X,fun hd=>by
      rcases hd with e|e|e|e
      ·omega
      ·omega
      ·exact X e
      ·have :=JL b e;omega⟩:b≠I∧¬Px p mm I vl b)).trans I5 fun b f (X:b≠I)=>(⟨X,by omega,fun e=>by have :=Jg b e;omega⟩:b≠I∧b≠o∧vn.ownBlock≠some b)
     have IW:Keeps (z5≤·) w6 (a8.setCell ⟨o,2,none⟩ (.slice (IQ g5 0) (k+1) O)):=((u.o.k6.tr_same fu.o).trans N.o.kp fun b f (X:z5≤b)=>(⟨X,fun hd=>by
      rcases hd with e|e|e|e
      ·omega
      ·omega
      ·omega
      ·rcases u.o.vlo b e with h|h<;>omega⟩:z5≤b∧¬Px p mm I vl b)).trans I5 fun b f (X:z5≤b)=>(⟨X,by omega,fun e=>by have :=Jg b e;omega⟩:z5≤b∧b≠o∧vn.ownBlock≠some b)
     have cH:OwnInts (a8.setCell ⟨o,2,none⟩ (.slice (IQ g5 0) (k+1) O)) wo.heap.size (.slice sl ml cl) (l.map Int.ofNat):=(Jb.o.keep N.o.kp fun b f=>by
      obtain⟨_,C,j⟩:=ah Jb.o f;exact dp.o.other j (by decide) (by decide) (by decide)).keep I5 fun b f=>by
      obtain⟨_,C,j⟩:=ah (Jb.o.keep N.o.kp fun b f=>by
       obtain⟨_,C,j⟩:=ah Jb.o f;exact dp.o.other j (by decide) (by decide) (by decide)) f
      exact⟨fun e=>by subst e;rw[v.blk]at j;simp at j,E j (by decide)⟩
     have Y:=gr (id:List Nat→List Nat) L (fR A t l);rw[I0]at Y;have y2:=xc1 v.blk 2 rfl;have z1:=xc1 fd 2 rfl;have z2:=ao fd 2;obtain⟨su,mu,cu,rfl⟩:∃su mu cu,ua=.slice su mu cu:=by obtain⟨su,cu,e⟩:=av u.o.ot.acc;exact⟨_,_,_,e⟩
     have ce:∀b,aH.ownBlock=some b→(Value.slice (IQ g5 0) (k+1) O).ownBlock≠some b:=fun b f e=>by
      simp[Value.ownBlock]at e;subst e;rcases JO with h|h
      ·exact If _ f h
      ·have :=N.o.mak.lt (b:=g5) (.inr (.inr (.inr f)));omega
     have gH:=ae (And.intro U (And.intro I2 (And.intro dE (And.intro IW (And.intro cH (And.intro Y ce))))));have KE:Hid (∀b,aH.ownBlock=some b→b<z5∨w6.heap.size≤b):=ae fun b f=>(N.o.vlo b f).elim (fun h=>u.o.vlo b h) fun h=>.inr (by omega);have J4:=ae N.o.good;obtain⟨sv,mv,cv,rfl⟩:∃sv mv cv,vn=.slice sv mv cv:=by obtain⟨sv,cv,e⟩:=u.o.ot.mat.shape;exact⟨_,_,_,e⟩
     clear v Jf k5 If E Ji U fd gJ I2 JL Jg I5 dE IW cH Y ce JO Kr I0
     go_wp2_with (at_builtin;refine ap rfl _ _ _ rfl rfl rfl J1 ?_;clear J1)
     generalize a8.setCell ⟨o,2,none⟩ (.slice (IQ g5 0) (k+1) O)=gI at gH⊢;obtain⟨U,I2,dE,IW,cH,Y,ce⟩:=gH.o;have kd:Same gI gI.drew:=al (af (fun _=>True) gI);have Je:=U.same kd;have Lk:=ae (Ll.o.keep (dE.tr_same kd) fun b h1 _=>by omega);have KM:=ae ((eK cH kd).ints (fun y hy=>by obtain⟨n,hn,rfl⟩:=bQ.1 hy;have :=IZ.o.2.2 n hn;constructor<;>omega));have Kx:=ae Je;have Kz:=ae Je.blk;clear U I2 dE IW cH Y ce Je kd;refine zq0 9 (.take 0 (.take 1 (.take 2 (.take 3 (.take 4 (.one 5 (.one 6 (.one 7 (.take 8 .last))))))))) (fun w'=>w'.heap[o]?=(IC t su mu cu (IQ g5 0) (k+1) O)) (by kernel_rfl) (by kernel_rfl) Kz.o ?_
     iterate 5 (first|(apply aC;rfl;rfl;go_simp)|(apply aB;rfl;rfl;intro w' hS;have x1:=ai hS 1;simp only[List.getElem?_toArray,List.getElem?_cons_zero,List.getElem?_cons_succ]at x1;go_simp;exact rfl;go_simp))
     refine aI (ay rfl rfl fun K dZ=>?_);go_simp;refine kK (p:=gG (iS A t)) (l:=l.map Int.ofNat) iv KM.o (fun y _ w' R k hR=>eU (Lk.o.same k) y fun e he=>hR e w' he (af _ w')) ?_;rintro e w7 rfl k7;have D:=Kx.o.same k7;refine dZ _ _ _ D.blk (fun _ h=>h) ?_;clear dZ K;have Ku:=yR (t:=t) l IZ.o.2.2;rw[Ku];have JB:((L.take k).map fun l=>l.any fun s=>(cq A t).getD s false).length=k:=by rw[List.length_map,List.length_take];omega
     generalize Kv:(l.any fun s=>(cq A t).getD s false)=bv;have Lm:=ae Kv;obtain⟨g7,Z,w8,J0,IT,Jl,Lt,_⟩:=bi (P:=Tryz.prog) w7 164 164 4 Tryz.underlying164 gm rfl D.acc (by have :=k7.size;have :=gH.o.2.2.2.1.size;have :gI.drew.heap.size=gI.heap.size:=rfl;omega) (.bool bv) rfl (by rw[JB];omega) (by decide);rw[JB]at J0 IT;have bL:∀{b:Nat} {cs:Array Value} {ty:TypeId},w7.heap[b]?=some (.cells cs ty (0,0))→ty≠4→(Value.slice su mu cu).ownBlock≠some b:=fun f ht e=>by
      obtain⟨_,C,j⟩:=ah D.acc e;rw[f]at j;simp at j;exact ht j.2
     have Jh:∀b,(Value.slice su mu cu).ownBlock=some b→w6.heap.size≤b:=fun b f=>(ah D.acc f).1;have aL:=Jl.at D.blk (bL D.blk (by decide));have I4:Same gI w7:=(al (af (fun _=>True) gI)).tr k7;have Jt:=gH.o.2.1.same I4;have JX:MaSt w8 J.heap.size x p mm I aH L' (401 -(L'.length:Int)) fun _=>True:=Jt.keep2 Jl (bL Jt.blk (by decide)) (fun b f e=>by
      obtain⟨_,C,j⟩:=ah D.acc e;exact Jt.other j (by decide) (by decide) (by decide) f) fun b C f _=>bL f (by decide)
     have gJ:Keeps (·≠o) w8 (w8.setCell ⟨o,1,none⟩ (.slice (IQ g7 0) (k+1) Z)):=(af (·≠o) w8).setCell (fun hh=>hh.2 rfl) _;have Kb:=JX.keep2 gJ (by omega) (fun b f e=>JX.other aL (by decide) (by decide) (by decide) (e▸f)) fun b C f _ e=>by subst e;rw[aL]at f;simp at f
     have Kf:L'.take (k+1)=L.take k++[l]:=by
      obtain⟨M,hM⟩:=gH.o.2.2.2.2.2.1;rw[←hM,List.take_append_of_le_length (by omega),List.take_add_one,JE.o];rfl
     have Jn:OwnBools w8 w6.heap.size (.slice (IQ g7 0) (k+1) Z) ((L'.take (k+1)).map fun l=>l.any fun s=>(cq A t).getD s false):=by
      unfold OwnBools;rw[Kf,List.map_append,List.map_cons,List.map_nil,Lm.o,List.length_append,JB,List.map_append];exact IT
     have JH:=D.accNext Jl Jn;have Jk:Keeps (fun b=>b≠o∧(Value.slice su mu cu).ownBlock≠some b) w7 (w8.setCell ⟨o,1,none⟩ (.slice (IQ g7 0) (k+1) Z)):=Jl.trans gJ fun b _ f=>⟨f.2,f.1⟩;have JJ:J.heap.size≤w6.heap.size:=by omega
     have dE:Keeps (·≠I) J (w8.setCell ⟨o,1,none⟩ (.slice (IQ g7 0) (k+1) Z)):=(gH.o.2.2.1.tr_same I4).trans Jk fun b f (X:b≠I)=>(⟨X,by omega,fun e=>by have :=Jh b e;omega⟩:b≠I∧b≠o∧(Value.slice su mu cu).ownBlock≠some b);have IW:Keeps (z5≤·) w6 (w8.setCell ⟨o,1,none⟩ (.slice (IQ g7 0) (k+1) Z)):=(gH.o.2.2.2.1.tr_same I4).trans Jk fun b f (X:z5≤b)=>(⟨X,by omega,fun e=>by have :=Jh b e;omega⟩:z5≤b∧b≠o∧(Value.slice su mu cu).ownBlock≠some b);have KC:Hid (PrSt A t J w6 (w8.setCell ⟨o,1,none⟩ (.slice (IQ g7 0) (k+1) Z)) z5 x p mm I o (k+1) aH (.slice (IQ g7 0) (k+1) Z) (.slice (IQ g5 0) (k+1) O) L' (cE++[r])):=ae
      {mak:=Kb
       ot:=by rw[List.map_append];exact JH
       k2:=dE
       k6:=IW
       vlo:=KE.o
       sep:=gH.o.2.2.2.2.2.2
       law:=KF.o
       len:=by rw[List.length_append,u.o.len];rfl
       good:=J4.o}
     have KQ:=xc1 aL 1 rfl;have Lx:=ao aL 1;have Lg:=ae D.blk;have Lf:=ae aL;clear IT bL Jh aL I4 Jt JX gJ Kb Kf Jn JH Jk JJ dE IW Jl D Ku JB Kv;refine aI (ay rfl rfl fun K dZ=>?_);go_simp;refine dZ _ _ _ (aw Lg.o _) (fun _ h=>h) ?_;clear dZ K;refine aI (bZ _ _ _ rfl rfl rfl ?hs ?hx J0 _ Lf.o (fun _ h=>h) ?_)
     case hs=>rfl
     case hx=>rfl
     clear J0;go_simp
     iterate 1 (first|(apply aC;rfl;rfl;go_simp)|(apply aB;rfl;rfl;intro w' hS;go_simp;exact rfl;go_simp))
     refine aO rfl rfl fun K dZ=>?_;go_simp;refine dZ _ _ (aG ?_);clear dZ K;go_wp2_with fail;go_roundw
     case rel=>exact⟨k+1,aH,_,_,L',cE++[r],by go_num,by omega,KC⟩
     case measure=>simp[intOf];omega
  ·have I6:=(ek (fR A t) id [0] k).len
   change (cA A t k).2.length≤(cA A t k).1.length at I6
   rw[u.o.law]at I6;have LH:k=L.length:=by have :=u.o.len;simp only at I6;omega
   have I7:cA A t 400=(L,cE):=by
    have h1:=jI (rowf:=fR A t) (key:=id) (s0:=[0]) (k:=k) (by
     show(cA A t k).2.length=(cA A t k).1.length
     rw[u.o.law];have :=u.o.len;simp only;omega) 400 hk
    exact h1.trans u.o.law
   obtain⟨o0,o1,o2⟩:=xc3 u.o.ot.blk rfl rfl rfl;have Jv:AuOk (eR A t 400):=Es (by omega) HD.o Js.o;have Jo:=OwnBools.bools u.o.ot.acc;have Ki:=u.o.ot.mat.rows (by
    intro l hl x hx;have :=Jv.bounds.2 l (by unfold eR;rw[I7];exact hl) x hx;exact this)
   have Ln:Hid (AutoAt wo (.agg #[t,ua,vn]) (eR A t 400)):=ae (by
    refine⟨ua,vn,rfl,?_,?_,Jv.bounds.1⟩
    ·unfold eR;rw[I7];have :L.take k=L:=List.take_of_length_le (by omega);rw[this]at Jo;exact Jo
    ·unfold eR;rw[I7];exact Ki)
   have KH:=ae Jv;obtain⟨su,mu,cu,rfl⟩:∃su mu cu,ua=.slice su mu cu:=by obtain⟨su,cu,e⟩:=av u.o.ot.acc;exact⟨_,_,_,e⟩
   obtain⟨sv,mv,cv,rfl⟩:∃sv mv cv,vn=.slice sv mv cv:=by obtain⟨sv,cv,e⟩:=u.o.ot.mat.shape;exact⟨_,_,_,e⟩
   have KP:Hid (Keeps (·<w0.heap.size) w0 wo):=ae (KO.o.trans u.o.k2 fun b f (JA:b<w0.heap.size)=>⟨trivial,by omega⟩);clear Jo Ki Jv I7 I6;go_wp2_with fail;refine iz Ln.o KH.o ?_;rintro e w8 d8 rfl h8 k8;have HF:=ae (HR.o _ w8 d8 rfl (h8.below (by have :=KP.o.size;omega)) (KP.o.tr_same k8));clear h8 k8;go_wp2_with fail;exact HF.o
end
end Go.Proofs.YtojegnbejmeehaaGreatDoor
