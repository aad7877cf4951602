/- Helpers of the proof of TopNames. -/
import Derived.Test.YtojegnbejmeehaaGreatDoorJAN
import Derived.Test.YtojegnbejmeehaaGreatDoorJAR
namespace Go.Proofs.YtojegnbejmeehaaGreatDoor
open Go.RowKit
set_option maxRecDepth 10000
set_option maxHeartbeats 16000000
set_option linter.all false
section
attribute [local irreducible] wpQuiet ax au aQ
variable {R:Ending→World→Prop} {w:World} {x n:Nat} {v:Value} {rs:List Nat}
theorem Gw {K0:Act→World→Prop} {P:Nat→World→Prop} (F:Nat→Act) {G:Prop} (h:(∀y a,P y a→K0 (F y) a)→G) (c:∀y a,P y a→K0 (F y) a):G:=h c
theorem ct {e:World} {x:Nat} {j i g f:Value} {t:TypeId} (h:e.heap[x]?=some (.cells #[j,i,g,f] t (0,0))) (a b c d:Value):((((e.setCell ⟨x,0,none⟩ a).setCell ⟨x,1,none⟩ b).setCell ⟨x,2,none⟩ c).setCell ⟨x,3,none⟩ d).heap[x]?=some (.cells #[a,b,c,d] t (0,0)):=by
 rw[aj (aj (aj (aj h _ _) _ _) _ _)];simp
theorem nP {u:Value} {a:List ByteArray} (hv:StrsAt w u a) (t:ByteArray) (h:∀e f,e=.returned (.bool (dL a t))→Same w f→R e f):
 Calls Tryz.prog 175 #[u,.string t] w R:=by
 have d:=ae h;clear h;go_enter Tryz.func175,Tryz.ntmps175;go_wp2_with fail;refine iJ hv t ?_;rintro e i rfl g;have b:=ae g;clear g;unfold kh
 cases c:dL a t with
 |true=>
  rw[c]at d;simp only[if_true];have h0:(0:Int)≤((a.findIdx fun u=>decide (u=t):Nat):Int):=by omega
  generalize((a.findIdx fun u=>decide (u=t):Nat):Int)=z at h0⊢;clear c;go_wp2_with fail;exact d.o _ _ (by simp[h0]) b.o
 |false=>
  rw[c]at d;simp only[Bool.false_eq_true,if_false];clear c;go_wp2_with fail;exact d.o _ _ rfl b.o
theorem Cu (c:∀e b u,e=.returned u→StrsAt b u wordsL→Same w b→R e b):Calls Tryz.prog 176 #[] w R:=by
 have g:=ae c;clear c;have hs:=fD w wordsL 9 17 rfl (by decide);have a:=sal w (.cells (wordsL.map Value.string).toArray 9);have d:=ae hs;have f:=ae a;clear hs a;simp only[wordsL,List.map_cons,List.map_nil]at d f;go_enter Tryz.func176,Tryz.ntmps176;go_wp2_with fail;exact g.o _ _ _ rfl d.o f.o
theorem LexAt.kept {S:Nat→Prop} {a:World} (h:LexAt w x v rs n) (k:Keeps S w a) (hx:S x) (hv:∀b,live v=some b→S b):LexAt a x v rs n:=
 ⟨k.at h.blk hx,h.runes.keep k hv,h.ne,h.gk,h.le,h.at_⟩
def eM (l:List Nat) (a:Nat):Qk:=⟨if dL wordsL (enc l)then 3 else 1,enc l,0,a⟩
theorem Ai (h:LexAt w x v rs n) (b:∀c:n<rs.length,more rs[n]=false) (d:∀e a,e=.returned (.bool false)→Same w a→R e a):
 Calls Tryz.prog 174 #[.pointer (IQ x 0)] w R:=by
 by_cases c:n<rs.length
 ·have :=b c;exact yE h c fun e a f k=>d e a (by rw[f,this]) k
 ·have e:n=rs.length:=by have :=h.at_;omega
  subst e;exact wY h d
theorem Br {l:List Nat} {m:Nat} (a:∀b:m<l.length,more l[m]=false):(l.drop m).takeWhile more=[]∧(l.drop m).dropWhile more=l.drop m:=by
 by_cases b:m<l.length
 ·rw[List.drop_eq_getElem_cons b,List.takeWhile_cons,List.dropWhile_cons,a b];exact⟨rfl,rfl⟩
 ·rw[List.drop_eq_nil_of_le (by omega)];exact⟨rfl,rfl⟩
theorem EW (h:LexAt w x v rs n) {c:Nat} {r:List Nat} (hd:rs.drop n=c::r) (hc:cd c=true) (Jg:(c::r.takeWhile more).length≤12)
 (hR:∀e G m,e=.returned (.tuple (Id ((eM (c::r.takeWhile more) (pos rs n)).val) true))→LexAt G x v rs m→Keeps (·≠x) w G→rs.drop m=r.dropWhile more→n<m→R e G):
 Calls Tryz.prog 123 #[.pointer (IQ x 0)] w R:=by
 have HR:=ae hR;clear hR;have H:=ae h;have Jq:=Nat.le_trans (dT rs) h.le;have Jm:x<w.heap.size:=am h.blk;have I3:more c=true:=by unfold more;rw[hc];rfl
 have HD:Hid ((rs.drop n).takeWhile more=c::r.takeWhile more∧(rs.drop n).dropWhile more=r.dropWhile more):=ae (by rw[hd,List.takeWhile_cons,List.dropWhile_cons,I3];exact⟨rfl,rfl⟩);have k0:Same w (bJ w):=(af _ w).alloc _;have I5:(bJ w).heap[w.heap.size]?=_:=ag w _;have H0:=ae (h.same k0);have fd:=ae k0;have fw:=ae I5;unfold bJ at H0 fd fw;clear k0 I5 h hd;go_enter Tryz.func123,Tryz.ntmps123;go_wp2_with fail;generalize w.alloc _=w1 at fd fw H0⊢;refine pw H0.o ?_;rintro e w2 rfl k2;have H2:=ae (H0.o.same k2);have I9:=ae (fd.o.tr k2);have gJ:=ae (k2.at fw.o trivial);clear k2 H0 fd fw;go_wp2_with fail
 go_loopw [] (fun wr=>∃m,n≤m∧m≤rs.length∧Hid ((rs.take m).drop n++(rs.drop m).takeWhile more=(rs.drop n).takeWhile more)∧Hid ((rs.drop m).dropWhile more=(rs.drop n).dropWhile more)∧Hid (LexAt wr x v rs m)∧Hid (Keeps (·≠x) w wr)∧Hid (wr.heap[w.heap.size]?=(Is 0 GA 0 0))) (fun wr=>re x rs.length wr)
 case atStart=>exact⟨n,Nat.le_refl _,H.o.at_,ae (by rw[List.drop_take];simp),ae rfl,H2,ae (I9.o.bar x),gJ⟩
 case round=>
  obtain⟨m,IT,Jo,HT,HW,HX,HK,HB⟩:=hrel;have I4:=fK HX.o;clear H2 I9 gJ;by_cases V:∃hn:m<rs.length,more rs[m]=true
  ·obtain⟨X,cH⟩:=V;go_wp2_with fail;refine yE HX.o X ?_;rintro e o rfl k3;have IZ:rs.drop m=rs[m]::rs.drop (m+1):=List.drop_eq_getElem_cons X;have f:=ae (HX.o.same k3);have dZ:=ae (HK.o.tr_same k3);have L:=ae (k3.at HB.o trivial);clear k3 HX HK HB;rw[cH];have Ji:Hid ((rs.take (m+1)).drop n++(rs.drop (m+1)).takeWhile more=(rs.drop n).takeWhile more):=ae (by
    rw[←HT.o,IZ,List.takeWhile_cons,cH];simp only[if_true];rw[List.take_add_one,List.getElem?_eq_getElem X,List.drop_append_of_le_length (by rw[List.length_take];omega)];simp)
   have Jh:Hid ((rs.drop (m+1)).dropWhile more=(rs.drop n).dropWhile more):=ae (by rw[←HW.o,IZ,List.dropWhile_cons,cH];rfl);have t:=xc1 f.o.blk 3 rfl;have g3:=ao f.o.blk 3;clear IZ cH HT HW;go_wp2_with fail;have I7:=ae (f.o.next (af _ _) (show m+1≤rs.length from X));have Jj:=ae (dZ.o.but 3 (IP ((m:Int)+1)));have Jk:=ae (((af (·≠x) o).but 3 (IP ((m:Int)+1))).at L.o (by omega));go_roundw
   case rel=>exact⟨m+1,by omega,X,Ji,Jh,I7,Jj,Jk⟩
   case measure=>
    rw[I4];have :=fK I7.o;rw[show((m+1:Nat):Int)=(m:Int)+1 by omega]at this;rw[this];omega
  ·have IS:∀hn:m<rs.length,more rs[m]=false:=fun hn=>by
    cases hm:more rs[m]with
    |true=>exact absurd ⟨hn,hm⟩ V
    |false=>rfl
   obtain⟨e1,e2⟩:=Br IS;have fu:Hid ((rs.take m).drop n=c::r.takeWhile more):=ae (by rw[←HD.o.1,←HT.o,e1,List.append_nil]);have Ja:Hid (rs.drop m=r.dropWhile more):=ae (by rw[←HD.o.2,←HW.o,e2]);have gI:n<m:=by
    rcases Nat.lt_or_eq_of_le IT with h|h
    ·exact h
    ·exfalso
     subst h;have :=fu.o;rw[List.drop_eq_nil_of_le (by rw[List.length_take];omega)]at this
     cases this
   go_wp2_with fail;refine Ai HX.o IS ?_;rintro e o rfl k3;have f:=ae (HX.o.same k3);have dZ:=ae (HK.o.tr_same k3);have L:=ae (k3.at HB.o trivial);clear k3 HX HK HB HT HW e1 e2 V IS I4;have c0:=xc1 f.o.blk 0 rfl;have Jf:pos rs n≤pos rs m:=oK IT;have Je:pos rs m≤(enc rs).size:=oL rs m;have IW:=nJ rs IT;rw[fu.o]at IW;have Jn:=f.o.le;have I2:(enc rs).size≤maxLen:=by unfold maxLen;omega
   go_wp2_with fail
   rename_i K0 Jr
   have kd:Same o o.drew:=al (af (fun _=>True) o);refine zq0 11 (.take 0 (.take 1 (.take 2 (.take 3 (.take 4 (.take 5 (.take 8 (.two 6 10 (.take 7 (.take 9 (.one 10 .last))) (.one 6 (.take 7 (.take 9 .last))))))))))) (Same o) (by kernel_rfl) (by kernel_rfl) kd ?_
   iterate 7 (first|(apply aC;rfl;rfl;go_simp)|(apply aB;rfl;rfl;intro G k;have q0:=ak k c0 trivial;go_simp;exact rfl;go_simp))
   apply Gw (K0:=K0) (P:=fun y wx=>Same o wx∧o.heap.size≤y∧wx.heap[y]?=(Is 1 (enc (c::r.takeWhile more)) 0 (pos rs n)))
   case h=>
    intro F;have F:=ae F;refine kP ?_ ?_
    ·refine ay rfl rfl fun K a=>?_;go_simp;refine pw (f.o.same kd) ?_;rintro e w4 rfl k4;refine a (Same o) _ _ (kd.tr k4) (fun _ h=>h) ?_;clear a K
     iterate 2 (first|(apply aC;rfl;rfl;go_simp)|(apply aB;rfl;rfl;intro G k;go_simp;exact rfl;go_simp))
     refine aI (ay rfl rfl fun K a=>?_);go_simp;refine a (Same o) _ _ ((kd.tr k4).alloc _) (fun _ h=>h) ?_;clear a K;have hy:=ag w4 Hr;obtain⟨E,D,C,t⟩:=xc4 hy rfl rfl rfl rfl;obtain⟨g0,g1,g2,g3⟩:=xf4 hy;refine aO rfl rfl fun K hK=>?_;go_simp;have hk:Same o _:=(kd.tr k4).alloc (Hv 1 (enc (c::r.takeWhile more)) 0 (pos rs n));have M:=ag w4 (Hv 1 (enc (c::r.takeWhile more)) 0 (pos rs n));have cE:o.heap.size≤w4.heap.size:=k4.size;generalize w4.heap.size=y at hk M cE⊢;exact hK _ _ (aG (show K0 _ _ from F.o y _ ⟨hk,cE,M⟩))
    ·refine ay rfl rfl fun K a=>?_;go_simp;refine a (Same o) _ _ (kd.alloc _) (fun _ h=>h) ?_;clear a K;have hy:(o.drew.alloc Hr).heap[o.heap.size]?=_:=ag o.drew Hr;have ky:Same o _:=kd.alloc Hr;refine aI (ay rfl rfl fun K a=>?_);go_simp;refine pw (f.o.same ky) ?_;rintro e w4 rfl k4;refine a (Same o) _ _ (ky.tr k4) (fun _ h=>h) ?_;clear a K
     iterate 2 (first|(apply aC;rfl;rfl;go_simp)|(apply aB;rfl;rfl;intro G k;go_simp;exact rfl;go_simp))
     have q:=k4.at hy trivial;obtain⟨E,D,C,t⟩:=xc4 q rfl rfl rfl rfl;obtain⟨g0,g1,g2,g3⟩:=xf4 q;refine aO rfl rfl fun K hK=>?_;go_simp;have hk:=(ky.tr k4).box4 (Nat.le_refl _) (IP 1) (.string (enc (c::r.takeWhile more))) IU (IP (pos rs n:Int));have M:=ct q (IP 1) (.string (enc (c::r.takeWhile more))) IU (IP (pos rs n:Int));generalize Jc:o.heap.size=y at hk M⊢;exact hK _ _ (aG (show K0 _ _ from F.o y _ ⟨hk,Nat.le_of_eq Jc,M⟩))
   case c=>
    intro y wx hP;obtain⟨hk,cE,M⟩:=hP;have I1:Hid (∀z∈c::r.takeWhile more,Gk z):=ae (fun z M=>by
     rw[←fu.o]at M;exact f.o.gk z (List.mem_of_mem_take (List.mem_of_mem_drop M)))
    have I0:Hid ((enc (c::r.takeWhile more)).size≤2000):=ae (by
     rw[←IW,ByteArray.size_extract];omega)
    have I6:=ae (f.o.same hk);have I8:=ae (dZ.o.tr_same hk);have Jb:=ae (hk.at L.o trivial);have HZ:=ae M;have IR:w.heap.size≠y:=by have :=am L.o;omega
    have Jd:x≠y:=by have :=am f.o.blk;omega
    have Jl:w.heap.size<y:=by have :=am L.o;omega
    have A:Hid (eM (c::r.takeWhile more) (pos rs n)=⟨if dL wordsL (enc (c::r.takeWhile more))then 3 else 1,enc (c::r.takeWhile more),0,(pos rs n:Nat)⟩):=ae rfl;generalize hl:c::r.takeWhile more=l at HR I1 I0 HZ A Jg;generalize pos rs n=I at HZ A HR;have Jp:((l.length:Nat):Int)≤12:=by omega
    clear M hk cE IW c0 Jf Je f dZ L hl fu I3 kd I2;have N:=xc1 HZ.o 1 rfl;have T:Same wx wx.drew:=al (af (fun _=>True) wx);go_wp2_with fail;refine az (.take 1 (.take 2 (.one 0 (.one 3 .done)))) (Same wx) (by kernel_rfl) (by kernel_rfl) T ?_
    iterate 2 (first|(apply aF;rfl;rfl;go_simp)|(apply aD;rfl;rfl;intro G k;have q0:=ak k N trivial;go_simp;exact rfl;go_simp))
    refine aP (ay rfl rfl fun K a=>?_);go_simp;refine Cu ?_;rintro e w5 u rfl hu k5;refine a (Same wx) _ _ (T.tr k5) (fun _ h=>h) ?_;clear a K;refine aP (ay rfl rfl fun K a=>?_);go_simp;refine nP hu (enc l) ?_;rintro e w6 rfl k6;refine a (Same wx) _ _ ((T.tr k5).tr k6) (fun _ h=>h) ?_;clear a K;apply aW;go_simp;have U:=(T.tr k5).tr k6;have dp:=ae (I6.o.same U);have dE:=ae (I8.o.tr_same U);have gH:=ae (U.at Jb.o trivial);have J:=ae (U.at HZ.o trivial);clear k5 k6 U hu I6 I8 Jb HZ T N;have O:=xc1 J.o 0 rfl;have f0:=ao J.o 0
    cases ha:dL wordsL (enc l)with
    |true=>
     rw[ha]at A;simp only[if_true]at A;clear ha;go_wp2_with fail;have ky:=(af (·≠y) w6).but 0 (IP 3);have aH:=ae (dp.o.kept ky Jd (fun b hb=>by have :=H.o.runes.lt b hb;omega));have bL:=ae (dE.o.trans ky fun z M k=>⟨k,by omega⟩:Keeps (·≠x) w _);have ch:=ae (ky.at gH.o IR);have i:Hid ((w6.setCell ⟨y,0,none⟩ (IP 3)).heap[y]?=(Is 3 (enc l) 0 I)):=ae (by rw[aj J.o];simp);clear ky dp dE gH J O f0;generalize w6.setCell ⟨y,0,none⟩ (IP 3)=j at aH bL ch i⊢;obtain⟨O,N,z2,z3⟩:=xc4 i.o rfl rfl rfl rfl;have B:Keeps (·≠w.heap.size) j j.drew:=al (af _ j);have If:Same j j.drew:=al (af _ j);have s:=IR.symm;refine az (.take 0 (.take 1 (.take 2 (.one 3 (.take 4 (.one 5 (.take 6 .done))))))) (Keeps (·≠w.heap.size) j) (by kernel_rfl) (by kernel_rfl) B ?_
     iterate 3 (first|(apply aF;rfl;rfl;go_simp)|(apply aD;rfl;rfl;intro G k;obtain⟨q0,q1,q2,q3⟩:=xk4 k O N z2 z3 s s s s;go_simp;exact rfl;go_simp))
     refine aP (ay rfl rfl fun K a=>?_);go_simp;refine rd I1.o I0.o ?_;rintro e w8 rfl k8;refine a (Keeps (·≠w.heap.size) j) _ _ (B.tr_same k8) (fun _ h=>h) ?_;clear a K O N z2 z3
     iterate 1 (first|(apply aF;rfl;rfl;go_simp)|(apply aD;rfl;rfl;intro G k;go_simp;exact rfl;go_simp))
     have p:=If.tr k8;have d:=p.at ch.o trivial;have Z:=ae (aH.o.same p);have a8:=ae (bL.o.tr_same p);have ce:=ae d;obtain⟨E,D,C,t⟩:=xc4 d rfl rfl rfl rfl;obtain⟨g0,g1,g2,g3⟩:=xf4 d;refine aP (ay rfl rfl fun K a=>?_);go_simp;have kb:Keeps (·≠w.heap.size) j (((((w8.setCell ⟨w.heap.size,0,none⟩ (IP 3)).setCell ⟨w.heap.size,1,none⟩ (.string (enc l))).setCell ⟨w.heap.size,2,none⟩ IU).setCell ⟨w.heap.size,3,none⟩ (IP (I:Int)))):=((((B.tr_same k8).but _ _).but _ _).but _ _).but _ _;refine a (Keeps (·≠w.heap.size) j) _ _ kb (fun _ h=>h) ?_;clear a K kb p k8 E D C t g0 g1 g2 g3
     iterate 1 (first|(apply aF;rfl;rfl;go_simp)|(apply aD;rfl;rfl;intro G k;go_simp;exact rfl;go_simp))
     apply aW;go_simp;have kw:=(((((af (·≠w.heap.size) w8).but 0 (IP 3)).but 1 (.string (enc l))).but 2 IU).but 3 (IP (I:Int)));have g:=ct ce.o (IP 3) (.string (enc l)) IU (IP (I:Int));have Y:=ae (Z.o.kept kw (by omega) (fun b hb=>by have :=H.o.runes.lt b hb;omega));have aL:=ae (a8.o.box4 (Nat.le_refl _) (IP 3) (.string (enc l)) IU (IP (I:Int)));clear kw Z a8 ce d;generalize((((w8.setCell ⟨w.heap.size,0,none⟩ (IP 3)).setCell ⟨w.heap.size,1,none⟩ (.string (enc l))).setCell ⟨w.heap.size,2,none⟩ IU).setCell ⟨w.heap.size,3,none⟩ (IP (I:Int)))=w9 at g Y aL⊢;obtain⟨E,D,C,t⟩:=xc4 g rfl rfl rfl rfl;go_wp2_with fail;refine bodyPost_ret (v:=.tuple (Id (Ig 3 (enc l) 0 I) true)) (by simp[results,Tryz.results123,go_sem,E,D,C,t]) rfl ?_;exact HR.o _ _ m (by rw[A.o];rfl) Y.o aL.o Ja.o gI
    |false=>
     rw[ha]at A;simp only[Bool.false_eq_true,if_false]at A;clear ha;clear O f0;go_wp2_with fail;have aH:=ae dp.o;have bL:=ae dE.o;have ch:=ae gH.o;have i:=ae J.o;clear dp dE gH J;generalize w6=j at aH bL ch i⊢;obtain⟨O,N,z2,z3⟩:=xc4 i.o rfl rfl rfl rfl;have B:Keeps (·≠w.heap.size) j j.drew:=al (af _ j);have If:Same j j.drew:=al (af _ j);have s:=IR.symm;refine az (.take 0 (.take 1 (.take 2 (.one 3 (.take 4 (.one 5 (.take 6 .done))))))) (Keeps (·≠w.heap.size) j) (by kernel_rfl) (by kernel_rfl) B ?_
     iterate 3 (first|(apply aF;rfl;rfl;go_simp)|(apply aD;rfl;rfl;intro G k;obtain⟨q0,q1,q2,q3⟩:=xk4 k O N z2 z3 s s s s;go_simp;exact rfl;go_simp))
     refine aP (ay rfl rfl fun K a=>?_);go_simp;refine rd I1.o I0.o ?_;rintro e w8 rfl k8;refine a (Keeps (·≠w.heap.size) j) _ _ (B.tr_same k8) (fun _ h=>h) ?_;clear a K O N z2 z3
     iterate 1 (first|(apply aF;rfl;rfl;go_simp)|(apply aD;rfl;rfl;intro G k;go_simp;exact rfl;go_simp))
     have p:=If.tr k8;have d:=p.at ch.o trivial;have Z:=ae (aH.o.same p);have a8:=ae (bL.o.tr_same p);have ce:=ae d;obtain⟨E,D,C,t⟩:=xc4 d rfl rfl rfl rfl;obtain⟨g0,g1,g2,g3⟩:=xf4 d;refine aP (ay rfl rfl fun K a=>?_);go_simp;have kb:Keeps (·≠w.heap.size) j (((((w8.setCell ⟨w.heap.size,0,none⟩ (IP 1)).setCell ⟨w.heap.size,1,none⟩ (.string (enc l))).setCell ⟨w.heap.size,2,none⟩ IU).setCell ⟨w.heap.size,3,none⟩ (IP (I:Int)))):=((((B.tr_same k8).but _ _).but _ _).but _ _).but _ _;refine a (Keeps (·≠w.heap.size) j) _ _ kb (fun _ h=>h) ?_;clear a K kb p k8 E D C t g0 g1 g2 g3
     iterate 1 (first|(apply aF;rfl;rfl;go_simp)|(apply aD;rfl;rfl;intro G k;go_simp;exact rfl;go_simp))
     apply aW;go_simp;have kw:=(((((af (·≠w.heap.size) w8).but 0 (IP 1)).but 1 (.string (enc l))).but 2 IU).but 3 (IP (I:Int)));have g:=ct ce.o (IP 1) (.string (enc l)) IU (IP (I:Int));have Y:=ae (Z.o.kept kw (by omega) (fun b hb=>by have :=H.o.runes.lt b hb;omega));have aL:=ae (a8.o.box4 (Nat.le_refl _) (IP 1) (.string (enc l)) IU (IP (I:Int)));clear kw Z a8 ce d;generalize((((w8.setCell ⟨w.heap.size,0,none⟩ (IP 1)).setCell ⟨w.heap.size,1,none⟩ (.string (enc l))).setCell ⟨w.heap.size,2,none⟩ IU).setCell ⟨w.heap.size,3,none⟩ (IP (I:Int)))=w9 at g Y aL⊢;obtain⟨E,D,C,t⟩:=xc4 g rfl rfl rfl rfl;go_wp2_with fail;refine bodyPost_ret (v:=.tuple (Id (Ig 1 (enc l) 0 I) true)) (by simp[results,Tryz.results123,go_sem,E,D,C,t]) rfl ?_;exact HR.o _ _ m (by rw[A.o];rfl) Y.o aL.o Ja.o gI
theorem sE {r:Nat}:cls r=2↔cU r=true:=by
 unfold cls
 cases a:cd r with
 |true=>
  unfold cd at a;unfold cU;simp only[Bool.or_eq_true,Bool.and_eq_true,decide_eq_true_eq,beq_iff_eq]at a;simp;omega
 |false=>
  cases b:cU r with
  |true=>simp
  |false=>simp;split<;>(try split)<;>simp
theorem uA {k:Nat} (g:0<k) (h:LexAt w x v rs n) (b:∀c:n<rs.length,cls rs[n]≠k) (f:∀e a z,e=.returned (IP z)→z≠(k:Int)→Same w a→R e a):
 Calls Tryz.prog 121 #[.pointer (IQ x 0)] w R:=by
 by_cases c:n<rs.length
 ·exact jt h c fun e a d k=>f e a _ d (by have :=b c;omega) k
 ·have e:n=rs.length:=by have :=h.at_;omega
  subst e;exact nB h fun e a d k=>f e a _ d (by omega) k
theorem Ah (h:LexAt w x v rs n) {c:Nat} {r:List Nat} (hd:rs.drop n=c::r) (hc:cU c=true) (hr:∀d l,r=d::l→cU d=false)
 (hR:∀e w',e=.returned (.tuple (Id ((⟨2,GA,(c:Int) -48,(pos rs n:Nat)⟩:Qk).val) true))→LexAt w' x v rs (n+1)→Keeps (·≠x) w w'→R e w'):
 Calls Tryz.prog 124 #[.pointer (IQ x 0)] w R:=by
 have HR:=ae hR;clear hR;have H:=ae h;have I8:=Nat.le_trans (dT rs) h.le;have I6:x<w.heap.size:=am h.blk;have hn:n<rs.length:=by
  rcases Nat.lt_or_ge n rs.length with h|h
  ·exact h
  ·rw[List.drop_eq_nil_of_le h]at hd;cases hd
 have cH:rs[n]=c:=by rw[List.drop_eq_getElem_cons hn]at hd;exact(List.cons.inj hd).1
 have cE:rs.drop (n+1)=r:=by rw[List.drop_eq_getElem_cons hn]at hd;exact(List.cons.inj hd).2
 have I1:Hid (∀hm:n+1<rs.length,cls rs[n+1]≠2):=ae (fun hm e=>by
  have :=hr _ _ (by rw[←cE];exact List.drop_eq_getElem_cons hm);rw[sE.1 e]at this;cases this)
 have I9:48≤c∧c≤57:=by
  unfold cU at hc;simp only[Bool.and_eq_true,decide_eq_true_eq]at hc;exact hc
 have I3:=ae (sE.2 hc);have bL:=ae cH;have k0:Same w (bJ w):=(af _ w).alloc _;have dp:(bJ w).heap[w.heap.size]?=_:=ag w _;have H0:=ae (h.same k0);have aL:=ae k0;have V:=ae dp;unfold bJ at H0 aL V;clear k0 dp h hd cE hr cH hc;go_enter Tryz.func124,Tryz.ntmps124;go_wp2_with fail;generalize w.alloc _=w1 at aL V H0⊢;refine pw H0.o ?_;rintro e w2 rfl k2;have If:pos rs n≤(enc rs).size:=oL rs n;have I7:=H.o.le;generalize pos rs n=A at HR If⊢;have aH:=sal w2 (Hv 2 GA 0 A);have HZ:=ae (ag w2 (Hv 2 GA 0 A));have E:=ae (H0.o.same (k2.tr aH));have HK:=ae (aL.o.tr (k2.tr aH));have HB:=ae ((k2.tr aH).at V.o trivial);have gJ:w.heap.size<w2.heap.size:=Nat.lt_of_lt_of_le (am V.o) k2.size;clear k2 aH H0 aL V;go_wp2_with fail;generalize w2.alloc _=w3 at HZ E HK HB⊢;generalize w2.heap.size=y at HZ gJ⊢;obtain⟨a,cp,rfl,Ja,IZ,j⟩:=E.o.open;obtain⟨b,off,rfl,z0,_⟩:=j n hn;unfold maxLen at IZ;rw[bL.o]at z0;have c1:=xc1 E.o.blk 1 rfl;have G:=xc1 E.o.blk 3 rfl;clear j;refine aq (by kernel_rfl) (by kernel_rfl) ?_
 iterate 17 (apply wpQuiet_step;intro K hK;(first|(apply aA;rfl;go_simp)|(apply aJ;rfl;intro w' a8;obtain⟨q0,q1,q2⟩:=xs3 a8 c1 G z0;go_simp;exact rfl;go_simp));refine hK _ ?_;clear hK K)
 apply wpQuiet_nil;intro w4 k4;have IT:∀b',live (Value.slice (IQ b off) rs.length cp)=some b'→b'<w.heap.size:=H.o.runes.lt;have fu:=ae (E.o.same k4);have fw:=ae (HK.o.tr k4);have gH:=ae (k4.at HB.o trivial);have dZ:=ae (k4.at HZ.o trivial);clear k4 E HK HB HZ z0 c1 G;go_wp2_with fail
 go_loopw [] (fun wr=>∃(m:Nat) (N:Int),((m=n∧N=0)∨(m=n+1∧N=(c:Int) -48))∧Hid (LexAt wr x (.slice (IQ b off) rs.length cp) rs m)∧Hid (Keeps (·≠x) w wr)∧Hid (wr.heap[w.heap.size]?=(Is 0 GA 0 0))∧Hid (wr.heap[y]?=(Is 2 GA N A))) (fun wr=>re x rs.length wr)
 case atStart=>exact⟨n,0,.inl ⟨rfl,rfl⟩,fu,ae (fw.o.bar x),gH,dZ⟩
 case round=>
  obtain⟨m,N,IS,E,HK,HB,HZ⟩:=hrel;have IW:=fK E.o;clear fu fw gH dZ;rcases IS with⟨rfl,rfl⟩|⟨rfl,rfl⟩
  ·go_wp2_with fail;refine jt E.o hn ?_;rintro e g rfl I;rw[bL.o,I3.o];have u:=ae (E.o.same I);have U:=ae (HK.o.tr_same I);have X:=ae (I.at HB.o trivial);have p:=ae (I.at HZ.o trivial);clear I E HK HB HZ;obtain⟨a5,Jc,ch,_,_,j⟩:=u.o.open;obtain⟨b5,I5,e5,z0,_⟩:=j m hn;simp only[Value.slice.injEq]at ch;obtain⟨rfl,_,rfl⟩:=ch;simp only[Option.some.injEq,Addr.mk.injEq]at e5;obtain⟨rfl,rfl,_⟩:=e5;rw[bL.o]at z0;have c1:=xc1 u.o.blk 1 rfl;have G:=xc1 u.o.blk 3 rfl;have Y:=xc1 p.o 2 rfl;have g2:=ao p.o 2;clear j;have kd:Same g g.drew:=al (af _ g);go_wp2_with fail;have x0:IntKind.i64.wrap 0=0:=by decide
   have x1:IntKind.i32.wrap ((c:Int) -48)=(c:Int) -48:=by simp[IntKind.wrap,IntKind.bits,IntKind.signed];omega
   have x2:IntKind.i64.wrap ((c:Int) -48)=(c:Int) -48:=by rw[IntKind.wrap_i64];omega
   refine zq0 19 (.take 0 (.take 1 (.take 2 (.take 3 (.take 4 (.take 5 (.take 6 (.take 7 (.take 8 (.take 9 (.take 10 (.take 11 (.take 12 (.take 13 (.take 14 (.take 15 (.take 16 (.take 17 (.take 18 .last))))))))))))))))))) (Same g) (by kernel_rfl) (by kernel_rfl) kd ?_
   iterate 19 (first|(apply aC;rfl;rfl;go_simp)|(apply aB;rfl;rfl;intro w' s;obtain⟨q0,q1,q2,q3⟩:=xs4 s c1 G z0 Y;go_simp;exact rfl;go_simp))
   clear z0 c1 G x0 x1 x2;refine aO rfl rfl fun K C=>?_;go_simp;refine C _ _ (aG ?_);clear C K Y g2;rw[if_neg (show¬(100:Int)<(c:Int) -48 by omega)];have ky:Keeps (·≠y) g (g.setCell ⟨y,2,none⟩ (IP ((c:Int) -48))).drew:=((af (·≠y) g).but 2 _).drew;have dE:Hid ((g.setCell ⟨y,2,none⟩ (IP ((c:Int) -48))).drew.heap[y]?=(Is 2 GA ((c:Int) -48) A)):=ae (by
    show(g.setCell ⟨y,2,none⟩ (IP ((c:Int) -48))).heap[y]?=_
    rw[aj p.o];simp)
   have i:=ae (u.o.kept ky (by omega) (fun b' hb=>by have :=IT b' hb;omega));have q:=ae (U.o.trans ky fun z hz s=>⟨s,by omega⟩:Keeps (·≠x) w _);have f:=ae (ky.at X.o (by omega));clear ky u U X p kd;generalize(g.setCell ⟨y,2,none⟩ (IP ((c:Int) -48))).drew=Z at dE i q f⊢;have F:=xc1 i.o.blk 3 rfl;have g3:=ao i.o.blk 3;go_wp2_with fail;have fd:=ae (i.o.next (af _ _) (show m+1≤rs.length from hn));have kx:=(af (·≠x) Z).but 3 (IP ((m:Int)+1));have I2:=ae (q.o.tr kx);have I4:=ae (kx.at f.o (by omega));have I0:=ae (kx.at dE.o (by omega));go_roundw
   case rel=>exact⟨m+1,(c:Int) -48,.inr ⟨rfl,rfl⟩,fd,I2,I4,I0⟩
   case measure=>
    rw[IW];have :=fK fd.o;rw[show((m+1:Nat):Int)=(m:Int)+1 by omega]at this;rw[this];omega
  ·go_wp2_with fail;refine uA (k:=2) (by decide) E.o I1.o ?_;rintro e g z rfl hz I;have u:=ae (E.o.same I);have U:=ae (HK.o.tr_same I);have X:=ae (I.at HB.o trivial);have p:=ae (I.at HZ.o trivial);clear I E HK HB HZ;have gI:(z==2)=false:=by rw[beq_eq_false_iff_ne];exact hz
   have G:=xc1 u.o.blk 3 rfl;obtain⟨y0,y1,Y,y3⟩:=xc4 p.o rfl rfl rfl rfl;go_wp2_with fail;clear gI hz;have B:y≠w.heap.size:=by omega
   have ce:x≠w.heap.size:=by omega
   have D:Keeps (·≠w.heap.size) g g.drew:=al (af _ g);have x1:(c:Int) -48≤99:=by omega
   refine az (.take 0 (.take 1 (.take 2 (.take 3 (.take 4 (.take 5 (.take 6 (.take 7 (.take 8 (.take 9 (.take 10 (.take 11 (.take 12 (.take 13 (.take 14 (.take 15 (.take 16 (.one 17 (.take 18 .done))))))))))))))))))) (Keeps (·≠w.heap.size) g) (by kernel_rfl) (by kernel_rfl) D ?_;have x2:IntKind.i64.wrap ((n:Int)+1 -(n:Int))=1:=by rw[IntKind.wrap_i64];omega
   have x3:IntKind.i64.wrap (((n+1:Nat):Int) -(n:Int))=1:=by rw[IntKind.wrap_i64];omega
   clear p;generalize hN:(c:Int) -48=N at x1 Y HR⊢;by_cases Jb:c=48
   ·have IR:((c:Int) !=48)=false:=by rw[bne_eq_false_iff_eq];omega
    iterate 17 (first|(apply aF;rfl;rfl;go_simp)|(apply aD;rfl;rfl;intro w' s;obtain⟨q0,q1,q2,q3,q4⟩:=xk5 s G y0 y1 Y y3 ce B B B B;go_simp;exact rfl;go_simp))
    clear x1 x2 x3 G y0 y1 Y y3;have t:Same g g.drew:=al (af _ g);have i:=ae (u.o.same t);have q:=ae (U.o.tr_same t);have f:=ae (t.at X.o trivial);clear t;generalize g.drew=Z at D i q f⊢;obtain⟨M,L,J,F⟩:=xc4 f.o rfl rfl rfl rfl;obtain⟨g0,g1,g2,g3⟩:=xf4 f.o;refine aP (ay rfl rfl fun K C=>?_);go_simp;have kb:Keeps (·≠w.heap.size) g (((((Z.setCell ⟨w.heap.size,0,none⟩ (IP 2)).setCell ⟨w.heap.size,1,none⟩ (.string GA)).setCell ⟨w.heap.size,2,none⟩ (IP N)).setCell ⟨w.heap.size,3,none⟩ (IP (A:Int)))):=(((D.but _ _).but _ _).but _ _).but _ _;refine C (Keeps (·≠w.heap.size) g) _ _ kb (fun _ h=>h) ?_;clear C K kb M L J F g0 g1 g2 g3
    iterate 1 (first|(apply aF;rfl;rfl;go_simp)|(apply aD;rfl;rfl;intro w' s;go_simp;exact rfl;go_simp))
    apply aW;go_simp;have kw:=(((((af (·≠w.heap.size) Z).but 0 (IP 2)).but 1 (.string GA)).but 2 (IP N)).but 3 (IP (A:Int)));have o:=ct f.o (IP 2) (.string GA) (IP N) (IP (A:Int));have O:=ae (i.o.kept kw (by omega) (fun b hb=>by have :=H.o.runes.lt b hb;omega));have T:=ae (q.o.box4 (Nat.le_refl _) (IP 2) (.string GA) (IP N) (IP (A:Int)));clear kw i q f D;generalize((((Z.setCell ⟨w.heap.size,0,none⟩ (IP 2)).setCell ⟨w.heap.size,1,none⟩ (.string GA)).setCell ⟨w.heap.size,2,none⟩ (IP N)).setCell ⟨w.heap.size,3,none⟩ (IP (A:Int)))=w9 at o O T⊢;obtain⟨M,L,J,F⟩:=xc4 o rfl rfl rfl rfl;go_wp2_with fail;refine bodyPost_ret (v:=.tuple (Id (Ig 2 GA N A) true)) (by simp[results,Tryz.results124,go_sem,M,L,J,F]) rfl ?_;exact HR.o _ _ rfl O.o T.o
   ·have IR:((c:Int) !=48)=true:=by rw[bne_iff_ne];omega
    iterate 17 (first|(apply aF;rfl;rfl;go_simp)|(apply aD;rfl;rfl;intro w' s;obtain⟨q0,q1,q2,q3,q4⟩:=xk5 s G y0 y1 Y y3 ce B B B B;go_simp;exact rfl;go_simp))
    clear x1 x2 x3 G y0 y1 Y y3;have t:Same g g.drew:=al (af _ g);have i:=ae (u.o.same t);have q:=ae (U.o.tr_same t);have f:=ae (t.at X.o trivial);clear t;generalize g.drew=Z at D i q f⊢;obtain⟨M,L,J,F⟩:=xc4 f.o rfl rfl rfl rfl;obtain⟨g0,g1,g2,g3⟩:=xf4 f.o;refine aP (ay rfl rfl fun K C=>?_);go_simp;have kb:Keeps (·≠w.heap.size) g (((((Z.setCell ⟨w.heap.size,0,none⟩ (IP 2)).setCell ⟨w.heap.size,1,none⟩ (.string GA)).setCell ⟨w.heap.size,2,none⟩ (IP N)).setCell ⟨w.heap.size,3,none⟩ (IP (A:Int)))):=(((D.but _ _).but _ _).but _ _).but _ _;refine C (Keeps (·≠w.heap.size) g) _ _ kb (fun _ h=>h) ?_;clear C K kb M L J F g0 g1 g2 g3
    iterate 1 (first|(apply aF;rfl;rfl;go_simp)|(apply aD;rfl;rfl;intro w' s;go_simp;exact rfl;go_simp))
    apply aW;go_simp;have kw:=(((((af (·≠w.heap.size) Z).but 0 (IP 2)).but 1 (.string GA)).but 2 (IP N)).but 3 (IP (A:Int)));have o:=ct f.o (IP 2) (.string GA) (IP N) (IP (A:Int));have O:=ae (i.o.kept kw (by omega) (fun b hb=>by have :=H.o.runes.lt b hb;omega));have T:=ae (q.o.box4 (Nat.le_refl _) (IP 2) (.string GA) (IP N) (IP (A:Int)));clear kw i q f D;generalize((((Z.setCell ⟨w.heap.size,0,none⟩ (IP 2)).setCell ⟨w.heap.size,1,none⟩ (.string GA)).setCell ⟨w.heap.size,2,none⟩ (IP N)).setCell ⟨w.heap.size,3,none⟩ (IP (A:Int)))=w9 at o O T⊢;obtain⟨M,L,J,F⟩:=xc4 o rfl rfl rfl rfl;go_wp2_with fail;refine bodyPost_ret (v:=.tuple (Id (Ig 2 GA N A) true)) (by simp[results,Tryz.results124,go_sem,M,L,J,F]) rfl ?_;exact HR.o _ _ rfl O.o T.o
theorem zw (s p:ByteArray) (h:p.size≤s.size):decide (s.extract 0 p.size=p)=p.data.toList.isPrefixOf s.data.toList:=by
 rw[Bool.eq_iff_iff,decide_eq_true_iff,List.isPrefixOf_iff_prefix,List.prefix_iff_eq_take];have e:(s.extract 0 p.size).data.toList=s.data.toList.take p.data.toList.length:=by
  rw[ByteArray.data_extract,Array.toList_extract,List.extract_eq_take_drop,List.drop_zero,Nat.sub_zero];rfl
 constructor
 ·intro a;rw[←e,a]
 ·intro a;apply ByteArray.ext;apply Array.toList_inj.1;rw[e];exact a.symm
theorem Ey {p l:List Nat} (a:∀r∈p,r<128) (b:∀r∈l,Gk r) (h:(enc p).size≤(enc l).size):((((enc l).extract 0 (enc p).size).toList==(enc p).toList))=p.isPrefixOf l:=by
 rw[eP,zw _ _ h];exact iW p l a b
theorem Ex {p l:List Nat} (a:∀r∈p,r<128) (b:∀r∈l,Gk r) (h:(enc l).size<(enc p).size):p.isPrefixOf l=false:=by
 rw[←iW p l a b]
 cases c:(bA p).isPrefixOf (bA l)with
 |false=>rfl
 |true=>
  have :=(List.isPrefixOf_iff_prefix.1 c).length_le;rw[dJ,dJ]at h;omega
theorem qd {p l:List Nat} (c:∀r∈p,r<128) (d:∀r∈l,Gk r) (h1:(enc p).size≤2000) (h2:(enc l).size≤2000) (i:∀e g,e=.returned (.bool (p.isPrefixOf l))→Same w g→R e g):
 Calls Tryz.prog 228 #[.string (enc l),.string (enc p)] w R:=by
 have f:=ae i;clear i;have k:(enc p).size≤maxLen:=by unfold maxLen;omega
 have j:(enc l).size≤maxLen:=by unfold maxLen;omega
 rcases Nat.lt_or_ge (enc l).size (enc p).size with h|h
 ·have a:=Ex c d h;rw[a]at f;clear a c d;generalize enc l=s at *;generalize enc p=t at *;go_enter Tryz.func228,Tryz.ntmps228;go_wp2_with fail;exact f.o _ _ rfl (af _ _)
 ·have a:=Ey c d h;clear c d;generalize enc l=s at *;generalize enc p=t at *;generalize p.isPrefixOf l=b at *;go_enter Tryz.func228,Tryz.ntmps228;go_wp2_with fail;exact f.o _ _ (by simp) (af _ _)
theorem AC {p l:List Nat} (f:∀r∈p,r<128) (g:∀r∈l,Gk r) (h1:(enc p).size≤2000) (h2:(enc l).size≤2000) (d:∀e b,e=.returned (.bool (p.isPrefixOf l))→Same w b→R e b):
 Calls Tryz.prog 172 #[.string (enc l),.string (enc p)] w R:=by
 have h:=ae d;clear d;go_enter Tryz.func172,Tryz.ntmps172;go_wp2_with fail;refine qd f g h1 h2 ?_;rintro e i rfl c;have a:=ae c;clear c;go_wp2_with fail;exact h.o _ _ rfl a.o
def sgnsB:List ByteArray:=[GY,GZ,Hd,⟨#[126,61]⟩,Hc,⟨#[126]⟩,G1,⟨#[38]⟩,G7,G5,⟨#[41]⟩,⟨#[123]⟩,⟨#[125]⟩,G8,GM,GW,⟨#[43]⟩,⟨#[92]⟩]
theorem Bu:sgns.map enc=sgnsB:=by kernel_rfl
theorem lH:∀s∈sgns,(∀r∈s,r<128)∧(enc s).size=s.length∧s.length≤3:=by decide
theorem Cw (d:∀e b u,e=.returned u→StrsAt b u (sgns.map enc)→Same w b→R e b):Calls Tryz.prog 178 #[] w R:=by
 have c:=ae d;clear d;have hs:=fD w sgnsB 9 18 rfl (by decide);have a:=sal w (.cells (sgnsB.map Value.string).toArray 9);have f:=ae hs;have g:=ae a;clear hs a;rw[Bu]at c;simp only[sgnsB,List.map_cons,List.map_nil]at f g c;go_enter Tryz.func178,Tryz.ntmps178;go_wp2_with fail;exact c.o _ _ _ rfl f.o g.o
theorem qJ {l b:List Nat} (h:zA l=some b):∃j,∃a:j<18,sgns[j]'a=b∧b.isPrefixOf l=true∧∀i (c:i<j),(sgns[i]'(Nat.lt_trans c a)).isPrefixOf l=false:=by
 unfold zA at h;rw[List.find?_eq_some_iff_getElem]at h;obtain⟨h1,j,a,h2,d⟩:=h;refine⟨j,a,h2,h1,fun i c=>?_⟩;have :=d i c;rw[Bool.not_eq_true']at this;exact this
theorem EV (h:LexAt w x v rs n) {U:List Nat} (hp:zA (rs.drop n)=some U)
 (hR:∀e X,e=.returned (.tuple (Id ((⟨3,enc U,0,(pos rs n:Nat)⟩:Qk).val) true))→LexAt X x v rs (n+U.length)→Keeps (·≠x) w X→R e X):
 Calls Tryz.prog 125 #[.pointer (IQ x 0)] w R:=by
 have HR:=ae hR;clear hR;have H:=ae h;have I5:=Nat.le_trans (dT rs) h.le;have I0:x<w.heap.size:=am h.blk;obtain⟨j,hj,I,l,Z⟩:=qJ hp;have I1:=lH U (I▸List.getElem_mem hj);have aL:n+U.length≤rs.length:=by
  have :=(List.isPrefixOf_iff_prefix.1 l).length_le;rw[List.length_drop]at this;have :=h.at_;omega
 have dp:=ae I;have F:=ae l;have ce:=ae Z;have I3:pos rs n≤(enc rs).size:=oL rs n;have I2:=H.o.le;have fw:(enc rs).extract (pos rs n) (enc rs).size=enc (rs.drop n):=by
  have :=nJ rs h.at_;rw[lK,List.take_length]at this;exact this
 have IS:Hid ((enc (rs.drop n)).size≤2000):=ae (by rw[←fw,ByteArray.size_extract];omega);have IT:Hid (∀r∈rs.drop n,Gk r):=ae (fun r hr=>h.gk r (List.mem_of_mem_drop hr));have k0:Same w (bJ w):=(af _ w).alloc _;have a8:(bJ w).heap[w.heap.size]?=_:=ag w _;have H0:=ae (h.same k0);have A:=ae k0;have B:=ae a8;unfold bJ at H0 A B;clear k0 a8 h hp I l Z;go_enter Tryz.func125,Tryz.ntmps125;go_wp2_with fail;generalize w.alloc _=w1 at A B H0⊢;refine Cw ?_;rintro e w2 u rfl hu k2;obtain⟨a,cp,rfl,gI,gH,m⟩:=hu;have g:((sgns.map enc).map Value.string).length=18:=by kernel_rfl
 rw[g]at gI⊢;have HC:Hid (∀k (hk:k<18),∃b off,a=some ⟨b,off,none⟩∧w2.cell? ⟨b,off+k,none⟩=some (.string (enc (sgns[k]'hk)))):=ae (by
  intro k hk;rcases m with h|⟨b,off,I8,e,fr,rfl,h5,h6⟩
  ·rw[h]at g;cases g
  ·exact⟨b,off,rfl,by rw[ai h5];exact h6 k _ (by rw[List.getElem?_map,List.getElem?_map,List.getElem?_eq_getElem hk];rfl)⟩)
 have HX:=ae (H0.o.same k2);have HK:=ae (A.o.tr k2);have HB:=ae (k2.at B.o trivial);clear k2 H0 A B m g;unfold maxLen at gH;go_wp2_with fail
 go_loopw [9] (fun i wr=>∃k:Nat,i=.int .i64 (k:Int)∧k≤j∧Hid (Same w2 wr)) (fun i _=>18 -(intOf i).toNat)
 case atStart=>exact⟨0,rfl,Nat.zero_le _,ae (af _ _)⟩
 case round=>
  obtain⟨k,rfl,I7,z⟩:=hrel;have E:k<18:=by omega
  obtain⟨b,off,rfl,z0⟩:=HC.o k E;replace z0:=ak z.o z0 trivial;have L:=ae (HX.o.same z.o);have c0:=xc1 L.o.blk 0 rfl;have d:=lH _ (List.getElem_mem E);have IW:(enc rs).size≤maxLen:=by unfold maxLen;omega
  have V:Same wr wr.drew:=al (af _ wr);obtain⟨f,G⟩:∃f,sgns[k]=f:=⟨_,rfl⟩;rw[G]at z0 d;have M:=ae G;clear G;go_wp2_with fail;refine az (.take 0 (.take 1 (.take 2 (.take 3 (.take 4 (.take 7 (.one 5 (.take 6 (.one 8 .done))))))))) (Same wr) (by kernel_rfl) (by kernel_rfl) V ?_
  iterate 6 (first|(apply aF;rfl;rfl;go_simp)|(apply aD;rfl;rfl;intro X hS;have q0:=ak hS c0 trivial;go_simp;exact rfl;go_simp))
  refine aP (ay rfl rfl fun K p=>?_);go_simp;refine pw (L.o.same V) ?_;rintro e w5 rfl k5;refine p (Same wr) _ _ (V.tr k5) (fun _ h=>h) ?_;clear p K
  iterate 1 (first|(apply aF;rfl;rfl;go_simp)|(apply aD;rfl;rfl;intro X hS;go_simp;exact rfl;go_simp))
  refine aP (ay rfl rfl fun K p=>?_);go_simp;refine AC d.1 IT.o (by omega) IS.o ?_;rintro e w6 rfl k6;refine p (Same wr) _ _ ((V.tr k5).tr k6) (fun _ h=>h) ?_;clear p K;apply aW;go_simp;have q:=ae (z.o.tr ((V.tr k5).tr k6));clear k5 k6 V z0 c0;by_cases hk:k=j
  ·subst hk;obtain rfl:f=U:=M.o.symm.trans dp.o;rw[F.o];have J:=ae (HX.o.same q.o);have ch:=ae (HK.o.tr q.o);have O:=ae (q.o.at HB.o trivial);clear z L HX HK HB HC F ce M dp q;go_wp2_with fail;refine pw J.o ?_;rintro e C rfl Y;generalize pos rs n=D at HR⊢;have s:=sal C (Hv 3 (enc f) 0 D);have gJ:=ae (ag C (Hv 3 (enc f) 0 D));have t:=ae (J.o.same (Y.tr s));have cH:=ae (ch.o.tr (Y.tr s));have c:=ae ((Y.tr s).at O.o trivial);have IZ:w.heap.size<C.heap.size:=Nat.lt_of_lt_of_le (am O.o) Y.size;clear Y s J ch O;have c3:=xc1 t.o.blk 3 rfl;have f3:=ao t.o.blk 3;have dE:((enc f).size:Int)=(f.length:Int):=by rw[d.2.1]
   have I6:f.length≤3:=d.2.2;have I4:n≤rs.length:=H.o.at_;have dZ:(enc f).size≤maxLen:=by unfold maxLen;rw[d.2.1];omega
   generalize enc f=T at HR gJ t cH c c3 f3 dE dZ⊢;have N:=ae (t.o.next (af _ _) aL);have kx:Keeps (·≠x) (C.alloc (Hv 3 T 0 D)) _:=(af (·≠x) _).but 3 (IP ((n+f.length:Nat):Int));have y:=ae kx;clear kx;obtain⟨d0,d1,d2,d3⟩:=xc4 c.o rfl rfl rfl rfl;obtain⟨g0,g1,g2,g3⟩:=xf4 c.o;have n1:x≠w.heap.size:=by omega
   have n2:=n1.symm;have n3:x≠C.heap.size:=by omega
   have n4:=n3.symm;go_wp2_with fail;have fu:((n+f.length:Nat):Int)=(n:Int)+(f.length:Int):=by omega
   rw[fu]at N y;have bL:=y.o.at c.o n2;have cE:=ae ((cH.o.bar x).tr y.o);clear y c3 f3 d0 d1 d2 d3 g0 g1 g2 g3;generalize(C.alloc (Hv 3 T 0 D)).setCell ⟨x,3,none⟩ (IP ((n:Int)+(f.length:Int)))=w9 at N bL cE⊢;have kw:=(((((af (·≠w.heap.size) w9).but 0 (IP 3)).but 1 (.string T)).but 2 IU).but 3 (IP (D:Int)));have o:=ct bL (IP 3) (.string T) IU (IP (D:Int));have If:=ae (N.kept kw n1 (fun b hb=>by have :=H.o.runes.lt b hb;omega));have IR:=ae (cE.o.box4 (Nat.le_refl _) (IP 3) (.string T) IU (IP (D:Int)));obtain⟨d0,d1,d2,d3⟩:=xc4 o rfl rfl rfl rfl;clear kw o;refine bodyPost_ret (v:=.tuple (Id (Ig 3 T 0 D) true)) (by simp[results,Tryz.results125,go_sem,d0,d1,d2,d3]) rfl ?_;exact HR.o _ _ rfl If.o IR.o
  ·have aH:k<j:=by omega
   have fd:f.isPrefixOf (rs.drop n)=false:=by rw[←M.o];exact ce.o k aH
   rw[fd];go_wp2_with fail;go_roundw
   case rel=>exact⟨k+1,by go_num,aH,q⟩
   case measure=>simp[intOf];omega
end
end Go.Proofs.YtojegnbejmeehaaGreatDoor
