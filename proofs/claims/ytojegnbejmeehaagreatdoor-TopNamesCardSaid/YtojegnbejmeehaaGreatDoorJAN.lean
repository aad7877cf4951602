/- Helpers of the proof of TopNames. -/
import Derived.Test.YtojegnbejmeehaaGreatDoorJAM
namespace Go.Proofs.YtojegnbejmeehaaGreatDoor
open Go.RowKit
set_option maxRecDepth 10000
set_option maxHeartbeats 16000000
set_option linter.all false
section
attribute [local irreducible] wpQuiet ax au aQ
variable {R:Ending→World→Prop} {w:World}
theorem fD (w:World) (a:List ByteArray) (t:TypeId) (n:Nat) (b:n=a.length) (c:n≤1000):StrsAt (w.alloc (.cells (a.map Value.string).toArray t)) (.slice (IQ w.heap.size 0) n n) a:=by
 subst b;refine⟨_,a.length,by simp,by simp,by unfold maxLen;omega,.inr ⟨_,0,_,_,_,rfl,ag w _,fun i x hx=>?_⟩⟩
 simpa using hx
theorem zd {w:World} {b:Nat} (e:w.heap.size=b) (a:List ByteArray) (t:TypeId) (n:Nat) (c:n=a.length) (d:n≤1000):StrsAt (w.alloc (.cells (a.map Value.string).toArray t)) (.slice (IQ b 0) n n) a:=by
 subst e;exact fD w a t n c d
theorem zc {l:List Tk} {t:Fm} {r:List Tk} (h:ja l=some (t,r)):tY l=some (t,r)∧∀x b,r=.word x::b→dL CG x=false:=by
 unfold ja at h
 split at h
 ·rename_i a x b f
  split at h
  ·cases h
  ·rename_i d
   simp only[Option.some.injEq,Prod.mk.injEq]at h;obtain⟨rfl,rfl⟩:=h;refine⟨f,fun y g e=>?_⟩;simp only[List.cons.injEq,Tk.word.injEq]at e;rw[←e.1];simpa using d
 ·rename_i a x b c f
  simp only[Option.some.injEq,Prod.mk.injEq]at h;obtain⟨rfl,rfl⟩:=h;refine⟨f,fun y g e=>?_⟩;simp only[List.cons.injEq]at e;exact absurd e.1 (c y)
 ·cases h
theorem lE {L:List Qk} {n:Nat} (a:n<L.length) (h:L[n].k=3):(L.drop n).map Qk.tk=.word L[n].t::(L.drop (n+1)).map Qk.tk:=by
 rw[List.drop_eq_getElem_cons a,List.map_cons];unfold Qk.tk;rw[if_pos h]
theorem qL {p:Nat} {v:Value} {L:List Qk} {n:Nat} {t:Fm} {r:List Tk} (h:PAt w p v L n) (G:ja ((L.drop n).map Qk.tk)=some (t,r)) (hR:∀e F u m,e=.returned u→FmAt w.heap.size F u t→PAt F p v L m→Keeps (·≠p) w F→m<L.length→(L.drop m).map Qk.tk=r→n≤m→R e F):
 Calls Tryz.prog 260 #[.pointer (IQ p 0)] w R:=by
 have HR:=ae hR;clear hR;have H:=ae h;obtain⟨G,hj⟩:=zc G;have HJ:=ae hj;have HP:=ae G;have J:Same w (bj w):=(af _ w).alloc _;have B:(bj w).heap[w.heap.size]?=_:=ag w _;have H0:=ae (h.same J);have g:=ae J;have i:=ae B;unfold bj at H0 g i;have n2:p≠w.heap.size:=Nat.ne_of_lt (am h.blk);have HX:=ae (Nat.le_refl w.heap.size);clear J B h G hj;go_enter Tryz.func260,Tryz.ntmps260;go_wp2_with fail;generalize w.alloc _=w1 at g i H0⊢;refine zD H0.o HP.o ?_;rintro e k u rfl M h2 I f A;obtain⟨a,ka,kc,rfl,ha,X,V⟩:=M.shape;have C:=ae M;have H2:=ae h2;have D:=ae A;have aH:=ae ((g.o.bar p).tr I);have E:=ae (I.at i.o n2.symm);clear M h2 A I ha X V;generalize U:t.op=t0 at C⊢;generalize T:t.name=s at C⊢;generalize O:t.num=q at C⊢;generalize N:t.kids.length=o at C⊢;clear U T O N;have j:=ae (ag k (Ht t0 s q a ka o kc));have x:=sal k (Ht t0 s q a ka o kc);have d:=ae x;clear x;go_wp2_with fail;generalize k.alloc _=w3 at j d⊢;generalize k.heap.size=z at j⊢
 go_loopw [4] (fun _ wr=>wr=w3) (fun _ _=>0)
 case atStart=>rfl
 case round=>
  subst hrel;have hs:=fD wr CG 9 3 rfl (by decide);have HS:=ae hs;clear hs;go_wp2_with fail;refine fh (H2.o.same (d.o.alloc _)) f HS.o (fun hk=>?_) ?_
  ·exact HJ.o _ _ (by rw[←D.o];exact lE f hk)
  rintro e w5 a5 rfl l;have c:=l.at (aw j.o _) trivial;have b:=l.at (aw (d.o.at E.o trivial) _) trivial;have Z:=ae (aH.o.tr_same (d.o.tr (((af _ _).alloc _).tr l)));have H5:=ae (H2.o.same (d.o.tr (((af _ _).alloc _).tr l)));have Y:=ae (C.o.same (d.o.tr (((af _ _).alloc _).tr l)));obtain⟨z0,z1,z2,z3,z4⟩:=xc5 c rfl rfl rfl rfl rfl;obtain⟨d0,d1,d2,d3,d4⟩:=xc5 b rfl rfl rfl rfl rfl;obtain⟨g0,g1,g2,g3,g4⟩:=xf5 b;clear l c b;go_wp2_with fail;refine bodyPost_ret (v:=(Hw t0 s q a ka o kc)) (by simp[results,Tryz.results260,go_sem,d0,d1,d2,d3,d4]) rfl ?_;have y:=Z.o.box5 HX.o (.string t0) (.string s) (IP q) (IP a) (.slice ka o kc);refine HR.o _ _ _ _ rfl (cR (iD Y.o (am i.o) _ _ _ _ _) g.o.size) (H.o.step y ?_ (Nat.le_of_lt f)) y f D.o (Nat.le_succ n)
  ·rw[dn n2];exact H5.o.blk
theorem kU {α:Type}:∀{l:List (ByteArray×α)} {x:ByteArray} {y:α},fJ l x=some y→dL (l.map (·.1)) x=true∧∃i:Nat,kh (l.map (·.1)) x=(i:Int)∧i<l.length∧(l.map (·.2))[i]?=some y
 | [],x,y,h=>by cases h
 |z::l,x,y,h=>by
  unfold fJ at h;by_cases a:z.1=x
  ·rw[List.find?_cons_of_pos (by simpa using a)]at h;have b:dL ((z::l).map (·.1)) x=true:=fP.2 (by rw[List.map_cons,a];exact List.mem_cons_self);refine⟨b,0,?_,by simp,by simpa using h⟩;unfold kh;rw[if_pos b,List.map_cons,List.findIdx_cons];simp[a]
  ·rw[List.find?_cons_of_neg (by simpa using a)]at h;obtain⟨h1,i,h2,d,c⟩:=kU (l:=l) h;have b:dL ((z::l).map (·.1)) x=true:=fP.2 (by rw[List.map_cons];exact List.mem_cons_of_mem _ (fP.1 h1));refine⟨b,i+1,?_,by simpa using d,by simpa using c⟩;unfold kh at h2⊢;rw[if_pos h1]at h2;rw[if_pos b,List.map_cons,List.findIdx_cons];simp only[a,decide_false,cond_false];omega
theorem pt {α:Type} {l:List (ByteArray×α)} {x:ByteArray} (h:fJ l x=none):dL (l.map (·.1)) x=false:=by
 unfold fJ at h;simp only[Option.map_eq_none_iff,List.find?_eq_none,decide_eq_true_eq]at h
 cases b:dL (l.map (·.1)) x with
 |false=>rfl
 |true=>
  obtain⟨u,a,e⟩:=List.mem_map.1 (fP.1 b);exact absurd e (h u a)
theorem mC {t:ByteArray} {l:List UInt8} {b:Bool} (h:decide (t=⟨l.toArray⟩)=b):(t.toList==l)=b:=by
 rw[←h,←eP,ByteArray.toList_eq ⟨l.toArray⟩]
theorem rG {l:List Tk} {t:Fm} {r:List Tk} (h:pAtom l=some (t,r)):(∃s x m,l=.name s::.word x::m∧x≠G5)∧
 ((∃a x c d b,ja l=some (a,.word x::c)∧fJ rels x=some d∧ja c=some (b,r)∧t=.two d GA 0 a b)∨
  (∃a,ja l=some (a,r)∧(∀x c,r=.word x::c→fJ rels x=none)∧a.op=GG∧t=.leaf GI a.name 0)):=by
 have o:∀l,pAtom.pAtom' l=some (t,r)→((∃a x c d b,ja l=some (a,.word x::c)∧fJ rels x=some d∧ja c=some (b,r)∧t=.two d GA 0 a b)∨
  (∃a,ja l=some (a,r)∧(∀x c,r=.word x::c→fJ rels x=none)∧a.op=GG∧t=.leaf GI a.name 0)):=fun l h=>by
  unfold pAtom.pAtom' at h;have k:∀{a:Fm} {q:List Tk},pIs a q=some (t,r)→a.op=GG∧t=.leaf GI a.name 0∧q=r:=fun{a q} f=>by
   unfold pIs at f
   split at f
   ·rename_i hv
    simp only[Option.some.injEq,Prod.mk.injEq]at f;exact⟨hv,f.1.symm,f.2⟩
   ·cases f
  split at h
  ·rename_i a x c g
   split at h
   ·rename_i d ho
    split at h
    ·rename_i b j n
     simp only[Option.some.injEq,Prod.mk.injEq]at h;obtain⟨rfl,rfl⟩:=h;exact .inl ⟨a,x,c,d,b,g,ho,n,rfl⟩
    ·cases h
   ·rename_i ho
    obtain⟨h1,h2,rfl⟩:=k h;refine .inr ⟨a,g,fun y j e=>?_,h1,h2⟩;simp only[List.cons.injEq,Tk.word.injEq]at e;rw[←e.1];exact ho
  ·rename_i a x c i g
   obtain⟨h1,h2,rfl⟩:=k h;refine .inr ⟨a,g,fun y j e=>?_,h1,h2⟩;simp only[List.cons.injEq]at e;exact absurd e.1 (i y)
  ·cases h
 unfold pAtom at h
 split at h
 ·rename_i s x c
  split at h
  ·cases h
  ·rename_i hx
   exact⟨⟨s,x,c,rfl,hx⟩,o _ h⟩
 ·cases h
theorem zG {p:Nat} {v:Value} {L:List Qk} {n:Nat} {t:Fm} {r:List Tk} (h:PAt w p v L n) (hp:pAtom ((L.drop n).map Qk.tk)=some (t,r)) (hR:∀e w' u m,e=.returned u→FmAt w.heap.size w' u t→PAt w' p v L m→Keeps (·≠p) w w'→m<L.length→(L.drop m).map Qk.tk=r→n≤m→R e w'):
 Calls Tryz.prog 230 #[.pointer (IQ p 0)] w R:=by
 have HR:=ae hR;clear hR;have H:=ae h;obtain⟨Jy,hc⟩:=rG hp;have HC:=ae hc;obtain⟨s0,x0,r0,hl,IT⟩:=Jy;obtain⟨q0,dZ,I4,z⟩:=bV hl;obtain⟨q1,I5,dE,_⟩:=bV z;have JC:=(fv I4).1;have JB:=(f9 dE).1;have Jd:decide (q1.t=G5)=false:=decide_eq_false fun e=>IT (by rw[←(f9 dE).2];exact e);have JO:=ae (h.toks.2 _ (List.mem_of_getElem? dZ));obtain⟨hn,rfl⟩:=List.getElem?_eq_some_iff.1 dZ;obtain⟨Jz,rfl⟩:=List.getElem?_eq_some_iff.1 I5;have k0:Same w (bj w):=(af _ w).alloc _;have Jg:(bj w).heap[w.heap.size]?=_:=ag w _;have H0:=ae (h.same k0);have gH:=ae k0;have Y:=ae Jg;unfold bj at H0 gH Y;have n2:p≠w.heap.size:=Nat.ne_of_lt (am h.blk);have HX:=ae (Nat.le_refl w.heap.size);have J2:=h.le;clear k0 Jg h hp hc dZ I5 I4 dE hl z IT;go_enter Tryz.func230,Tryz.ntmps230;go_wp2_with fail;generalize w.alloc _=w1 at gH Y H0⊢;refine jk H0.o hn ?_;rintro e w2 rfl k2;rw[JC];have HQ:=ae (ag w2 (Hv 1 L[n].t L[n].n L[n].a));have Jn:=ae ((gH.o.tr k2).alloc (Hv 1 L[n].t L[n].n L[n].a));have H3:=ae (H0.o.same (k2.alloc (Hv 1 L[n].t L[n].n L[n].a)));have cE:=ae (aw (k2.at Y.o trivial) (Hv 1 L[n].t L[n].n L[n].a));have n1:p≠w2.heap.size:=Nat.ne_of_lt (am (H0.o.same k2).blk);have n5:w.heap.size≠w2.heap.size:=Nat.ne_of_lt (Nat.lt_of_lt_of_le (am Y.o) k2.size);clear k2;go_wp2_with fail;generalize w2.alloc _=w3 at HQ Jn H3 cE⊢;generalize w2.heap.size=y at HQ n1 n5⊢;have e0:=ai HQ.o 0;obtain⟨a,c,rfl,J3,JD,F⟩:=H3.o.toks.open;unfold maxLen at JD;obtain⟨b,off,rfl,J,Z,z2,z3⟩:=F (n+1) Jz;have c0:=ai H3.o.blk 0;have c1:=ai H3.o.blk 1;simp only[List.getElem?_toArray,List.getElem?_cons_zero,List.getElem?_cons_succ]at e0 c0 c1;clear F z2 z3;have s1:IntKind.i64.wrap ((n:Int)+1)=(n:Int)+1:=by rw[IntKind.wrap_i64];omega
 have s2:(0:Int)≤(n:Int)+1:=by omega
 have s3:(n:Int)+1<(L.length:Int):=by omega
 have s4:((n:Int)+1).toNat=n+1:=by omega
 rw[JB]at J;have s6:(L[n+1].t.toList==[40])=false:=mC Jd;clear Jd;refine aq (by kernel_rfl) (by kernel_rfl) ?_
 iterate 33 (apply wpQuiet_step;intro K hK;(first|(apply aA;rfl;go_simp)|(apply aJ;rfl;intro w' D;obtain⟨y0,y1,y2,y3,y4⟩:=xs5 D e0 c0 c1 J Z;go_simp;exact rfl;go_simp));refine hK _ ?_;clear hK K)
 apply wpQuiet_nil;intro w4 k4;have JN:=ae (k4.at HQ.o trivial);have JQ:=ae (Jn.o.tr k4);have H4:=ae (H3.o.same k4);have ch:=ae (k4.at cE.o trivial);clear k4 e0 c0 c1 J Z s1 s2 s3 s4;go_wp2_with fail;clear s6;obtain⟨A,JY,dp⟩:∃a r',ja ((L.drop n).map Qk.tk)=some (a,r'):=by
  rcases HC.o with⟨a,x,r1,N,b,h1,_⟩|⟨a,h1,_⟩
  ·exact⟨_,_,h1⟩
  ·exact⟨_,_,h1⟩
 refine qL H4.o dp ?_;rintro e o u m rfl hu h5 k5 hm Jf I7;obtain⟨a1,ka,kc,rfl,JF,Jb,Ja⟩:=hu.shape;have HU:=ae hu;have H5:=ae h5;have gI:=ae Jf;have Jk:=ae dp;have Jm:=ae ((JQ.o.bar p).tr k5);have ce:=ae (k5.at ch.o n2.symm);have JM:=ae (k5.at JN.o n1.symm);have n7:p<w4.heap.size:=am H4.o.blk;have n8:w.heap.size<w4.heap.size:=am ch.o;clear hu h5 Jf k5 JF Jb Ja dp;generalize I1:A.op=t0 at HU⊢;generalize I0:A.name=O at HU⊢;generalize Ju:A.num=t2 at HU⊢;generalize Jt:A.kids.length=t3 at HU⊢;have JL:=ae I1;have JK:=ae I0;clear I1 I0 Ju Jt;have Jq:=ae (ag o (Ht t0 O t2 a1 ka t3 kc));have k6:=sal o (Ht t0 O t2 a1 ka t3 kc);have Jl:=ae k6;clear k6;go_wp2_with fail;have q1:(o.alloc (Ht t0 O t2 a1 ka t3 kc)).heap.size=o.heap.size+1:=by simp
 have I2:=(zd q1 (rels.map (·.1)) 9 7 rfl (by decide)).same ((af (fun _=>True) _).alloc (.cells ((rels.map (·.2)).map Value.string).toArray 9));have q2:((o.alloc (Ht t0 O t2 a1 ka t3 kc)).alloc (.cells ((rels.map (·.1)).map Value.string).toArray 9)).heap.size=o.heap.size+1+1:=by simp
 have T:=ag ((o.alloc (Ht t0 O t2 a1 ka t3 kc)).alloc (.cells ((rels.map (·.1)).map Value.string).toArray 9)) (.cells ((rels.map (·.2)).map Value.string).toArray 9);rw[q2]at T;have Ji:=aw (aw Jq.o (.cells ((rels.map (·.1)).map Value.string).toArray 9)) (.cells ((rels.map (·.2)).map Value.string).toArray 9);have k7:=(Jl.o.alloc (.cells ((rels.map (·.1)).map Value.string).toArray 9)).alloc (.cells ((rels.map (·.2)).map Value.string).toArray 9);have G:=ae I2;have X:=ae T;have V:Hid (∀(i:Nat) (x:ByteArray),(rels.map (·.2))[i]?=some x→(((o.alloc (Ht t0 O t2 a1 ka t3 kc)).alloc (.cells ((rels.map (·.1)).map Value.string).toArray 9)).alloc (.cells ((rels.map (·.2)).map Value.string).toArray 9)).cell? ⟨o.heap.size+1+1,i,none⟩=some (.string x)):=ae fun i x hx=>by
  rw[ai T,List.getElem?_toArray,List.getElem?_map,hx];rfl
 have I:=ae Ji;have f:=ae k7;clear I2 T Ji k7 q1 q2 Jq Jl;simp only[rels,List.map_cons,List.map_nil]at G X V I f;generalize((o.alloc (Ht t0 O t2 a1 ka t3 kc)).alloc _).alloc _=w7 at G X V I f⊢;have JS:=ae f.o.size;generalize o.heap.size+1+1=b3 at X V⊢;generalize o.heap.size+1=b2 at G⊢;generalize JE:o.heap.size=b1 at I JS⊢;rcases HC.o with⟨a',x,r1,N,U,h1,h2,h3,rfl⟩|⟨a',h1,h2,h3,rfl⟩
 ·rw[Jk.o]at h1;simp only[Option.some.injEq,Prod.mk.injEq]at h1;obtain⟨rfl,rfl⟩:=h1;obtain⟨qm,Jw,Jv,Je⟩:=bV gI.o;obtain⟨J1,rfl⟩:=List.getElem?_eq_some_iff.1 Jw;obtain⟨JA,Jc⟩:=f9 Jv;obtain⟨I9,i,z,fu,fd⟩:=kU h2;have JG:=ae h3;have If:p<b1:=by rw[←JE];exact am H5.o.blk
  have gJ:p≠b3:=fun e=>by
   have :=f.o.at H5.o.blk trivial;rw[e,X.o]at this;simp at this
  clear h2 h3;refine gM (H5.o.same f.o) hm G.o JA (by rw[Jc];exact I9) ?_;rintro e M a9 rfl Jh h8 s;rw[Jc];simp only[rels,List.map_cons,List.map_nil]at z fu fd;rw[z];have H8:=ae h8;have JT:=ae Jh;have fw:=ae ((Jm.o.tr_same f.o).tr s);have JJ:=ae (eE (FmAt.same HU.o f.o) s n7);have bL:=ae (s.at (f.o.at ce.o trivial) n2.symm);have j:=s.at I.o (Nat.ne_of_gt If);obtain⟨J,Z,z2,z3,z4⟩:=xc5 j rfl rfl rfl rfl rfl;have z5:=ak s (V.o i N fd) gJ.symm;have Js:(0:Int)≤(i:Int):=by omega
  have Jr:(i:Int)<7:=by have :i<7:=by simpa using fu
                        omega
  have m1:b1≠p:=Nat.ne_of_gt If;have m3:=gJ.symm;have kd:Keeps (·≠p) M M.drew:=al (af _ _);have JV:M.heap.size≤M.drew.heap.size:=Nat.le_refl _;clear h8 s j I9 z fu fd Jh;go_wp2_with fail;refine zq0 9 (.take 0 (.take 1 (.take 2 (.take 3 (.take 4 (.take 5 (.take 6 (.one 7 (.one 8 .last))))))))) (Keeps (·≠p) M) (by kernel_rfl) (by kernel_rfl) kd ?_
  iterate 7 (first|(apply aC;rfl;rfl;go_simp)|(apply aB;rfl;rfl;intro w' hS;obtain⟨y0,y1,y2,y3,y4,y5⟩:=xk6 hS J Z z2 z3 z4 z5 m1 m1 m1 m1 m1 m3;go_simp;exact rfl;go_simp))
  clear J Z z2 z3 z4 z5 Js Jr;refine aI (ay rfl rfl fun K l=>?_);go_simp;refine qL (H8.o.same (al (af _ _))) (by rw[Je];exact JG.o) ?_;rintro e w9 u9 m9 rfl IZ h9 k9 I8 aL I6;have q:Keeps (·≠p) M w9:=kd.tr k9;refine l (Keeps (·≠p) M) _ _ q (fun _ h=>h) ?_;clear l K;have aH:FmAt M.heap.size w9 u9 U:=IZ;have IW:=cR (eE JJ.o q n7) (C:=w.heap.size+1) n8;have cH:=cR aH (C:=w.heap.size+1) (am bL.o);have JI:=ae IW;have JH:=ae cH;have H9:=ae h9;have JP:=ae (fw.o.tr q);have a8:=ae (q.at bL.o n2.symm);have Jp:=ae aL;clear IZ aH h9 k9 aL IW;obtain⟨c3,J0,JZ,rfl,_,_,_⟩:=cH.shape;clear cH;refine aI (ay rfl rfl fun K l=>?_);go_simp;refine lN JI.o JH.o (fun b hb=>Nat.le_trans (am a8.o) hb) JT.o ?_;rintro e JW JX rfl E B;obtain⟨c4,IS,IR,rfl,_,_,_⟩:=E.shape;refine l (Keeps (·≠p) M) _ _ (q.tr_same B) (fun _ h=>h) ?_;clear l K;have Jj:=ae E;have Jo:=ae (JP.o.tr_same B);have JU:=ae (H9.o.same B);have d:=B.at a8.o trivial;clear E B q;obtain⟨d0,d1,d2,d3,d4⟩:=xc5 d rfl rfl rfl rfl rfl;obtain⟨g0,g1,g2,g3,g4⟩:=xf5 d;refine aO rfl rfl fun K l=>?_;go_simp;refine l _ _ (aG ?_);clear l K g0 g1 g2 g3 g4;go_wp2_with fail;refine bodyPost_ret (v:=(Hw (Fm.two N GA 0 A U).op (Fm.two N GA 0 A U).name (Fm.two N GA 0 A U).num c4 IS (Fm.two N GA 0 A U).kids.length IR)) (by simp[results,Tryz.results230,go_sem,d0,d1,d2,d3,d4]) rfl ?_;have k:=Jo.o.box5 HX.o (.string (Fm.two N GA 0 A U).op) (.string (Fm.two N GA 0 A U).name) (IP (Fm.two N GA 0 A U).num) (IP c4) (.slice IS (Fm.two N GA 0 A U).kids.length IR);refine HR.o _ _ _ _ rfl (cR (iD Jj.o (Nat.lt_succ_self _) _ _ _ _ _) (Nat.le_succ _)) (H.o.step k ?_ (Nat.le_of_lt I8)) k I8 Jp.o (Nat.le_trans I7 (Nat.le_of_succ_le I6));rw[dn n2];exact JU.o.blk
 ·rw[Jk.o]at h1;simp only[Option.some.injEq,Prod.mk.injEq]at h1;obtain⟨rfl,rfl⟩:=h1;have JR:=ae h2;clear h2;refine fh (H5.o.same f.o) hm G.o (fun hk=>?_) ?_
  ·exact pt (JR.o _ _ (by rw[←gI.o];exact lE hm hk))
  rintro e M a9 rfl s;have fw:=ae ((Jm.o.tr_same f.o).tr_same s);have H8:=ae ((H5.o.same f.o).same s);have j:=s.at I.o trivial;have g:=s.at (f.o.at ce.o trivial) trivial;have I3:=s.at (f.o.at JM.o trivial) trivial;obtain⟨J,Z⟩:=xc2 j rfl rfl;have q3:=xc1 I3 3 rfl;obtain⟨d0,d1,d2,d3,d4⟩:=xc5 g rfl rfl rfl rfl rfl;obtain⟨g0,g1,g2,g3,g4⟩:=xf5 g;rw[←JL.o,h3]at J;clear s j g I3;go_wp2_with fail;refine bodyPost_ret (v:=(Hw GI O 0 L[n].a none 0 0)) (by simp[results,Tryz.results230,go_sem,d0,d1,d2,d3,d4]) rfl ?_;have k:=fw.o.box5 HX.o (.string GI) (.string O) IU (IP L[n].a) IM;refine HR.o _ _ _ _ rfl ⟨L[n].a,none,0,by rw[JK.o],JO.o.2.2.1,Nat.zero_le _⟩ (H.o.step k ?_ (Nat.le_of_lt hm)) k hm gI.o I7;rw[dn n2];exact H8.o.blk
end
end Go.Proofs.YtojegnbejmeehaaGreatDoor
