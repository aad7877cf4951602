/- Helpers of the proof of TopNames. -/
import Derived.Test.YtojegnbejmeehaaGreatDoorJAO
import Derived.Test.YtojegnbejmeehaaGreatDoorJAP
namespace Go.Proofs.YtojegnbejmeehaaGreatDoor
open Go.RowKit
set_option maxRecDepth 10000
set_option maxHeartbeats 16000000
set_option linter.all false
section
attribute [local irreducible] wpQuiet ax au aQ
variable {R:Ending→World→Prop} {w:World}
def quants:List ByteArray:=[⟨#[101,120,48]⟩,GX,⟨#[101,120,50]⟩,⟨#[97,108,108,48]⟩,G0,⟨#[97,108,108,50]⟩]
theorem D7 {F:List Tk→PR} {l:List Tk} {t:Fm} {r:List Tk} (h:pUn F l=some (t,r)):
 (∃x s a k b,l=.word x::.name s::.word GW::a∧F a=some (k,r)∧t=.one b s 1 k∧((x=GX∧b=GB)∨(x=G0∧b=GC)))∨
 (∃s a,l=.name s::a∧pAtom l=some (t,r)):=by
 unfold pUn at h
 split at h
 ·rename_i x s y a
  split at h
  ·rename_i f
   subst f
   split at h
   ·rename_i hx
    obtain⟨⟨k,d⟩,c,e⟩:=Option.map_eq_some_iff.1 h;simp only[Prod.mk.injEq]at e;obtain⟨rfl,rfl⟩:=e;exact .inl ⟨x,s,a,k,_,rfl,c,rfl,.inl ⟨hx,rfl⟩⟩
   ·split at h
    ·rename_i hx
     obtain⟨⟨k,d⟩,c,e⟩:=Option.map_eq_some_iff.1 h;simp only[Prod.mk.injEq]at e;obtain⟨rfl,rfl⟩:=e;exact .inl ⟨x,s,a,k,_,rfl,c,rfl,.inr ⟨hx,rfl⟩⟩
    ·cases h
  ·cases h
 ·cases h
 ·refine .inr ?_;obtain⟨⟨s,x,g,e,_⟩,_⟩:=rG h;exact⟨s,_,e,h⟩
theorem EE {p:Nat} {v:Value} {L:List Qk} {F:List Tk→PR} {c:Int} (h0:0≤c) (JQ:c<30) (hF:iB p v L F (fun _=>True) 80 (Ia (IL p) (c+1))):
 iB p v L (pUn F) (fun _=>True) 183 (Ia (IL p) c):=by
 intro w n t r R _ h hp hR;have HR:=ae hR;clear hR;have H:=ae h;have HF:=ae hF;have HC:=ae (D7 hp);have JP:=h.le;obtain⟨tk,r0,Jz,Jy⟩:∃tk r0,(L.drop n).map Qk.tk=tk::r0∧∀x,tk=.word x→x≠⟨#[126]⟩∧x≠GU∧x≠Hi∧x≠G5:=by
  rcases HC.o with⟨x,s,r1,k,op,hl,_,_,hx⟩|⟨s,r1,hl,_⟩
  ·refine⟨_,_,hl,fun y hy=>?_⟩;simp only[Tk.word.injEq]at hy;subst hy;rcases hx with⟨rfl,_⟩|⟨rfl,_⟩<;>decide
  ·exact⟨_,_,hl,fun y hy=>by cases hy⟩
 obtain⟨q0,Jw,a8,_⟩:=bV Jz;obtain⟨hn,rfl⟩:=List.getElem?_eq_some_iff.1 Jw;have Jj:∀x,L[n].k=3∧L[n].t=x→x≠⟨#[126]⟩∧x≠GU∧x≠Hi∧x≠G5:=fun x hx=>Jy x (by rw[←a8];unfold Qk.tk;rw[if_pos hx.1,hx.2]);have Jg:=ae Jj;have k0:Same w (bj w):=(af _ w).alloc _;have JD:(bj w).heap[w.heap.size]?=_:=ag w _;have H0:=ae (h.same k0);have Jh:=ae k0;have Ji:=ae JD;unfold bj at H0 Jh Ji;have n2:p≠w.heap.size:=Nat.ne_of_lt (am h.blk);have n3:=n2.symm;have HX:=ae (Nat.le_refl w.heap.size);clear k0 JD h hp Jz Jy Jw a8 Jj hF;go_enter Tryz.func183,Tryz.ntmps183;go_wp2_with fail;generalize w.alloc _=w1 at Jh Ji H0⊢;refine jk H0.o hn ?_;rintro e w2 rfl k2;have g:=sal w2 (Hv L[n].k L[n].t L[n].n L[n].a);have Jt:=ae (Jh.o.tr (k2.tr g));have H3:=ae (H0.o.same (k2.tr g));have Ja:=ae ((k2.tr g).at Ji.o trivial);clear k2 g Jh H0 Ji;go_wp2_with fail;generalize w2.alloc _=w3 at Jt H3 Ja⊢;generalize w2.heap.size=y;refine cI H3.o hn _ (fun hx=>(Jg.o _ hx).1 rfl) ?_;rintro e w4 rfl k4;have JH:=ae (Jt.o.tr k4);have H4:=ae (H3.o.same k4);have Jo:=ae (k4.at Ja.o trivial);clear k4 Jt H3 Ja;go_wp2_with fail;refine cI H4.o hn _ (fun hx=>(Jg.o _ hx).2.1 rfl) ?_;rintro e w5 rfl k5;have JG:=ae (JH.o.tr k5);have H5:=ae (H4.o.same k5);have Jn:=ae (k5.at Jo.o trivial);clear k5 JH H4 Jo;go_wp2_with fail;refine cI H5.o hn _ (fun hx=>(Jg.o _ hx).2.2.1 rfl) ?_;rintro e w6 rfl k6;have JF:=ae (JG.o.tr k6);have H6:=ae (H5.o.same k6);have Jm:=ae (k6.at Jn.o trivial);clear k6 JG H5 Jn;go_wp2_with fail;refine cI H6.o hn _ (fun hx=>(Jg.o _ hx).2.2.2 rfl) ?_;rintro e w7 rfl k7;have JE:=ae (JF.o.tr k7);have H7:=ae (H6.o.same k7);have Jl:=ae (k7.at Jm.o trivial);clear k7 JF H6 Jm;have hs:=fD w7 quants 9 6 rfl (by decide);have g:=sal w7 (.cells (quants.map Value.string).toArray 9);have If:=ae hs;have I0:=ae (JE.o.tr g);have H9:=ae (H7.o.same g);have Y:=ae (g.at Jl.o trivial);clear hs g JE H7 Jl;simp only[quants,List.map_cons,List.map_nil]at If I0 H9 Y;go_wp2_with fail;generalize w7.alloc _=w9 at If I0 H9 Y⊢;generalize w7.heap.size=b9 at If⊢;rcases HC.o with⟨x,s,r1,kk,op,hl,hk,rfl,hx⟩|⟨s,r1,hl,ha⟩
 ·obtain⟨q,hq,a8,E⟩:=bV hl;obtain⟨_,rfl⟩:=List.getElem?_eq_some_iff.1 hq;obtain⟨JB,Jf⟩:=f9 a8;have Jk:=ae E;have HP:=ae hk;clear hl hk E hq a8 HC;rcases hx with⟨rfl,rfl⟩|⟨rfl,rfl⟩
  ·skip
   have gI:kh quants GX=1:=by decide
   have gJ:dL quants GX=true:=by decide
   simp only[quants]at gI gJ;refine gM H9.o hn If.o JB (by rw[Jf];exact gJ) ?_;rintro e Jv dp rfl cE I8 I;rw[Jf,gI];have IZ:=ae I8;have G:=ae ((I0.o.bar p).tr I);have z:=ae (I.at Y.o n3);have Jb:=ae cE;clear I8 I cE gI gJ;go_wp2_with fail;obtain⟨q1,I3,D,E⟩:=bV Jk.o;obtain⟨Js,rfl⟩:=List.getElem?_eq_some_iff.1 I3;refine gl IZ.o Js 1 (fv D).1 ?_;rintro e Ju rfl cH M;rw[(fv D).1,(fv D).2];have IW:=ae cH;have U:=ae (G.o.tr M);have X:=ae (M.at z.o n3);clear cH M;go_wp2_with fail;obtain⟨q2,I2,aL,ch⟩:=bV E;obtain⟨Jr,rfl⟩:=List.getElem?_eq_some_iff.1 I2;refine jR IW.o Jr _ (f9 aL) ?_;rintro e A JJ rfl I7 gH;have I9:=ae ch;have fu:=ae (U.o.tr gH);have V:=ae (gH.at X.o n3);have IT:=ae I7;have g:=sal A (.cells #[GB,GC] 9);have Je:=ae (IT.o.same g);have fd:=ae (fu.o.tr_same g);have C:=ae (g.at V.o trivial);have O:=ag A (.cells #[GB,GC] 9);obtain⟨o0,o1⟩:=xc2 O rfl rfl;have fw:A.heap.size≠p:=Nat.ne_of_gt (am IT.o.blk);clear I7 gH g E ch O I3 D I2 aL IT fu V IW U X IZ G z;go_wp2_with fail;generalize A.alloc _=i at Je fd C o0 o1⊢;generalize A.heap.size=bo at o0 o1 fw⊢;have kd:Keeps (·≠p) i i.drew:=al (af _ _);refine zq0 15 (.take 0 (.take 1 (.take 2 (.take 3 (.take 4 (.take 5 (.take 6 (.take 7 (.take 8 (.take 9 (.take 10 (.take 11 (.one 12 (.one 13 (.take 14 .last))))))))))))))) (Keeps (·≠p) i) (by kernel_rfl) (by kernel_rfl) kd ?_;have x0:IntKind.i64.wrap 0=0:=by decide
   have x1:IntKind.i64.wrap 1=1:=by decide
   have x2:IntKind.i64.wrap (c+1)=c+1:=by rw[IntKind.wrap_i64];omega
   iterate 12 (first|(apply aC;rfl;rfl;go_simp)|(apply aB;rfl;rfl;intro w' hS;obtain⟨y0,y1⟩:=xk2 hS o0 o1 fw fw;go_simp;exact rfl;go_simp))
   clear o0 o1 x0 x1 x2;refine aI (ay rfl rfl fun K o=>?_);go_simp;refine HF.o i.drew (n+1+1+1) kk r _ trivial (Je.o.same (al (af _ _))) (by rw[I9.o];exact HP.o) ?_;rintro e f JI JK rfl N I6 I1 bL T Jq;have j:Keeps (·≠p) i f:=kd.tr I1;refine o (Keeps (·≠p) i) _ _ j (fun _ h=>h) ?_;clear o K;obtain⟨c3,aH,Z,rfl,JN,_,_⟩:=N.shape;have d:=ae N;have Jd:=ae I6;have dZ:=ae (fd.o.tr j);have B:=ae (j.at C.o n3);have IS:=ae T;have I4:w.heap.size<i.heap.size:=am C.o;clear N I6 I1 T;generalize kk.op=t0 at d⊢;generalize kk.name=t1 at d⊢;generalize kk.num=t2 at d⊢;generalize kk.kids.length=t3 at d⊢;refine aI (ay rfl rfl fun K o=>?_);go_simp;refine o (Keeps (·≠p) i) _ _ (j.alloc _) (fun _ h=>h) ?_;clear o K
   iterate 1 (first|(apply aC;rfl;rfl;go_simp)|(apply aB;rfl;rfl;intro w' hS;go_simp;exact rfl;go_simp))
   have J:=sal f (Ht t0 t1 t2 c3 aH t3 Z);have Jc:=ae (Jd.o.same J);have dE:=ae (dZ.o.tr_same J);have b:=ae (J.at B.o trivial);have IR:=ae (gi (P:=fun x=>FmAt (w.heap.size+1) (f.alloc (Ht t0 t1 t2 c3 aH t3 Z)) x kk) (ag f (Ht t0 t1 t2 c3 aH t3 Z)) (off:=0) rfl rfl rfl rfl rfl (cR (FmAt.same d.o J) I4));have I5:w.heap.size+1≤f.heap.size:=am B.o;clear J Jd dZ B d j;generalize f.alloc _=Jp at Jc dE b IR⊢;generalize f.heap.size=bk at IR I5⊢;obtain⟨d0,d1,d2,d3,d4⟩:=xc5 b.o rfl rfl rfl rfl rfl;obtain⟨g0,g1,g2,g3,g4⟩:=xf5 b.o;refine aO rfl rfl fun K o=>?_;go_simp;refine o _ _ (aG ?_);clear o K g0 g1 g2 g3 g4;go_wp2_with fail;refine bodyPost_ret (v:=(Hw GB s 1 dp (IQ bk 0) 1 1)) (by simp[results,Tryz.results183,go_sem,d0,d1,d2,d3,d4]) rfl ?_;have ce:=dE.o.box5 HX.o (.string GB) (.string s) (IP 1) (IP dp) (.slice (IQ bk 0) 1 1);refine HR.o _ _ _ _ rfl ⟨dp,bk,0,1,rfl,⟨Jb.o,Nat.le_refl _,by unfold maxLen;omega⟩,by omega,IR.o.kept (bq Jp w.heap.size _ _ _ _ _) (by omega) (fun x hx=>cR (iD hx (Nat.lt_succ_self _) _ _ _ _ _) (Nat.le_succ _))⟩ (H.o.step ce ?_ (Nat.le_of_lt bL)) ce bL IS.o (by omega);rw[dn n2];exact Jc.o.blk
  ·skip
   have gI:kh quants G0=4:=by decide
   have gJ:dL quants G0=true:=by decide
   simp only[quants]at gI gJ;refine gM H9.o hn If.o JB (by rw[Jf];exact gJ) ?_;rintro e Jv dp rfl cE I8 I;rw[Jf,gI];have IZ:=ae I8;have G:=ae ((I0.o.bar p).tr I);have z:=ae (I.at Y.o n3);have Jb:=ae cE;clear I8 I cE gI gJ;go_wp2_with fail;obtain⟨q1,I3,D,E⟩:=bV Jk.o;obtain⟨Js,rfl⟩:=List.getElem?_eq_some_iff.1 I3;refine gl IZ.o Js 1 (fv D).1 ?_;rintro e Ju rfl cH M;rw[(fv D).1,(fv D).2];have IW:=ae cH;have U:=ae (G.o.tr M);have X:=ae (M.at z.o n3);clear cH M;go_wp2_with fail;obtain⟨q2,I2,aL,ch⟩:=bV E;obtain⟨Jr,rfl⟩:=List.getElem?_eq_some_iff.1 I2;refine jR IW.o Jr _ (f9 aL) ?_;rintro e A JJ rfl I7 gH;have I9:=ae ch;have fu:=ae (U.o.tr gH);have V:=ae (gH.at X.o n3);have IT:=ae I7;have g:=sal A (.cells #[GB,GC] 9);have Je:=ae (IT.o.same g);have fd:=ae (fu.o.tr_same g);have C:=ae (g.at V.o trivial);have O:=ag A (.cells #[GB,GC] 9);obtain⟨o0,o1⟩:=xc2 O rfl rfl;have fw:A.heap.size≠p:=Nat.ne_of_gt (am IT.o.blk);clear I7 gH g E ch O I3 D I2 aL IT fu V IW U X IZ G z;go_wp2_with fail;generalize A.alloc _=i at Je fd C o0 o1⊢;generalize A.heap.size=bo at o0 o1 fw⊢;have kd:Keeps (·≠p) i i.drew:=al (af _ _);refine zq0 15 (.take 0 (.take 1 (.take 2 (.take 3 (.take 4 (.take 5 (.take 6 (.take 7 (.take 8 (.take 9 (.take 10 (.take 11 (.one 12 (.one 13 (.take 14 .last))))))))))))))) (Keeps (·≠p) i) (by kernel_rfl) (by kernel_rfl) kd ?_;have x0:IntKind.i64.wrap 0=0:=by decide
   have x1:IntKind.i64.wrap 1=1:=by decide
   have x2:IntKind.i64.wrap (c+1)=c+1:=by rw[IntKind.wrap_i64];omega
   iterate 12 (first|(apply aC;rfl;rfl;go_simp)|(apply aB;rfl;rfl;intro w' hS;obtain⟨y0,y1⟩:=xk2 hS o0 o1 fw fw;go_simp;exact rfl;go_simp))
   clear o0 o1 x0 x1 x2;refine aI (ay rfl rfl fun K o=>?_);go_simp;refine HF.o i.drew (n+1+1+1) kk r _ trivial (Je.o.same (al (af _ _))) (by rw[I9.o];exact HP.o) ?_;rintro e f JI JK rfl N I6 I1 bL T Jq;have j:Keeps (·≠p) i f:=kd.tr I1;refine o (Keeps (·≠p) i) _ _ j (fun _ h=>h) ?_;clear o K;obtain⟨c3,aH,Z,rfl,JN,_,_⟩:=N.shape;have d:=ae N;have Jd:=ae I6;have dZ:=ae (fd.o.tr j);have B:=ae (j.at C.o n3);have IS:=ae T;have I4:w.heap.size<i.heap.size:=am C.o;clear N I6 I1 T;generalize kk.op=t0 at d⊢;generalize kk.name=t1 at d⊢;generalize kk.num=t2 at d⊢;generalize kk.kids.length=t3 at d⊢;refine aI (ay rfl rfl fun K o=>?_);go_simp;refine o (Keeps (·≠p) i) _ _ (j.alloc _) (fun _ h=>h) ?_;clear o K
   iterate 1 (first|(apply aC;rfl;rfl;go_simp)|(apply aB;rfl;rfl;intro w' hS;go_simp;exact rfl;go_simp))
   have J:=sal f (Ht t0 t1 t2 c3 aH t3 Z);have Jc:=ae (Jd.o.same J);have dE:=ae (dZ.o.tr_same J);have b:=ae (J.at B.o trivial);have IR:=ae (gi (P:=fun x=>FmAt (w.heap.size+1) (f.alloc (Ht t0 t1 t2 c3 aH t3 Z)) x kk) (ag f (Ht t0 t1 t2 c3 aH t3 Z)) (off:=0) rfl rfl rfl rfl rfl (cR (FmAt.same d.o J) I4));have I5:w.heap.size+1≤f.heap.size:=am B.o;clear J Jd dZ B d j;generalize f.alloc _=Jp at Jc dE b IR⊢;generalize f.heap.size=bk at IR I5⊢;obtain⟨d0,d1,d2,d3,d4⟩:=xc5 b.o rfl rfl rfl rfl rfl;obtain⟨g0,g1,g2,g3,g4⟩:=xf5 b.o;refine aO rfl rfl fun K o=>?_;go_simp;refine o _ _ (aG ?_);clear o K g0 g1 g2 g3 g4;go_wp2_with fail;refine bodyPost_ret (v:=(Hw GC s 1 dp (IQ bk 0) 1 1)) (by simp[results,Tryz.results183,go_sem,d0,d1,d2,d3,d4]) rfl ?_;have ce:=dE.o.box5 HX.o (.string GC) (.string s) (IP 1) (IP dp) (.slice (IQ bk 0) 1 1);refine HR.o _ _ _ _ rfl ⟨dp,bk,0,1,rfl,⟨Jb.o,Nat.le_refl _,by unfold maxLen;omega⟩,by omega,IR.o.kept (bq Jp w.heap.size _ _ _ _ _) (by omega) (fun x hx=>cR (iD hx (Nat.lt_succ_self _) _ _ _ _ _) (Nat.le_succ _))⟩ (H.o.step ce ?_ (Nat.le_of_lt bL)) ce bL IS.o (by omega);rw[dn n2];exact Jc.o.blk
 ·obtain⟨q,hq,a8,_⟩:=bV hl;obtain⟨_,rfl⟩:=List.getElem?_eq_some_iff.1 hq;have JM:=(fv a8).1;have HA:=ae ha;clear hl ha hq a8 HC;refine fh H9.o hn If.o (fun hk=>absurd hk (by rw[JM];decide)) ?_;rintro e Jv dp rfl I;have G:=ae (I0.o.tr I);have IZ:=ae (H9.o.same I);have z:=ae (I.at Y.o trivial);clear I I0 H9 Y If;go_wp2_with fail;refine zG IZ.o HA.o ?_;rintro e Ju u m rfl hu cH M hm JC JL;obtain⟨a1,ka,kc,rfl,_,_,_⟩:=hu.shape;have HU:=ae hu;have IW:=ae cH;have JO:=ae JC;have U:=ae ((G.o.bar p).tr M);have l:=M.at z.o n3;obtain⟨d0,d1,d2,d3,d4⟩:=xc5 l rfl rfl rfl rfl rfl;obtain⟨g0,g1,g2,g3,g4⟩:=xf5 l;clear hu cH JC M l;generalize t.op=t0 at HU⊢;generalize t.name=t1 at HU⊢;generalize t.num=t2 at HU⊢;generalize t.kids.length=t3 at HU⊢;go_wp2_with fail;refine bodyPost_ret (v:=(Hw t0 t1 t2 a1 ka t3 kc)) (by simp[results,Tryz.results183,go_sem,d0,d1,d2,d3,d4]) rfl ?_;have JA:=U.o.box5 HX.o (.string t0) (.string t1) (IP t2) (IP a1) (.slice ka t3 kc);refine HR.o _ _ _ _ rfl (cR (iD HU.o (am z.o) _ _ _ _ _) G.o.size) (H.o.step JA ?_ (Nat.le_of_lt hm)) JA hm JO.o JL;rw[dn n2];exact IW.o.blk
theorem lP {p:Nat} {v:Value} {L:List Qk}:∀(d:Nat) (a:Int),0≤a→a+d≤30→iB p v L (qP d) (fun _=>True) 80 (Ia (IL p) a)
 |0,_,_,_=>fun w n t r R _ _ b=>by cases b
 |d+1,a,h0,h1=>zF (by omega) (tW (EE h0 (by omega) (lP d (a+1) (by omega) (by omega))) 9)
def ordW:List ByteArray:=[He,G2,G6]
theorem yr {x:ByteArray} {k:Nat} (h:fJ orders x=some k):dL ordW x=true∧kh ordW x=(k:Int)∧k<3:=by
 obtain⟨h1,i,h2,b,a⟩:=kU h;refine⟨h1,?_,?_⟩
 ·have e:(orders.map (·.1))=ordW:=rfl;rw[e]at h2;rw[h2];have :orders.length=3:=rfl;rw[this]at b
  match i,b,a with
  |0,_,a=>simp[orders]at a;rw[←a]
  |1,_,a=>simp[orders]at a;rw[←a]
  |2,_,a=>simp[orders]at a;rw[←a]
 ·have :orders.length=3:=rfl
  rw[this]at b
  match i,b,a with
  |0,_,a=>simp[orders]at a;omega
  |1,_,a=>simp[orders]at a;omega
  |2,_,a=>simp[orders]at a;omega
theorem wC {p:Nat} {v:Value} {L:List Qk} {n k:Nat} (h:PAt w p v L n) (o:n<L.length) (q:L[n].k=3) (hx:fJ orders L[n].t=some k) (g:∀e c,e=.returned (IP (k:Int))→PAt c p v L (n+1)→Keeps (·≠p) w c→R e c):
 Calls Tryz.prog 76 #[.pointer (IQ p 0)] w R:=by
 have r:=ae g;clear g;obtain⟨h1,h2,x⟩:=yr hx;have H:=ae h;have hs:=fD w ordW 9 3 rfl (by decide);have b:=sal w (.cells (ordW.map Value.string).toArray 9);have j:=ae hs;have d:=ae b;have m:=ae h2;simp only[ordW,List.map_cons,List.map_nil]at j d m h1;clear h hs b hx h2;go_enter Tryz.func76,Tryz.ntmps76;go_wp2_with fail;refine gM (H.o.same d.o) o j.o q h1 ?_;rintro e s a rfl u i f;rw[m.o];have l:=ae (And.intro i (d.o.same_tr f));clear i f;go_wp2_with fail;exact r.o _ _ rfl l.o.1 l.o.2
theorem p7 {p:Nat} {v:Value} {L:List Qk} {n:Nat} (h:PAt w p v L n) (m:n<L.length) (hx:L[n].k=3→fJ orders L[n].t=none) (i:∀e f,e=.returned (IP (-1))→Same w f→R e f):
 Calls Tryz.prog 76 #[.pointer (IQ p 0)] w R:=by
 have q:=ae i;clear i;have H:=ae h;have hs:=fD w ordW 9 3 rfl (by decide);have b:=sal w (.cells (ordW.map Value.string).toArray 9);have l:=ae hs;have d:=ae b;have c:=ae (fun o=>pt (hx o));have j:orders.map (·.1)=ordW:=rfl;rw[j]at c;simp only[ordW,List.map_cons,List.map_nil]at l d c;clear h hs b hx j;go_enter Tryz.func76,Tryz.ntmps76;go_wp2_with fail;refine fh (H.o.same d.o) m l.o c.o ?_;rintro e s a rfl g;have r:=ae (d.o.tr g);clear g;go_wp2_with fail;exact q.o _ _ rfl r.o
theorem pF {f:Nat} {l:List Tk} {c:List ByteArray} {r:List Tk} (h:gW f l=some (c,r)):
 ∃s x a,l=.name s::.word x::a∧((x=G8∧∃g b,gW g a=some (b,r)∧c=s::b)∨(x≠G8∧x=GM∧c=[s]∧a=r)):=by
 unfold gW at h
 split at h
 ·rename_i f s x a
  split at h
  ·rename_i hx
   obtain⟨⟨b,i⟩,d,e⟩:=Option.map_eq_some_iff.1 h;simp only[Prod.mk.injEq]at e;obtain⟨rfl,rfl⟩:=e;exact⟨s,x,a,rfl,.inl ⟨hx,f,b,d,rfl⟩⟩
  ·rename_i hx
   split at h
   ·rename_i d
    simp only[Option.some.injEq,Prod.mk.injEq]at h;obtain⟨rfl,rfl⟩:=h;exact⟨s,x,a,rfl,.inr ⟨hx,d,rfl,rfl⟩⟩
   ·cases h
 ·cases h
theorem wE {p:Nat} {v:Value} {L:List Qk} {n f:Nat} {k:Int} {xs:List ByteArray} {r:List Tk} (h:PAt w p v L n) (hk:aK k) (hp:gW f ((L.drop n).map Qk.tk)=some (xs,r))
 (hR:∀e w' u D m,e=.returned u→OwnDls w' w.heap.size u D→D.map (·.name)=xs→(∀d∈D,d.ord=k)→D.length+n≤m→PAt w' p v L m→Keeps (·≠p) w w'→(L.drop m).map Qk.tk=r→n<m→R e w'):
 Calls Tryz.prog 77 (Ia (IL p) k) w R:=by
 have HR:=ae hR;clear hR;have H:=ae h;have HP:=ae hp;have I0:=h.le;have N:p<w.heap.size:=am h.blk;clear h hp;go_enter Tryz.func77,Tryz.ntmps77;go_wp2_with fail
 go_loopw [5,6] (fun l more wr=>∃(m:Nat) (D:List Dl) (b:Bool),more=.bool b∧Hid (OwnDls wr w.heap.size l D)∧Hid (∀d∈D,d.ord=k)∧D.length+n≤m∧n≤m∧m≤L.length∧Hid (PAt wr p v L m)∧Hid (Keeps (·≠p) w wr)∧(b=false→n<m)∧
  Hid ((b=true∧∃f ys,gW f ((L.drop m).map Qk.tk)=some (ys,r)∧D.map (·.name)++ys=xs)∨(b=false∧(L.drop m).map Qk.tk=.word GM::r∧D.map (·.name)=xs))) (fun _ _ wr=>mK p L.length wr)
 case atStart=>exact⟨n,[],true,rfl,ae (OwnDls.nil _ _),ae (fun _ h=>by cases h),by simp,Nat.le_refl _,H.o.at_,H,ae (af _ _),(fun e=>by cases e),ae (.inl ⟨rfl,f,xs,HP.o,rfl⟩)⟩
 case round=>
  obtain⟨m,D,b,rfl,HD,HO,I1,IT,IW,HQ,HK,hb,HC⟩:=hrel;have cH:=eh HQ.o L.length;obtain⟨s0,c0,rfl⟩:=HD.o.shape;rcases HC.o with⟨rfl,f1,ys,hp,M⟩|⟨rfl,hl,M⟩
  ·obtain⟨s,x,r1,hl,z⟩:=pF hp;obtain⟨q,hq,c,y⟩:=bV hl;obtain⟨hm,rfl⟩:=List.getElem?_eq_some_iff.1 hq;obtain⟨q2,ce,T,V⟩:=bV y;obtain⟨cE,rfl⟩:=List.getElem?_eq_some_iff.1 ce;have dE:=(fv c).1;have aL:=f9 T;have HS:=ae (fv c).2;have bL:=ae z;have fd:=ae M;have IS:=ae y;have fu:=ae V;have A:=ae (HQ.o.toks.2 _ (List.getElem_mem hm));clear z M y V hl hq c ce T hp HC hb;go_wp2_with fail;refine gl HQ.o hm 1 dE ?_;rintro e Z rfl h1 k1;rw[dE,HS.o];have O:=sal Z (Hv 1 s L[m].n L[m].a);have H2:=ae (h1.same O);have G:=ae ((HK.o.tr k1).tr_same O);have j:=ae ((HD.o.but k1 N).same O);have hz:=ag Z (Hv 1 s L[m].n L[m].a);have z1:=xc1 hz 1 rfl;have z3:=xc1 hz 3 rfl;have X:Hid (s.size≤maxLen):=ae (by have :=A.o.2.2.2;rwa [HS.o]at this);have Y:=ae A.o.2.2.1;clear hz h1 k1 O HQ HD HK A;generalize L[m].a=a at X Y H2 G j z1 z3⊢;generalize L[m].n=tn at H2 G j z1 z3⊢;have dZ:D.length+1≤1000000:=by omega
   obtain⟨g,cap,w4,hr,U,a8,hg,If⟩:=cF (P:=Tryz.prog) (k:=3) (by decide) (Z.alloc (Hv 1 s tn a)) 23 23 33 Tryz.underlying23 eI rfl j.o.1 G.o.size [.string s,.int .i64 k,.int .i64 a] rfl (by simp[Value.oneCell']) dZ (by decide);have J:Hid (OwnDls w4 w.heap.size (.slice (IQ g 0) (D.length+1) cap) (D++[⟨s,k,a⟩])):=ae ⟨by simpa [Dl.cells]using U,fun d i=>by
    rcases List.mem_append.1 i with i|i
    ·exact j.o.2 d i
    ·simp at i;subst i;exact⟨hk,Y.o,X.o⟩⟩
   have t:∀b,b<w.heap.size→(Value.slice s0 D.length c0).ownBlock≠some b:=fun b hb e=>by
    have :=(ah j.o.1 e).1;omega
   have F:Hid (Keeps (·≠p) w w4):=ae (G.o.trans a8 fun x hx hS=>⟨hS,t x hx⟩);have fw:=ae (a8.at H2.o.blk (t p N));have H4:=ae (H.o.step F.o fw.o H2.o.at_);have q1:(Z.alloc (Hv 1 s tn a)).heap.size=Z.heap.size+1:=by simp
   rw[q1]at hr;clear U a8 hg If j H2 G fw q1 t
   go_wp2_with (at_builtin;refine ap rfl _ _ _ rfl rfl rfl hr ?_;clear hr)
   clear z1 z3;have B:Hid (∀d∈D++[(⟨s,k,a⟩:Dl)],d.ord=k):=ae (fun d i=>by
    rcases List.mem_append.1 i with i|i
    ·exact HO.o d i
    ·simp at i;subst i;rfl)
   have dp:(D++[(⟨s,k,a⟩:Dl)]).length+n≤m+1:=by simp;omega
   have C:Hid ((D++[(⟨s,k,a⟩:Dl)]).map (·.name)=D.map (·.name)++[s]):=ae (by simp);clear HO dZ;generalize IR:D++[(⟨s,k,a⟩:Dl)]=D' at J B dp C;clear IR;rcases bL.o with⟨hx,f',gH,ch,aH⟩|⟨hx,gI,aH,gJ⟩
   ·refine oN H4.o cE _ ⟨aL.1,aL.2.trans hx⟩ ?_;rintro e w5 rfl h5 o;have I:=ae (J.o.but o N);have E:=ae (F.o.tr o);have H5:=ae h5;have HE:=ae ch;clear h5 o ch J F H4 hx;go_wp2_with fail;go_roundw
    case rel=>exact⟨m+1+1,D',true,rfl,I,B,by omega,by omega,by omega,H5,E,(fun e=>by cases e),ae (.inl ⟨rfl,f',gH,by rw[fu.o];exact HE.o,by rw[C.o,List.append_assoc];rw[←fd.o,aH];rfl⟩)⟩
    case measure=>rw[cH,eh H5.o];omega
   ·refine cI H4.o cE _ (fun hh=>hx (aL.2.symm.trans hh.2)) ?_;rintro e w5 rfl o;have I:=ae (J.o.same o);have E:=ae (F.o.tr_same o);have H5:=ae (H4.o.same o);clear o J F H4 hx;go_wp2_with fail;go_roundw
    case rel=>exact⟨m+1,D',false,rfl,I,B,by omega,by omega,by omega,H5,E,fun _=>by omega,ae (.inr ⟨rfl,by rw[IS.o,gI,gJ],by rw[C.o,←fd.o,aH]⟩)⟩
    case measure=>rw[cH,eh H5.o];omega
  ·obtain⟨q,hq,c,y⟩:=bV hl;obtain⟨hm,rfl⟩:=List.getElem?_eq_some_iff.1 hq;have IZ:=hb rfl;go_wp2_with fail;refine jR HQ.o hm _ (f9 c) ?_;rintro e w5 u5 rfl h5 o;have I:=ae (HD.o.but o N);have E:=ae (HK.o.tr o);have H5:=ae h5;clear h5 o HD HK HQ hl hq c;go_wp2_with fail;exact HR.o _ _ _ D _ rfl I.o M HO.o (by omega) H5.o E.o y (by omega)
theorem zr {f:Nat} {l:List Tk} {n:List (ByteArray×Nat)} {t:Fm} (h:gv f l=some (n,t)):
 (∃u x c k d b a,l=.word x::c∧fJ orders x=some k∧gW 9 c=some (d,b)∧gv u b=some (a,t)∧n=d.map (·,k)++a)∨
 ((∀x c,l=.word x::c→fJ orders x=none∧x≠Hf)∧qP 29 l=some (t,[.word GM,.fin])∧n=[]):=by
 have p:∀{l:List Tk},yo l=some t→qP 29 l=some (t,[.word GM,.fin]):=fun{l} h=>by
  unfold yo at h
  split at h
  ·rename_i m x r
   split at h
   ·rename_i hx
    simp only[Option.some.injEq]at h;rw[r,h,hx]
   ·cases h
  ·cases h
 cases f with
 |zero=>cases h
 |succ f=>
  unfold gv at h
  split at h
  ·cases h
  ·rename_i z x c v
   cases v
   split at h
   ·rename_i k j
    split at h
    ·rename_i d b s
     obtain⟨⟨a,o⟩,q,e⟩:=Option.map_eq_some_iff.1 h;simp only[Prod.mk.injEq]at e;obtain⟨rfl,rfl⟩:=e;exact .inl ⟨f,x,c,k,d,b,a,rfl,j,s,q,rfl⟩
    ·cases h
   ·rename_i j
    split at h
    ·cases h
    ·rename_i hx
     obtain⟨o,i,e⟩:=Option.map_eq_some_iff.1 h;simp only[Prod.mk.injEq]at e;obtain⟨rfl,rfl⟩:=e;refine .inr ⟨fun y b e=>?_,p i,rfl⟩;simp only[List.cons.injEq,Tk.word.injEq]at e;rw[←e.1];exact⟨j,hx⟩
  ·rename_i g
   obtain⟨o,i,e⟩:=Option.map_eq_some_iff.1 h;simp only[Prod.mk.injEq]at e;obtain⟨rfl,rfl⟩:=e;exact .inr ⟨fun y b e=>absurd e (g y b),p i,rfl⟩
theorem AS {f:Nat} {l:List Tk} {a:List ByteArray} {r:List Tk} (h:gW f l=some (a,r)):0<a.length:=by
 obtain⟨s,x,c,_,⟨_,d,b,_,rfl⟩|⟨_,_,rfl,_⟩⟩:=pF h<;>simp
abbrev oI:Array Value:=#[IM,IM,.string GA,.string GA,IU,IU,IM]
def DlsOf (D:List Dl) (ds:List (ByteArray×Nat)):Prop:=D.map (fun d=>(d.name,d.ord))=ds.map fun x=>(x.1,(x.2:Int))
theorem DlsOf.append {D E:List Dl} {b a:List (ByteArray×Nat)} (h:DlsOf D b) (k:DlsOf E a):DlsOf (D++E) (b++a):=by
 unfold DlsOf at *;rw[List.map_append,List.map_append,h,k]
theorem F3 {D:List Dl} {a:List ByteArray} {k:Nat} (h:D.map (·.name)=a) (ho:∀d∈D,d.ord=(k:Int)):DlsOf D (a.map (·,k)):=by
 subst h;unfold DlsOf;rw[List.map_map,List.map_map];refine List.map_congr_left fun d b=>?_;simp[ho d b]
theorem Keeps.box7 {w h:World} {S:Nat→Prop} (k:Keeps S w h) {x:Nat} (hx:w.heap.size≤x) (a b c d e f g:Value):Keeps S w (((((((h.setCell ⟨x,0,none⟩ a).setCell ⟨x,1,none⟩ b).setCell ⟨x,2,none⟩ c).setCell ⟨x,3,none⟩ d).setCell ⟨x,4,none⟩ e).setCell ⟨x,5,none⟩ f).setCell ⟨x,6,none⟩ g):=
 ((((((k.new hx _ _).new hx _ _).new hx _ _).new hx _ _).new hx _ _).new hx _ _).new hx _ _
theorem oW {f:World} {x:Nat} {i g n m l k j:Value} {t:TypeId} (h:f.heap[x]?=some (.cells #[i,g,n,m,l,k,j] t (0,0))) (a b c d e:Value):(((((f.setCell ⟨x,2,none⟩ a).setCell ⟨x,3,none⟩ b).setCell ⟨x,4,none⟩ c).setCell ⟨x,5,none⟩ d).setCell ⟨x,6,none⟩ e).heap[x]?=some (.cells #[i,g,a,b,c,d,e] t (0,0)):=by
 rw[aj (aj (aj (aj (aj h _ _) _ _) _ _) _ _)];simp
theorem kT (w:World) (x:Nat) (a b c d e:Value):Keeps (·≠x) w (((((w.setCell ⟨x,2,none⟩ a).setCell ⟨x,3,none⟩ b).setCell ⟨x,4,none⟩ c).setCell ⟨x,5,none⟩ d).setCell ⟨x,6,none⟩ e):=
 ((((((af (·≠x) w).but _ _).but _ _).but _ _).but _ _).but _ _)
theorem dd (w:World) (x:Nat) (a b c d e f g:Value):Keeps (·≠x) w (((((((w.setCell ⟨x,0,none⟩ a).setCell ⟨x,1,none⟩ b).setCell ⟨x,2,none⟩ c).setCell ⟨x,3,none⟩ d).setCell ⟨x,4,none⟩ e).setCell ⟨x,5,none⟩ f).setCell ⟨x,6,none⟩ g):=
 ((((((((af (·≠x) w).but _ _).but _ _).but _ _).but _ _).but _ _).but _ _).but _ _)
theorem zC {p:Nat} {v:Value} {L:List Qk} {n f:Nat} {ds:List (ByteArray×Nat)} {t:Fm} (h:PAt w p v L n) (I9:∀q∈L,q.tk=.fin→q.k=4) (hp:gv f ((L.drop n).map Qk.tk)=some (ds,t))
 (hR:∀e w' va D x0 x1 x2 x3 x4 m,e=.returned (.agg #[va,IM,x0,x1,x2,x3,x4])→OwnDls w' w.heap.size va D→(D=[]→va=.slice none 0 0)→DlsOf D ds→FmAt w.heap.size w' (.agg #[x0,x1,x2,x3,x4]) t→PAt w' p v L m→Keeps (·≠p) w w'→R e w'):
 Calls Tryz.prog 50 #[.pointer (IQ p 0)] w R:=by
 have HR:=ae hR;clear hR;have H:=ae h;have HP:=ae hp;have JL:=h.le;have JI:p<w.heap.size:=am h.blk;have IR:Same w ((w.alloc (.cells oI 29)).alloc (.cells oI 29)):=((af _ w).alloc _).alloc _;have J:(w.alloc (.cells oI 29)).heap.size=w.heap.size+1:=by simp
 have Jb:=aw (ag w (.cells oI 29)) (.cells oI 29);have IS:=ag (w.alloc (.cells oI 29)) (.cells oI 29);rw[J]at IS;have H2:=ae (h.same IR);have cH:=ae IR;have dE:=ae Jb;have X:=ae IS;simp only[oI]at H2 cH dE X;clear h hp IR J Jb IS;go_enter Tryz.func50,Tryz.ntmps50;go_wp2_with fail;generalize((w.alloc (.cells _ 29)).alloc (.cells _ 29))=w2 at H2 cH dE X⊢;have JN:w.heap.size+2≤w2.heap.size:=am X.o
 go_loopw [] (fun wr=>∃(f m:Nat) (D:List Dl) (va:Value) (done G:List (ByteArray×Nat)),Hid (gv f ((L.drop m).map Qk.tk)=some (G,t))∧Hid (DlsOf D done)∧Hid (done++G=ds)∧D.length≤m∧m≤L.length∧Hid (D=[]→va=.slice none 0 0)∧Hid (OwnDls wr (w.heap.size+2) va D)∧Hid (PAt wr p v L m)∧Hid (Keeps (·≠p) w wr)∧
  Hid (wr.heap[w.heap.size]?=(II none 0 0 none 0 0 GA GA 0 0 none 0 0))∧
  Hid (wr.heap[w.heap.size+1]?=some (.cells #[va,IM,GA,GA,IU,IU,IM] 29))) (fun wr=>mK p L.length wr)
 case atStart=>exact⟨f,n,[],_,[],ds,HP,ae rfl,ae rfl,Nat.zero_le _,H.o.at_,ae (fun _=>rfl),ae (OwnDls.nil _ _),H2,ae (cH.o.bar p),dE,X⟩
 case round=>
  obtain⟨f,m,D,va,done,G,IZ,I0,dp,JO,JJ,Ji,HD,HQ,HK,HX,HY⟩:=hrel;clear HP H2 cH dE X;have Jw:=eh HQ.o L.length;rcases zr IZ.o with⟨f',x,r1,k,xs,r2,gJ,hl,hx,hd,I3,he⟩|⟨I5,bL,he⟩
  ·obtain⟨q,hq,l,Ja⟩:=bV hl;obtain⟨hm,rfl⟩:=List.getElem?_eq_some_iff.1 hq;obtain⟨Jz,a8⟩:=f9 l;have JB:=ae (by rw[a8];exact hx:fJ orders L[m].t=some k);have Jh:=ae (by rw[Ja];exact hd:gW 9 ((L.drop (m+1)).map Qk.tk)=some (xs,r2));have JD:=ae I3;have JH:=(yr hx).2.2;have HE:=ae he;clear hl hx hd I3 he hq l Ja a8 IZ;go_wp2_with fail;refine wC HQ.o hm Jz JB.o ?_;rintro e Y rfl h3 F;have H3:=ae h3;have cE:=ae (HK.o.tr F);have V:=ae (HD.o.but F (by omega));have ch:=ae (F.at HX.o (by omega));have o:=ae (F.at HY.o (by omega));have JM:(0:Int)≤(k:Int):=by omega
   clear h3 F HQ HK HD HX HY;obtain⟨s0,c0,rfl⟩:=V.o.shape;have z0:=xc1 o.o 0 rfl;have f0:=ao o.o 0;have ny:w.heap.size+1≠p:=by omega
   have kd:Keeps (·≠p) Y Y.drew:=al (af _ _);have Js:Keeps (fun b=>b<w.heap.size+2∧b≠p) Y Y.drew:=al (af _ _);have Jr:w.heap.size+1<w.heap.size+2∧w.heap.size+1≠p:=⟨Nat.lt_succ_self _,ny⟩;go_wp2_with fail;refine zq0 7 (.take 0 (.take 1 (.take 2 (.take 3 (.one 4 (.one 5 (.take 6 .last))))))) (Keeps (fun b=>b<w.heap.size+2∧b≠p) Y) (by kernel_rfl) (by kernel_rfl) Js ?_
   iterate 4 (first|(apply aC;rfl;rfl;go_simp)|(apply aB;rfl;rfl;intro w' hS;have y0:=ak hS z0 Jr;go_simp;exact rfl;go_simp))
   clear z0;refine aI (ay rfl rfl fun K N=>?_);go_simp;refine wE (H3.o.same (al (af _ _))) (by unfold aK;omega) Jh.o ?_;rintro e w4 u D2 m2 rfl ce If I4 Jy h4 Z fw JK;have y:Keeps (·≠p) Y w4:=kd.tr Z;refine N (Keeps (fun b=>b<w.heap.size+2∧b≠p) Y) _ _ (y.mono fun _ _ h=>h.2) (fun _ h=>h) ?_;clear N K;have I2:0<D2.length:=by rw[←List.length_map (f:=(·.name)),If];exact AS Jh.o
   have I7:=h4.at_;have r:=ae (V.o.but y (by omega));obtain⟨g,cap,E,hr,M,aL,hg,JA⟩:=fO (P:=Tryz.prog) (k:=3) (by decide) w4 23 23 33 Tryz.underlying23 eI rfl r.o.1 (by have h1:=am o.o;have h2:=y.size;omega) ce.str (by rw[List.length_map];exact I2) (fun x hx=>by obtain⟨d,_,rfl⟩:=List.mem_map.1 hx;rfl) (fun x hx u hu=>by obtain⟨d,_,rfl⟩:=List.mem_map.1 hx;simp[Dl.cells]at hu;rcases hu with rfl|rfl|rfl<;>rfl) (by rw[List.length_map];omega) (by decide);rw[List.length_map]at hr M;have U:Hid (OwnDls E (w.heap.size+2) (.slice (IQ g 0) (D.length+D2.length) cap) (D++D2)):=ae ⟨by simpa using M,fun d hd=>by
    rcases List.mem_append.1 hd with hd|hd
    ·exact r.o.2 d hd
    ·exact ce.2 d hd⟩
   have s:∀b,b<w.heap.size+2→(Value.slice s0 D.length c0).ownBlock≠some b:=fun b hb e=>by
    have :=(ah r.o.1 e).1;omega
   have k5:Keeps (·≠p) w E:=(cE.o.tr y).trans aL fun x hx hS=>⟨hS,s x (by omega)⟩;have aH:Keeps (fun b=>b<w.heap.size+2∧b≠p) Y E:=y.trans aL fun x hx hS=>⟨hS.2,s x hS.1⟩;have T:=ae k5;have Jq:=ae (aL.at h4.blk (s p (by omega)));have O:=ae (aH.at ch.o ⟨by omega,by omega⟩);have a:=ae (aH.at o.o ⟨by omega,by omega⟩);obtain⟨s2,c2,rfl⟩:=ce.shape;have Jn:=ae (I0.o.append (F3 If I4));have Jm:=ae fw;refine aI (bZ _ _ _ rfl rfl rfl ?hs ?hx hr (Keeps (fun b=>b<w.heap.size+2∧b≠p) Y) aH (fun _ h=>h) ?_)
   case hs=>rfl
   case hx=>rfl
   clear hr M aL hg JA ce If I4 h4 Z y fw s r k5 aH f0;go_simp;have d0:=xc1 a.o 0 rfl;have f0:=ao a.o 0
   iterate 1 (first|(apply aC;rfl;rfl;go_simp)|(apply aB;rfl;rfl;intro w' hS;go_simp;exact rfl;go_simp))
   refine aO rfl rfl fun K N=>?_;go_simp;refine N _ _ (aG ?_);clear N K f0 d0;have I:Keeps (·≠w.heap.size+1) E (E.setCell ⟨w.heap.size+1,0,none⟩ (.slice (IQ g 0) (D.length+D2.length) cap)):=(af _ E).but _ _;have j:Hid (Keeps (·≠p) w (E.setCell ⟨w.heap.size+1,0,none⟩ (.slice (IQ g 0) (D.length+D2.length) cap))):=ae (T.o.new (by omega) _ _);have H6:=ae (H.o.step j.o (I.at Jq.o (by omega)) I7);have A:=ae (I.at O.o (by omega));have C:=ae (U.o.but I (by omega));have z:Hid ((E.setCell ⟨w.heap.size+1,0,none⟩ (.slice (IQ g 0) (D.length+D2.length) cap)).heap[w.heap.size+1]?=(II (IQ g 0) (D.length+D2.length) cap none 0 0 GA GA 0 0 none 0 0)):=ae (by rw[aj a.o];simp);clear I T Jq O U a;generalize E.setCell ⟨w.heap.size+1,0,none⟩ (.slice (IQ g 0) (D.length+D2.length) cap)=w6 at j H6 A C z⊢;go_wp2_with fail;go_roundw
   case rel=>exact⟨f',m2,D++D2,_,done++xs.map (·,k),gJ,by rw[Jm.o];exact JD,Jn,ae (by rw[List.append_assoc,←HE.o];exact dp.o),by simp;omega,I7,ae (fun e=>by have :=congrArg List.length e;rw[List.length_append,List.length_nil]at this;omega),C,H6,j,A,z⟩
   case measure=>rw[Jw,eh H6.o];omega
  ·obtain⟨q,hq,l⟩:∃q,L[m]?=some q∧∀x,q.k=3→q.t=x→fJ orders x=none∧x≠Hf:=by
    cases hl:(L.drop m).map Qk.tk with
    |nil=>rw[hl,show qP 29 []=none from by kernel_rfl]at bL;cases bL
    |cons tk r1=>
     obtain⟨q,hq,l,_⟩:=bV hl;refine⟨q,hq,fun x hk hx=>I5 x r1 ?_⟩;rw[hl,←l];unfold Qk.tk;rw[if_pos hk,hx]
   obtain⟨hm,rfl⟩:=List.getElem?_eq_some_iff.1 hq;have Jg:=ae l;have JF:=ae bL;subst he;rw[List.append_nil]at dp;have Jl:=ae (dp.o▸I0.o:DlsOf D ds);clear hq l I5 bL IZ I0 dp;go_wp2_with fail;refine p7 HQ.o hm (fun hk=>(Jg.o _ hk rfl).1) ?_;rintro e Y rfl F;have H3:=ae (HQ.o.same F);have cE:=ae (HK.o.tr_same F);have V:=ae (HD.o.same F);have ch:=ae (F.at HX.o trivial);have o:=ae (F.at HY.o trivial);clear F HQ HK HD HX HY;go_wp2_with fail;refine cI H3.o hm _ (fun hh=>(Jg.o _ hh.1 rfl).2 hh.2) ?_;rintro e w4 rfl Z;have H4:=ae (H3.o.same Z);have Jk:=ae (cE.o.tr_same Z);have r:=ae (V.o.same Z);have Je:=ae (Z.at ch.o trivial);have IT:=ae (Z.at o.o trivial);clear Z H3 cE V ch o;go_wp2_with fail;refine lP 29 0 (by omega) (by omega) w4 m t _ _ trivial H4.o JF.o ?_;rintro e E u m5 rfl hu h5 k5 Jv fu JG;obtain⟨a3,ka,kc,rfl,_,_,_⟩:=hu.shape;have Ju:w.heap.size+2≤w4.heap.size:=am IT.o;have B:=ae (cR hu Ju);have H5:=ae h5;have T:=ae (Jk.o.tr k5);have U:=ae (r.o.but k5 (by omega));have O:=ae (k5.at Je.o (by omega));have a:=ae (k5.at IT.o (by omega));have gI:=ae fu;clear hu h5 k5 fu H4 Jk r Je IT;generalize t.op=t0 at B⊢;generalize t.name=t1 at B⊢;generalize t.num=t2 at B⊢;generalize t.kids.length=t3 at B⊢;have d2:=xc1 a.o 2 rfl;have d3:=xc1 a.o 3 rfl;have d4:=xc1 a.o 4 rfl;have d5:=xc1 a.o 5 rfl;have d6:=xc1 a.o 6 rfl;have g2:=ao a.o 2;have g3:=ao a.o 3;have g4:=ao a.o 4;have g5:=ao a.o 5;have g6:=ao a.o 6;go_wp2_with fail;clear d2 d3 d4 d5 d6 g2 g3 g4 g5 g6;have I:=kT E (w.heap.size+1) (.string t0) (.string t1) (IP t2) (IP a3) (.slice ka t3 kc);have z:=ae (oW a.o (.string t0) (.string t1) (IP t2) (IP a3) (.slice ka t3 kc));have j:=ae (T.o.trans I fun x hx hS=>⟨hS,by omega⟩:Keeps (·≠p) w _);have H6:=ae (H.o.step j.o (I.at H5.o.blk (by omega)) H5.o.at_);have C:=ae (U.o.but I (by omega));have A:=ae (I.at O.o (by omega));have IW:=ae (eE B.o I (by omega));clear I a T H5 U O B;generalize(((((E.setCell ⟨w.heap.size+1,2,none⟩ (.string t0)).setCell ⟨w.heap.size+1,3,none⟩ (.string t1)).setCell ⟨w.heap.size+1,4,none⟩ (IP t2)).setCell ⟨w.heap.size+1,5,none⟩ (IP a3)).setCell ⟨w.heap.size+1,6,none⟩ (.slice ka t3 kc))=w6 at z j H6 C A IW⊢;obtain⟨q1,J,fd,gH⟩:=bV gI.o;obtain⟨_,rfl⟩:=List.getElem?_eq_some_iff.1 J;obtain⟨q2,I1,dZ,_⟩:=bV gH;obtain⟨I6,rfl⟩:=List.getElem?_eq_some_iff.1 I1;have a8:=I9 _ (List.getElem_mem I6) dZ;have Jt:=f9 fd;clear J fd gH I1 dZ gI;refine jR H6.o Jv _ Jt ?_;rintro e w7 u7 rfl h7 k7;have H7:=ae h7;have Jj:=ae (j.o.tr k7);have Jp:=ae (C.o.but k7 (by omega));have Jd:=ae (k7.at A.o (by omega));have Jc:=ae (k7.at z.o (by omega));have Jf:=ae (eE IW.o k7 (by omega));clear h7 k7 H6 j C A z IW;go_wp2_with fail;refine gl H7.o I6 4 a8 ?_;rintro e w8 rfl h8 k8;have H8:=ae h8;have JE:=ae (Jj.o.tr k8);have Jo:=ae (Jp.o.but k8 (by omega));have JC:=ae (eE Jf.o k8 (by omega));obtain⟨s0,c0,rfl⟩:=Jo.o.shape;have c:=k8.at Jd.o (by omega);have i:=k8.at Jc.o (by omega);clear h8 k8 H7 Jj Jp Jf Jd Jc;obtain⟨z0,z1,z2,z3,z4,z5,z6⟩:=xc7 i rfl rfl rfl rfl rfl rfl rfl;obtain⟨d0,d1,d2,d3,d4,d5,d6⟩:=xc7 c rfl rfl rfl rfl rfl rfl rfl;obtain⟨g0,g1,g2,g3,g4,g5,g6⟩:=xf7 c;clear i;go_wp2_with fail
   refine bodyPost_ret (v:=(Ip s0 D.length c0 none 0 0 t0 t1 t2 a3 ka t3 kc)) (by simp[results,Tryz.results50,go_sem,d0,d1,d2,d3,d4,d5,d6]) rfl ?_;have I8:=JE.o.box7 (Nat.le_refl _) (.slice s0 D.length c0) IM (.string t0) (.string t1) (IP t2) (IP a3) (.slice ka t3 kc);have kx:=dd w8 w.heap.size (.slice s0 D.length c0) IM (.string t0) (.string t1) (IP t2) (IP a3) (.slice ka t3 kc);refine HR.o _ _ (.slice s0 D.length c0) D _ _ _ _ _ _ rfl ?_ Ji.o Jl.o ?_ (H.o.step I8 (kx.at H8.o.blk (by omega)) H8.o.at_) I8
   ·have :=Jo.o.but kx (by omega);exact⟨aN this.1 (by omega),this.2⟩
   ·exact cR (eE JC.o kx (by omega)) (by omega)
end
end Go.Proofs.YtojegnbejmeehaaGreatDoor
