/- Helpers of the proof of TopNames. -/
import Derived.Test.YtojegnbejmeehaaGreatDoorJBW
import Derived.Test.YtojegnbejmeehaaGreatDoorJBY
namespace Go.Proofs.YtojegnbejmeehaaGreatDoor
open Go.RowKit
set_option maxRecDepth 10000
set_option maxHeartbeats 16000000
set_option linter.all false
section
attribute [local irreducible] wpQuiet ax au bO aQ
variable {R:Ending→World→Prop} {w:World}
def tplsB:List ByteArray:=[⟨#[118,97,114,49,32,37,59,32,118,97,114,50,32,38,59,32,37,32,105,110,32,38,32,61,62,32,37,32,60,32,51,59]⟩,⟨#[118,97,114,50,32,37,44,32,38,59,32,37,32,115,117,98,32,38,32,124,32,38,32,115,117,98,32,37,59]⟩,⟨#[118,97,114,48,32,37,59,32,118,97,114,49,32,38,59,32,37,32,60,61,62,32,38,32,61,32,50,59]⟩,⟨#[118,97,114,49,32,38,59,32,101,120,49,32,37,58,32,37,32,60,32,38,59]⟩]
theorem y9:tplsB=tpls.map enc:=by kernel_rfl
theorem Ed {w:World} {b:Nat} (d:w.heap.size=b):∀k,k<4→∃l∈tpls,(w.alloc (.cells (tplsB.map Value.string).toArray 9)).cell? ⟨b,k,none⟩=some (.string (enc l)):=by
 intro k c;have a:k<tpls.length:=c;refine⟨tpls[k],List.getElem_mem a,?_⟩;subst d;rw[ai (ag w _),y9];simp[a]
attribute [local irreducible] enc c6 Calls
theorem uC (g:Int) (a b:ByteArray) (ha:a.size≤140737488355328) (hb:b.size≤140737488355328) (hT:Lib.Utf8Tabs 0 1 w)
 (hR:∀e x,e=.returned (.bool true)→Same w x→R e x):
 Calls Tryz.prog 3 #[IP g,.string a,.string b] w R:=by
 have HR:=ae hR;clear hR;have hc:=Ed (w:=w) rfl;have n:=sal w (.cells (tplsB.map Value.string).toArray 9);have HC:=ae hc;have HA:=ae n;have fd:=mB hT n;clear hc n hT;simp only[tplsB,List.map_cons,List.map_nil]at HC HA fd;have O:=ae fd;clear fd;go_enter Tryz.func3,Tryz.ntmps3;go_wp2_with fail;generalize w.alloc _=w1 at HC HA O⊢;generalize JG:w.heap.size=bs at HC⊢;refine Dy _ ?_ O.o ?_
 ·simp only[ByteArray.size_append];have q1:(⟨#[118,97,114,49,32]⟩:ByteArray).size=5:=rfl;have q2:(⟨#[44,32]⟩:ByteArray).size=2:=rfl;have q3:(⟨#[59,32,116,114,117,101,59]⟩:ByteArray).size=7:=rfl;unfold maxLen;omega
 rintro e w2 u pl er rfl ⟨pa,pn,pc,IS,gH,If,po,fw,pk,IR,gI,pm,gJ,rfl⟩ I0 k2;have n:=sal w2 (Ik pa pn pc IS gH If po fw pk IR gI pm gJ);have Jd:=ae (ag w2 (Ik pa pn pc IS gH If po fw pk IR gI pm gJ));have f:=ae ((HA.o.tr k2).tr n);have ce:=ae (k2.tr n);have Je:=ae I0;have T:=ae n;have y0:=xc1 Jd.o 0 rfl;have Jg:IntKind.i64.wrap ((a.size:Int)+(b.size:Int))=(a.size:Int)+(b.size:Int):=by rw[IntKind.wrap_i64];omega
 clear k2 n I0;by_cases h1:g<0
 ·have I8:decide (g<0)=true:=decide_eq_true h1;clear h1;go_wp2_with fail;exact HR.o _ _ rfl f.o
 have I8:decide (g<0)=false:=decide_eq_false h1;by_cases h2:4≤g
 ·have I7:decide ((4:Int)≤g)=true:=decide_eq_true h2;clear h1 h2;go_wp2_with fail;exact HR.o _ _ rfl f.o
 have I7:decide ((4:Int)≤g)=false:=decide_eq_false h2;by_cases h3:60<(a.size:Int)+(b.size:Int)
 ·have I6:decide ((60:Int)<(a.size:Int)+(b.size:Int))=true:=decide_eq_true h3;clear h1 h2 h3;go_wp2_with fail;exact HR.o _ _ rfl f.o
 have I6:decide ((60:Int)<(a.size:Int)+(b.size:Int))=false:=decide_eq_false h3;by_cases J:er≠0
 ·have I5:(er !=0)=true:=by rw[bne_iff_ne];exact J
  clear h1 h2 h3 J;go_wp2_with fail;exact HR.o _ _ rfl f.o
 replace J:er=0:=Decidable.byContradiction J;have I5:(er !=0)=false:=by rw[bne_eq_false_iff_eq];exact J
 by_cases h5:pn≠2
 ·have JF:((pn:Int) !=2)=true:=by rw[bne_iff_ne];omega
  clear h1 h2 h3 J;go_wp2_with fail;exact HR.o _ _ rfl f.o
 replace h5:pn=2:=Decidable.byContradiction h5;obtain⟨D,⟨va,x1,x2,x3,x4,x5,x6,hu,IT⟩,ch⟩:=Je.o J;simp only[Value.agg.injEq,Array.mk.injEq,List.cons.injEq,and_true]at hu;obtain⟨rfl,Jf⟩:=hu;clear Jf;obtain⟨qa,qc,t,_,_,p⟩:=IT.open;rw[List.length_map]at t p;simp only[Value.slice.injEq]at t;obtain⟨rfl,v,rfl⟩:=t;obtain⟨M,L,rfl⟩:∃M L,D=[M,L]:=by
  have hl:D.length=2:=by omega
  match D,hl with
  | [M,L],_=>exact⟨M,L,rfl⟩
 obtain⟨bD,off,rfl,_,dZ⟩:=p 0 (by simp);have z0:=ak T.o (dZ 0 _ rfl 0 _ rfl) trivial;have z1:=ak T.o (dZ 1 _ rfl 0 _ rfl) trivial;simp only[Nat.zero_mul,Nat.one_mul,Nat.add_zero]at z0 z1;have dp:=ch M (by simp);have cH:=ch L (by simp);generalize M.name=n0 at z0 dp;generalize L.name=n1 at z1 cH;subst h5;clear p dZ IT ch v Je;by_cases h6:a=b
 ·have I4:(a.toList==b.toList)=true:=by rw[eP];exact decide_eq_true h6
  clear h1 h2 h3 J h6;go_wp2_with fail;exact HR.o _ _ rfl f.o
 have I4:(a.toList==b.toList)=false:=by rw[eP];exact decide_eq_false h6
 by_cases h7:n0≠a
 ·have dE:(n0.toList==a.toList)=false:=by rw[eP];exact decide_eq_false h7
  clear h1 h2 h3 J h6 h7;go_wp2_with fail;exact HR.o _ _ rfl f.o
 replace h7:n0=a:=Decidable.byContradiction h7;by_cases h8:n1≠b
 ·have dE:(n0.toList==a.toList)=true:=by rw[eP];exact decide_eq_true h7
  have I3:(n1.toList==b.toList)=false:=by rw[eP];exact decide_eq_false h8
  clear h1 h2 h3 J h6 h7 h8;go_wp2_with fail;exact HR.o _ _ rfl f.o
 replace h8:n1=b:=Decidable.byContradiction h8;subst h7 h8;obtain⟨la,rfl,IZ,Jm⟩:=Cb dp;obtain⟨lb,rfl,IW,Jl⟩:=Cb cH;obtain⟨k,rfl⟩:∃k:Nat,g=(k:Int):=⟨g.toNat,by omega⟩;have Jn:k<4:=by omega
 obtain⟨l,hl,zt⟩:=HC.o k Jn;obtain⟨aL,v,Jp,JH,t1,t2,Ay,An,Ky,Kn,Jc,Jb,hy,hn,I2⟩:=Gt IZ IW h6 l hl;replace zt:=ak ce.o zt trivial;have B:=ae (And.intro Jc (And.intro Jb (And.intro hy hn)));have bL:=ae aL;have dE:((enc la).toList==(enc la).toList)=true:=by rw[eP];exact decide_eq_true rfl
 have I3:((enc lb).toList==(enc lb).toList)=true:=by rw[eP];exact decide_eq_true rfl
 have Jy:=ae I2;clear h1 h2 h3 J h6 dp cH IZ IW hl aL Jc Jb hy hn I2 ce HC O T ha hb;go_wp2_with fail;clear z0 z1 y0 I8 I7 I6 I5 I4 dE I3 Jg Jd;generalize w2.heap.size=p8;generalize w2.alloc _=o at f zt⊢;have JE:(k:Int)<4:=by omega
 obtain⟨N,hN⟩:∃N,Jp.length=N:=⟨_,rfl⟩;have HN:=ae hN;clear hN;apply D4 (C:=fun b1 b2 a1 c1 a2 c2 a3 c3 a4 c4 x=>Cmp o (aZ (aY Ay Ky 0) N (aY Ay Ky 0).length 0) (aZ (aY An Kn 0) N (aY An Kn 0).length 0) b1 b2 (.slice a1 N c1) (.slice a2 N c2) (.slice a3 N c3) (.slice a4 N c4) x)
 case h1=>
  have s:Same o o.drew:=al (af _ o);refine nN 17 (.take 0 (.take 1 (.take 2 (.take 3 (.take 6 (.take 7 (.take 8 (.take 9 (.take 10 (.take 11 (.three 4 14 15 (.three 5 14 15 (.three 12 14 15 (.three 13 14 15 (.two 14 15 (.one 15 (.one 16 .last)) (.one 14 (.one 16 .last))) (.two 13 15 (.one 15 (.one 16 .last)) (.one 13 (.one 16 .last))) (.two 13 14 (.one 14 (.one 16 .last)) (.one 13 (.one 16 .last)))) (.two 12 15 (.two 13 15 (.one 15 (.one 16 .last)) (.one 13 (.one 16 .last))) (.one 12 (.one 13 (.one 16 .last)))) (.two 12 14 (.two 13 14 (.one 14 (.one 16 .last)) (.one 13 (.one 16 .last))) (.one 12 (.one 13 (.one 16 .last))))) (.two 5 15 (.two 12 15 (.two 13 15 (.one 15 (.one 16 .last)) (.one 13 (.one 16 .last))) (.one 12 (.one 13 (.one 16 .last)))) (.one 5 (.one 12 (.one 13 (.one 16 .last))))) (.two 5 14 (.two 12 14 (.two 13 14 (.one 14 (.one 16 .last)) (.one 13 (.one 16 .last))) (.one 12 (.one 13 (.one 16 .last)))) (.one 5 (.one 12 (.one 13 (.one 16 .last)))))) (.two 4 15 (.two 5 15 (.two 12 15 (.two 13 15 (.one 15 (.one 16 .last)) (.one 13 (.one 16 .last))) (.one 12 (.one 13 (.one 16 .last)))) (.one 5 (.one 12 (.one 13 (.one 16 .last))))) (.one 4 (.one 5 (.one 12 (.one 13 (.one 16 .last)))))) (.two 4 14 (.two 5 14 (.two 12 14 (.two 13 14 (.one 14 (.one 16 .last)) (.one 13 (.one 16 .last))) (.one 12 (.one 13 (.one 16 .last)))) (.one 5 (.one 12 (.one 13 (.one 16 .last))))) (.one 4 (.one 5 (.one 12 (.one 13 (.one 16 .last))))))))))))))))) (Same o) (by kernel_rfl) (by kernel_rfl) s ?_
  iterate 10 (first|(apply Ep;rfl;rfl;go_simp)|(apply Eo;rfl;rfl;intro x A;have q0:=ak A zt trivial;go_simp;exact rfl;go_simp))
  have d:Hid (St o [] [] o.drew):=ae (St.start s);generalize o.drew=w4 at d⊢;refine wn (.one 16 .last) ?F2 (fun b1 b2 a1 c1 a2 c2 a3 c3 a4 c4 W=>b1≠b2∧∃bs,b1∈bs∧b2∈bs∧St o bs [(.slice a3 N c3,aZ (aY Ay Ky 0) N (aY Ay Ky 0).length 0),(.slice a4 N c4,aZ (aY An Kn 0) N (aY An Kn 0).length 0),(.slice a1 N c1,aZ (aY Ay Ky 0) N (aY Ay Ky 0).length 0),(.slice a2 N c2,aZ (aY An Kn 0) N (aY An Kn 0).length 0)] W) ?tree ?leaf
  case tree=>
   intro a8
   iterate 6
    (all_goals first
     |refine BC ?_ ?_ ?_
     |refine FG ?_ ?_
     |refine BD ?_
     all_goals
      refine ay rfl rfl fun K c=>?_;go_simp
     all_goals first
      |(refine vV bL.o v ?_;rintro e w5 rfl F;replace d:=ae (d.o.step F);refine c (Same o) _ _ d.o.same (fun _ h=>h) ?_;clear c K F)
      |(refine tB bL.o v Jm Jl ?_;rintro e w5 rfl F;replace d:=ae (d.o.step F);refine c (Same o) _ _ d.o.same (fun _ h=>h) ?_;clear c K F)
      |(refine pH B.o.1 (by omega) (by omega) B.o.2.2.1 B.o.2.2.2 ?_;rintro e w5 D uy un rfl G hv F;obtain⟨ya,yc,na,nc,rfl,rfl,hf⟩:=qz G HN.o hv;replace d:=ae (d.o.told F hf);refine c (Same o) _ _ d.o.same (fun _ h=>h) ?_;clear c K F hf hv G)
      |(refine pH B.o.2.1 (by omega) (by omega) B.o.2.2.1 B.o.2.2.2 ?_;rintro e w5 D uy un rfl G hv F;obtain⟨ya,yc,na,nc,rfl,rfl,hf⟩:=qz G (Jy.o.symm.trans HN.o) hv;replace d:=ae (d.o.told F hf);refine c (Same o) _ _ d.o.same (fun _ h=>h) ?_;clear c K F hf hv G)
      |(refine c (Same o) _ _ d.o.more.same (fun _ h=>h) ?_;clear c K;replace d:=ae d.o.more;generalize World.alloc _ _=w5 at d⊢;generalize Array.size _=y at d⊢))
   all_goals
    have cE:=d.o.nd;simp only[List.nodup_cons,List.mem_singleton,List.not_mem_nil,not_false_eq_true,List.nodup_nil,and_true]at cE
    first
     |(have h9:=a8 _ _ _ _ _ _ _ _ _ _ _ ⟨fun e=>cE (Eq.symm e),_,List.mem_cons_of_mem _ (List.mem_cons_self ..),List.mem_cons_self ..,d.o⟩;exact h9)
     |(have h9:=a8 _ _ _ _ _ _ _ _ _ _ _ ⟨cE,_,List.mem_cons_self ..,List.mem_cons_of_mem _ (List.mem_cons_self ..),d.o⟩;exact h9)
  case leaf=>
   intro b1 b2 a1 c1 a2 c2 a3 c3 a4 c4 W hC;obtain⟨I1,bs,m1,m2,aH⟩:=hC;have U:=(aH.box b1 m1).1;have t:=(aH.box b2 m2).1;have Jz:=I1.symm;have d:=ae aH;clear aH;obtain⟨M,L,d2,d3,d4⟩:=xc5 U rfl rfl rfl rfl rfl;obtain⟨g0,g1,g2,g3,g4⟩:=xf5 U;obtain⟨e0,e1,e2,e3,e4⟩:=xc5 t rfl rfl rfl rfl rfl;obtain⟨f0,f1,f2,f3,f4⟩:=xf5 t;refine BD (ay rfl rfl fun K c=>?_);go_simp;refine c (Same o) _ _ (d.o.one m1 _ _ _ _ _) (fun _ h=>h) ?_;clear c K;refine Er rfl rfl fun K c=>?_;go_simp;exact c _ _ (aG ⟨rfl,b1,b2,a1,c1,a2,c2,a3,c3,a4,c4,rfl,d.o.fin m1 m2 I1⟩)
 case h2=>
  intro b1 b2 a1 c1 a2 c2 a3 c3 a4 c4 W hC;obtain⟨Ja,I9,hs1,Y,X,V,hk⟩:=hC;generalize aZ (aY Ay Ky 0) N (aY Ay Ky 0).length 0=S1 at hs1 X;generalize aZ (aY An Kn 0) N (aY An Kn 0).length 0=S2 at Y V;have r:=ae Ja;have q:=ae I9;have Ju:=ae hs1;have Jt:=ae Y;have Js:=ae X;have Jr:=ae V;have HK:=ae (f.o.tr hk);obtain⟨JD,Jk,_⟩:=hs1.at_;obtain⟨JC,Jj,_⟩:=Y.at_;obtain⟨JB,Ji,_⟩:=X.at_;obtain⟨JA,Jh,_⟩:=V.at_;unfold maxLen at Jk Jj Ji Jh;clear Ja I9 hs1 Y X V hk;obtain⟨M,L,d2,d3,d4⟩:=xc5 r.o rfl rfl rfl rfl rfl;obtain⟨e0,e1,e2,e3,e4⟩:=xc5 q.o rfl rfl rfl rfl rfl
  try dsimp only
  go_wp2_with fail;clear M L d2 d3 d4 e0 e1 e2 e3 e4
  go_loopw [13] (fun i wr=>∃j:Nat,i=.int .i64 (j:Int)∧j≤N∧Hid (Same W wr)) (fun i _=>N -(intOf i).toNat)
  case atStart=>exact⟨0,rfl,Nat.zero_le _,ae (af _ _)⟩
  case round=>
   obtain⟨j,rfl,hj,m⟩:=hrel;have d3:=ak m.o (ai r.o 3) trivial;have e3:=ak m.o (ai q.o 3) trivial;by_cases z:j<N
   ·have Z:decide ((j:Int)<(N:Int))=true:=by simp;omega
    obtain⟨_,_,I⟩:=Ju.o.at_;obtain⟨_,_,H⟩:=Js.o.at_;obtain⟨bx,ox,sx,lx,rfl,zx,gx,ix⟩:=I j z;obtain⟨Jq,oy,sy,ly,rfl,zy,gy,iy⟩:=H j z;obtain rfl:lx=ly:=Option.some.inj (gx.symm.trans gy);have h_:=xs2 m.o zx zy;clear zx zy;obtain⟨zx,zy⟩:=h_;have IX:=ae (ix.same m.o);have IY:=ae (iy.same m.o);have Jo:(j:Int)<(N:Int):=by omega
    clear I H gx gy ix iy;go_wp2_with fail;have s:Same wr wr.drew:=al (af _ wr);refine az (.take 0 (.take 1 (.take 2 (.take 3 (.take 4 (.take 5 (.take 6 (.take 7 (.take 8 (.take 9 (.take 10 (.take 11 (.one 12 (.take 13 .done)))))))))))))) (fun x=>Same wr x) (by kernel_rfl) (by kernel_rfl) s ?_
    iterate 12 (first|(apply aF;rfl;rfl;go_simp)|(apply aD;rfl;rfl;intro x A;obtain⟨q0,q1,q2,q3⟩:=xs4 A d3 e3 zx zy;go_simp;exact rfl;go_simp))
    refine aP (ay rfl rfl fun K c=>?_);go_simp;refine tL (IX.o.same s) (IY.o.same s) ?_;rintro e w6 rfl E;replace E:=s.tr E;refine c _ _ _ E (fun _ h=>h) ?_;clear c K;rw[decide_eq_true (rfl:lx=lx)]
    iterate 1 (first|(apply aF;rfl;rfl;go_simp)|(apply aD;rfl;rfl;intro x A;go_simp;exact rfl;go_simp))
    refine aW ?_;have fu:=ae (m.o.tr E);clear E s;go_wp2_with fail;go_roundw
    case rel=>exact⟨j+1,by go_num,by omega,fu⟩
    case measure=>simp[intOf];omega
   ·have Z:decide ((j:Int)<(N:Int))=false:=by simp;omega
    have Jw:=ae m.o;go_wp2_with fail;clear Z z hj m d3 e3
    go_loopw [14] (fun i wr=>∃j:Nat,i=.int .i64 (j:Int)∧j≤N∧Hid (Same W wr)) (fun i _=>N -(intOf i).toNat)
    case atStart=>exact⟨0,rfl,Nat.zero_le _,Jw⟩
    case round=>
     obtain⟨j,rfl,hj,m⟩:=hrel;have d3:=ak m.o (ai r.o 4) trivial;have e3:=ak m.o (ai q.o 4) trivial;by_cases z:j<N
     ·have Z:decide ((j:Int)<(N:Int))=true:=by simp;omega
      obtain⟨_,_,I⟩:=Jt.o.at_;obtain⟨_,_,H⟩:=Jr.o.at_;obtain⟨bx,ox,sx,lx,rfl,zx,gx,ix⟩:=I j z;obtain⟨Jq,oy,sy,ly,rfl,zy,gy,iy⟩:=H j z;obtain rfl:lx=ly:=Option.some.inj (gx.symm.trans gy);have h_:=xs2 m.o zx zy;clear zx zy;obtain⟨zx,zy⟩:=h_;have IX:=ae (ix.same m.o);have IY:=ae (iy.same m.o);have Jo:(j:Int)<(N:Int):=by omega
      clear I H gx gy ix iy;go_wp2_with fail;have s:Same wr wr.drew:=al (af _ wr);refine az (.take 0 (.take 1 (.take 2 (.take 3 (.take 4 (.take 5 (.take 6 (.take 7 (.take 8 (.take 9 (.take 10 (.take 11 (.one 12 (.take 13 .done)))))))))))))) (fun x=>Same wr x) (by kernel_rfl) (by kernel_rfl) s ?_
      iterate 12 (first|(apply aF;rfl;rfl;go_simp)|(apply aD;rfl;rfl;intro x A;obtain⟨q0,q1,q2,q3⟩:=xs4 A d3 e3 zx zy;go_simp;exact rfl;go_simp))
      refine aP (ay rfl rfl fun K c=>?_);go_simp;refine tL (IX.o.same s) (IY.o.same s) ?_;rintro e w6 rfl E;replace E:=s.tr E;refine c _ _ _ E (fun _ h=>h) ?_;clear c K;rw[decide_eq_true (rfl:lx=lx)]
      iterate 1 (first|(apply aF;rfl;rfl;go_simp)|(apply aD;rfl;rfl;intro x A;go_simp;exact rfl;go_simp))
      refine aW ?_;have fu:=ae (m.o.tr E);clear E s;go_wp2_with fail;go_roundw
      case rel=>exact⟨j+1,by go_num,by omega,fu⟩
      case measure=>simp[intOf];omega
     ·have Z:decide ((j:Int)<(N:Int))=false:=by simp;omega
      go_wp2_with fail;refine Bj ?_;rintro e w9 rfl k9;have Jv:=ae ((HK.o.tr m.o).tr k9);clear k9;go_wp2_with fail;exact HR.o _ _ rfl Jv.o
end
end Go.Proofs.YtojegnbejmeehaaGreatDoor
