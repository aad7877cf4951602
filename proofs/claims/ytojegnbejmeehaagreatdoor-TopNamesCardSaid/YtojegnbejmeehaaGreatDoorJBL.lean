/- Helpers of the proof of TopNames. -/
import Derived.Test.YtojegnbejmeehaaGreatDoorJBB
import Derived.Test.YtojegnbejmeehaaGreatDoorJBK
namespace Go.Proofs.YtojegnbejmeehaaGreatDoor
open Go.RowKit
set_option maxRecDepth 10000
set_option maxHeartbeats 16000000
set_option linter.all false
section
attribute [local irreducible] wpQuiet ax au aQ
variable {R:Ending→World→Prop} {w:World}
def bK (D:List Dl):List ByteArray:=D.map (·.name)
theorem Ch {va nd:Value} {D:List Dl} {t:Fm} (Jc:DeclsAt w va D) (Jn:D=[]→va=.slice none 0 0) (hv:FmR w nd t) (hg:GoodP D t) (h6:D.length+t.deep≤6) (h0:D=[]→t.isQ) (Jd:(bu (bK D) t).size≤2000)
 (hR:∀e w' v,e=.returned (.tuple (Ia v 0))→CoR w' v (bu (bK D) t)→Same w w'→R e w'):
 Calls Tryz.prog 37 #[va,nd] w R:=by
 have HR:=ae hR;clear hR;have Ka:=ir t;obtain⟨A,z,y,rfl,_,Jq,Jp⟩:=hv.shape;have JO:t.kids.length≤2:=uE t;unfold maxLen at Jp;have N:=ae hv;have M:=ae (yI hv);have JZ:=ae Jc;clear hv;obtain⟨a,c,rfl,Kb,JR,ce⟩:=Jc.open;unfold maxLen at JR;have HC:=ae ce;have JV:=ae Jn;clear Jc ce Jn;generalize JL:t.op=t0 at N M⊢;generalize JN:t.name=t1 at N M⊢;generalize JM:t.num=t2 at N M⊢;generalize JP:t.kids.length=tl at N M Jq JO⊢;clear JL JN JM JP;have hs1:(w.alloc (Ht t0 t1 t2 A z tl y)).heap.size=w.heap.size+1:=by simp
 have k2:Same w ((w.alloc (Ht t0 t1 t2 A z tl y)).alloc Hl):=((af (fun _=>True) w).alloc _).alloc _;have o:=aw (ag w (Ht t0 t1 t2 A z tl y)) Hl;have Jb:=ag (w.alloc (Ht t0 t1 t2 A z tl y)) Hl;rw[hs1]at Jb;obtain⟨Z,Y,V,U,O⟩:=xc5 o rfl rfl rfl rfl rfl;have IT:=ae (N.o.same k2);have Jm:=ae k2;have fd:=ae o;have dE:=ae Jb;have JK:((w.alloc (Ht t0 t1 t2 A z tl y)).alloc Hl).heap.size=w.heap.size+2:=by simp
 clear hs1 k2 o Jb N;go_enter Tryz.func37,Tryz.ntmps37;go_wp2_with fail;generalize(w.alloc (Ht t0 t1 t2 A z tl y)).alloc Hl=w2 at IT Jm fd dE JK Z Y V U O⊢;refine jd IT.o hg.form (by have :=hg.size;omega) hg.deep ?_;rintro e w3 rfl k3;have Jj:=ae (IT.o.same k3);have JF:=ae (Jm.o.tr k3);have I8:=ae (k3.at fd.o trivial);have I5:=ae (k3.at dE.o trivial);have h_:=xs5 k3 Z Y V U O;clear Z Y V U O;obtain⟨Z,Y,V,U,O⟩:=h_;have J6:=k3.size;clear k3 IT Jm fd dE;go_wp2_with fail;refine wR t (DO hg.form) _ _ _ trivial Jj.o ?_;rintro e w4 rfl k4;have Ji:=ae (Jj.o.same k4);have Jl:=ae (JF.o.tr k4);have I7:=ae (k4.at I8.o trivial);have I4:=ae (k4.at I5.o trivial);have h_:=xs5 k4 Z Y V U O;clear Z Y V U O;obtain⟨Z,Y,V,U,O⟩:=h_;have J5:=k4.size;clear k4 Jj JF I8 I5;go_wp2_with fail;refine kV (D:=D) (t:=t) ⟨_,_,_,_,_,_,rfl,JV.o,JZ.o.same Jl.o,Ji.o⟩ hg ?_;rintro e w5 rfl k5;have JC:=ae (Ji.o.same k5);have JE:=ae (Jl.o.tr k5);have I6:=ae (k5.at I7.o trivial);have I3:=ae (k5.at I4.o trivial);have h_:=xs5 k5 Z Y V U O;clear Z Y V U O;obtain⟨Z,Y,V,U,O⟩:=h_;have JJ:=k5.size;clear k5 Ji Jl I7 I4;have ks:=(af (fun _=>True) w5).alloc (.cells #[IM,false] 133);have fu:Hid (LowAt w.heap.size (w5.alloc (.cells #[IM,false] 133)) w5.heap.size IM []):=ae ⟨ag w5 _,World.ownsRow_nil _ _ _ _⟩;have JB:=ae (JC.o.same ks);have s:=ae (JE.o.tr ks);have dZ:=ae (ks.at I6.o trivial);have dp:=ae (ks.at I3.o trivial);clear ks Z Y V U O JC JE I6 I3;go_wp2_with fail;generalize w5.alloc _=w6 at fu JB s dZ dp⊢;generalize hX:w5.heap.size=X at fu JJ⊢;clear hX
 go_loopw [10,39] (fun _ i wr=>∃(k:Nat) (u:Value),i=.int .i64 (k:Int)∧k≤D.length∧Hid (LowAt w.heap.size wr X u ((bK D).take k))∧Hid (Keeps (·≠X) w6 wr)∧Hid (∀b,u.ownBlock=some b→w6.heap.size≤b)) (fun _ i _=>D.length -(intOf i).toNat)
 case atStart=>exact⟨0,_,rfl,Nat.zero_le _,fu,ae (af _ _),ae (fun b f=>by cases f)⟩
 case round=>
  obtain⟨k,u,rfl,hk,hL,hK,hU⟩:=hrel;by_cases gJ:k<D.length
  ·have JS:w.heap.size+2≤X:=by omega
   have I1:(bK D)[k]?=some D[k].name:=by unfold bK;rw[List.getElem?_map,List.getElem?_eq_getElem gJ];rfl
   have JQ:k<(bK D).length:=by unfold bK;rw[List.length_map];exact gJ
   have aH:((bK D).take k).length=k:=by rw[List.length_take];omega
   have I0:(bK D).take (k+1)=(bK D).take k++[D[k].name]:=by
    rw[List.take_add_one,I1];rfl
   obtain⟨bd,od,rfl,Kc,Jt⟩:=HC.o k gJ;obtain⟨y0,y1,y2⟩:=Jt k gJ;have Jg:bd≠X:=by omega
   replace y0:=hK.o.cell (ak s.o y0 trivial) Jg;replace y1:=hK.o.cell (ak s.o y1 trivial) Jg;replace y2:=hK.o.cell (ak s.o y2 trivial) Jg;have JD:=ae I0;clear Jt I1 I0;generalize D[k].name=nm at y0 JD;generalize D[k].ord=gI at y1;generalize D[k].spot=gH at y2;have kz:=sal wr (In nm gI gH);have Jf:=ag wr (In nm gI gH);have h7:=hL.o.same kz;have Jv:=ae kz;have JI:=kz.size;clear kz;go_wp2_with fail;generalize wr.alloc _=w7 at Jf h7 Jv JI⊢;have kd:Same w7 w7.drew:=al (af (fun _=>True) w7);have Jo:w.heap.size≤w7.drew.heap.size:=by
    have :=s.o.size;have :=hK.o.size;have :=kd.size;omega
   obtain⟨g,cap,w8,hr,m,E,a8,Je⟩:=bi (P:=Tryz.prog) w7.drew 22 22 9 Tryz.underlying22 tD rfl (h7.same kd).own Jo (.string nm) rfl (by rw[aH];omega) (by decide);have IR:=(h7.same kd).blk;have bL:=kd.at Jf trivial;have Ju:=aw IR (Iu nm);have Jr:=aw bL (Iu nm);have ch:∀b,u.ownBlock=some b→b≠X:=fun b f e=>by
    obtain⟨_,JT,hc⟩:=ah h7.own f;rw[e,h7.blk]at hc;simp at hc
   have Js:w8.heap[wr.heap.size]?=_:=E.at bL (fun f=>by
    obtain⟨_,JT,hc⟩:=ah (h7.same kd).own f;rw[bL]at hc;simp at hc)
   have IS:=E.at IR (fun f=>ch X f rfl);have yX:=xc1 IS 0 rfl;have fX:=ao IS 0;rw[aH]at hr m;obtain⟨su,cu,rfl⟩:=av h7.own;have HF:=ae (And.intro m (And.intro E (And.intro a8 Je)));have H7:=ae (And.intro h7 (And.intro kd ch));have Jw:=ae IR;have JU:=ae Ju;have JY:=ae bL;have JX:=ae Jr;have Jy:=ae IS;have J0:=ae Js;clear m E a8 Je h7 kd ch IR Ju bL Jr IS Js Jf y0 y1 y2;simp only[aH]at *;refine zq0 11 (.take 0 (.take 1 (.take 2 (.take 3 (.take 4 (.take 5 (.take 6 (.one 7 (.one 8 (.take 9 (.take 10 .last))))))))))) (fun w'=>w'.heap[X]?=some (.cells #[.slice su k cu,false] 133)∧w'.heap[wr.heap.size]?=some (.cells #[nm,gI,gH] 33)) (by kernel_rfl) (by kernel_rfl) ⟨Jw.o,JY.o⟩ ?_
   iterate 7 (first|(apply aC;rfl;rfl;go_simp)|(apply aB;rfl;rfl;intro w' hS;obtain⟨s0,s1⟩:=hS;have x0:=ai s0 0;have q0:=ai s1 0;simp only[List.getElem?_toArray,List.getElem?_cons_zero,List.getElem?_cons_succ]at x0 q0;go_simp;exact rfl;go_simp))
   refine aI (ay rfl rfl fun K cE=>?_);go_simp;refine cE _ _ _ ⟨JU.o,JX.o⟩ (fun _ h=>h) ?_;clear cE K;refine aI (bZ _ _ _ rfl rfl rfl ?hs ?hx hr _ ⟨Jy.o,J0.o⟩ (fun _ h=>h) ?_)
   case hs=>rfl
   case hx=>rfl
   clear hr;go_simp
   iterate 2 (first|(apply aC;rfl;rfl;go_simp)|(apply aB;rfl;rfl;intro w' hS;go_simp;exact rfl;go_simp))
   refine aO rfl rfl fun K cE=>?_;go_simp;refine cE _ _ (aG ?_);clear cE K;go_wp2_with fail;go_roundw
   case rel=>
    obtain⟨m,E,a8,Je⟩:=HF.o;obtain⟨h7,kd,ch⟩:=H7.o;have kX:Keeps (·≠X) w8 (w8.setCell ⟨X,0,none⟩ (.slice (IQ g 0) (k+1) cap)):=(af _ w8).but _ _;have J9:g≠X:=by
     rcases a8 with e|e
     ·exact ch g e
     ·have :=am Jw.o;omega
    refine⟨k+1,.slice (IQ g 0) (k+1) cap,by go_num,by omega,ae ⟨?_,?_⟩,ae ?_,ae ?_⟩
    ·rw[aj Jy.o];simp
    ·rw[JD.o];have :=ar m kX (fun b f=>by simp[Value.ownBlock]at f;omega);have e1:((bK D).take k++[nm]).length=k+1:=by rw[List.length_append,List.length_take,Nat.min_eq_left (Nat.le_of_lt JQ)];rfl
     rw[e1,List.map_append];exact this
    ·exact(((hK.o.trans Jv.o fun b _ f=>⟨f,trivial⟩).trans kd fun b _ f=>⟨f,trivial⟩).trans E fun b f (hS:b≠X)=>⟨hS,fun e=>by
      have :=hU.o b e;omega⟩).trans kX fun b _ hS=>⟨hS,hS⟩
    ·intro b f;simp[Value.ownBlock]at f;subst f;have :=hK.o.size;have :=kd.size;rcases a8 with e|e
     ·exact hU.o _ e
     ·omega
   case measure=>simp[intOf];omega
  ·obtain rfl:k=D.length:=by omega
   have aH:(bK D).take D.length=bK D:=List.take_of_length_le (by unfold bK;simp);rw[aH]at hL;have Ke:(bK D).length=D.length:=by unfold bK;simp
   have JS:w.heap.size+2≤X:=by omega
   have Kd:=am fu.o.blk;have J3:=hK.o.size;have Jh:Same w wr:=s.o.trans hK.o fun b f _=>⟨trivial,by omega⟩;have aL:∀b,b<w.heap.size→¬Dx X u b:=fun b f hd=>by
    rcases hd with e|e
    ·omega
    ·have :=(ah hL.o.own e).1;omega
   have JA:=ae (bH (fun b _ f=>aL b f) (FmIn.kept Jh (fun _ _=>trivial) M.o));have l:=hK.o.at dZ.o (show w.heap.size≠X by omega);have IW:=hK.o.at dp.o (show w.heap.size+1≠X by omega);obtain⟨Z,Y,V,U,O⟩:=xc5 l rfl rfl rfl rfl rfl;have Jk:=ae Jh;have I9:=ae aL;have cH:=ae IW;clear Jh aL IW l dZ dp s JB fu hK M HC;go_wp2_with fail;refine wS hg.form w.heap.size X u _ (bK D) _ _ hL.o Jk.o.size (by omega) (fun e=>h0 (by unfold bK at e;simpa using e)) JA.o ?_;rintro e w9 u9 v9 rfl h9 k9 If;have IZ:=k9.keep.at cH.o (hL.o.other cH.o (by decide) (by decide));have J4:=k9.keep.size;have Ja:Hid (Same w w9):=ae (Jk.o.trans k9.keep fun b f _=>⟨trivial,I9.o b f⟩);have H9:=ae h9;have I2:=ae IZ;clear h9 k9 IZ Z Y V U O JA Jk I9 cH hL;generalize hT:bu (bK D) t=T at If Jd HR;clear hT;obtain⟨C,B,rfl,_,_⟩:=If.shape;have Hx:=ae If;clear If;generalize T.op=L at Hx⊢;generalize T.va=J at Hx⊢;generalize T.vb=I at Hx⊢;generalize T.vc=H at Hx⊢;generalize T.vn=G at Hx⊢;generalize T.kids.length=F at Hx⊢;have ks:Same w9 (w9.alloc (Hu L J I H G C F B)):=(af (fun _=>True) w9).alloc _;have n:=ag w9 (Hu L J I H G C F B);have xl:=ai (H9.o.same ks).blk 1;have c0:=ai n 0;have c1:=ai n 1;have c2:=ai n 2;have c3:=ai n 3;have c4:=ai n 4;have c5:=ai n 5;simp only[List.getElem?_toArray,List.getElem?_cons_zero,List.getElem?_cons_succ]at xl c0 c1 c2 c3 c4 c5;have x:=ae (Hx.o.same ks);have fw:=ae (Ja.o.tr ks);have q:=ae (ks.at I2.o trivial);have J1:=ae n;clear ks n Hx Ja I2 H9;go_wp2_with fail;generalize w9.alloc _=J2 at x fw q J1 xl c0 c1 c2 c3 c4 c5⊢;refine DH (em (fun _ _ _=>trivial) x.o) Jd ?_;rintro e JH r rfl hr j;have J8:r≤2000:=Nat.le_trans hr Jd;have J7:decide ((2000:Int)<(r:Int))=false:=decide_eq_false (by omega);have d:=j.at q.o trivial;have h_:=xs6 j c0 c1 c2 c3 c4 c5;clear c0 c1 c2 c3 c4 c5;obtain⟨c0,c1,c2,c3,c4,c5⟩:=h_;have Jz:=ae (x.o.same j);have JG:=ae (fw.o.tr j);clear j x fw q xl;obtain⟨d0,d1,d2,d3,d4,d5⟩:=xc6 d rfl rfl rfl rfl rfl rfl;obtain⟨g0,g1,g2,g3,g4,g5⟩:=xf6 d;have p:=bE d (.string L) (IP J) (IP I) (IP H) (IP G) (.slice C F B);obtain⟨e0,e1,e2,e3,e4,e5⟩:=xc6 p rfl rfl rfl rfl rfl rfl;have k6:=aU JH (w.heap.size+1) (.string L) (IP J) (IP I) (IP H) (IP G) (.slice C F B);have HU:=ae (em (G':=fun _=>True) (fun _ _ _=>trivial) (Jz.o.kept k6 fun b f=>by have :=f.1;omega));have JW:Hid (Same w _):=ae (JG.o.trans k6 fun b f _=>⟨trivial,by omega⟩);clear p k6;go_wp2_with fail;refine bodyPost_ret (v:=.tuple (Ia (Ib L J I H G C F B) 0)) (by simp[results,Tryz.results37,go_sem,e0,e1,e2,e3,e4,e5]) rfl ?_;exact HR.o _ _ _ rfl HU.o JW.o
theorem jf {c d:Value} {k l:Co} {G:Nat→Prop} (D:CoIn G w c k) (C:CoIn G w d l) (I:∀b,w.heap.size≤b→G b) (F:∀e A v,e=.returned v→CoIn G A v (.and k l)→Same w A→R e A):
 Calls Tryz.prog 39 #[c,d] w R:=by
 have J:=ae F;clear F;obtain⟨h,f,rfl,_,_⟩:=D.shape;have z:=ae D;clear D;generalize k.op=x at z⊢;generalize k.va=u at z⊢;generalize k.vb=t at z⊢;generalize k.vc=s at z⊢;generalize k.vn=r at z⊢;generalize k.kids.length=q at z⊢;obtain⟨g,a,rfl,_,_⟩:=C.shape;have y:=ae C;clear C;generalize l.op=p at y⊢;generalize l.va=o at y⊢;generalize l.vb=n at y⊢;generalize l.vc=m at y⊢;generalize l.vn=j at y⊢;generalize l.kids.length=i at y⊢;go_enter Tryz.func39,Tryz.ntmps39;go_wp2_with fail;refine bodyPost_ret (v:=(Ib GD 0 0 0 0 (some ⟨w.heap.size+1+1+1,0,none⟩) 2 2)) (by simp[results,Tryz.results39,go_sem]) rfl ?_;have B:Same w _:=((((af (fun _=>True) w).alloc (Hu x u t s r h q f)).alloc (Hu p o n m j g i a)).alloc (Hu GD 0 0 0 0 (some ⟨w.heap.size+1+1+1,0,none⟩) 2 2)).alloc (IK x u t s r h q f p o n m j g i a);have E:=ag (((w.alloc (Hu x u t s r h q f)).alloc (Hu p o n m j g i a)).alloc (Hu GD 0 0 0 0 (some ⟨w.heap.size+1+1+1,0,none⟩) 2 2)) (IK x u t s r h q f p o n m j g i a);have H:(((w.alloc (Hu x u t s r h q f)).alloc (Hu p o n m j g i a)).alloc (Hu GD 0 0 0 0 (some ⟨w.heap.size+1+1+1,0,none⟩) 2 2)).heap.size=w.heap.size+1+1+1:=by simp
 rw[H]at E;exact J.o _ _ _ rfl ⟨w.heap.size+1+1+1,0,2,rfl,⟨Nat.le_refl _,by unfold maxLen;omega⟩,I _ (by omega),cg E rfl rfl rfl rfl rfl rfl (z.o.same B),cg E rfl rfl rfl rfl rfl rfl (y.o.same B)⟩ B
def uT (W:Nat) (c:Co) (i:Nat) (o:Int):Co:=
 if o=0 then .and c (.ex (W:Int) (.and (.leaf GH (W:Int) 0 0 0) (.sub (i:Int) (W:Int))))else if o=1 then .and c (.leaf GP (i:Int) 0 0 0)else c
def fU (os:List Int) (W:Nat):Nat→Co
 |0=>.leaf GU 0 0 0 0
 |k+1=>uT W (fU os W k) k (os.getD k 2)
def bU (D:List Dl):List Int:=D.map (·.ord)
def aX (os:List Int):Co:=fU os os.length os.length
theorem oz {va:Value} {D:List Dl} (fw:DeclsAt w va D) (hD:D.length≤6) (ce:∀d∈D,d.ord=0∨d.ord=1∨d.ord=2)
 (hR:∀e w' v,e=.returned v→CoIn (fun b=>w.heap.size≤b) w' v (aX (bU D))→Same w w'→R e w'):
 Calls Tryz.prog 40 #[va] w R:=by
 have HR:=ae hR;clear hR;obtain⟨a,c,rfl,I8,I2,X⟩:=fw.open;unfold maxLen at I2;have HC:=ae X;have IW:=ae ce;clear fw X ce;have hs1:(w.alloc Hl).heap.size=w.heap.size+1:=by simp
 have k2:Same w ((w.alloc Hl).alloc (Hu GU 0 0 0 0 none 0 0)):=((af (fun _=>True) w).alloc _).alloc _;have h:=aw (ag w Hl) (Hu GU 0 0 0 0 none 0 0);have m:=ag (w.alloc Hl) (Hu GU 0 0 0 0 none 0 0);rw[hs1]at m;have IS:=ae h;have fu:=ae m;have aH:=ae k2;clear h m k2 hs1;go_enter Tryz.func40,Tryz.ntmps40;go_wp2_with fail;generalize(w.alloc Hl).alloc (Hu GU 0 0 0 0 none 0 0)=w2 at IS fu aH⊢
 go_loopw [13] (fun i wr=>∃(k:Nat) (v0:ByteArray) (v1 v2 v3 v4:Int) (ka:Option Addr) (kn kc:Nat),i=.int .i64 (k:Int)∧k≤D.length∧Hid (wr.heap[w.heap.size+1]?=(Iq v0 v1 v2 v3 v4 ka kn kc))∧Hid (CoIn (fun b=>w.heap.size+2≤b) wr (Ib v0 v1 v2 v3 v4 ka kn kc) (fU (bU D) D.length k))∧Hid (Keeps (·≠w.heap.size+1) w2 wr)) (fun i _=>D.length -(intOf i).toNat)
 case atStart=>exact⟨0,_,_,_,_,_,_,_,_,rfl,Nat.zero_le _,fu,ae ⟨none,0,rfl,Nat.zero_le _⟩,ae (af _ _)⟩
 case round=>
  obtain⟨k,v0,v1,v2,v3,v4,ka,kn,kc,rfl,hk,hB,hT,hK⟩:=hrel;have I5:w.heap.size+1<w2.heap.size:=am fu.o;have I4:=hK.o.size;obtain⟨wo,I1⟩:∃wo,wo=wr:=⟨_,rfl⟩;subst I1;by_cases a8:k<D.length
  ·obtain⟨bd,od,rfl,I9,If⟩:=HC.o k a8;obtain⟨y0,y1,y2⟩:=If k a8;have cE:bd≠w.heap.size+1:=by omega
   replace y0:=hK.o.cell (ak aH.o y0 trivial) cE;replace y1:=hK.o.cell (ak aH.o y1 trivial) cE;replace y2:=hK.o.cell (ak aH.o y2 trivial) cE;have ho:=IW.o _ (List.getElem_mem a8);have gI:fU (bU D) D.length (k+1)=uT D.length (fU (bU D) D.length k) k D[k].ord:=by
    show uT D.length (fU (bU D) D.length k) k ((bU D).getD k 2)=_
    congr 1
    unfold bU;rw[List.getD_eq_getElem?_getD,List.getElem?_map,List.getElem?_eq_getElem a8];rfl
   have bL:=ae gI;clear If gI;generalize D[k].name=nm at y0;generalize D[k].spot=sp at y2;generalize D[k].ord=o at y1 ho bL;have kz:=sal wo (In nm o sp);have gJ:=ag wo (In nm o sp);have p1:=xc1 gJ 1 rfl;have T:=ae kz;have n:=ae (kz.at hB.o trivial);have dp:=ae (hT.o.same kz);clear kz gJ;rcases ho with rfl|rfl|rfl
   ·go_wp2_with fail;refine jf (G:=fun b=>w.heap.size+2≤b) (k:=.leaf GH (D.length:Int) 0 0 0) (l:=.sub (k:Int) (D.length:Int)) ⟨none,0,rfl,Nat.zero_le _⟩ ⟨none,0,rfl,Nat.zero_le _⟩ (fun b O=>by have :=T.o.size;omega) ?_;rintro e U v5 rfl h5 k5;generalize IR:Co.and (.leaf GH (D.length:Int) 0 0 0) (.sub (k:Int) (D.length:Int))=Th at h5;have I3:=ae IR;clear IR;obtain⟨q,p,rfl,_,_⟩:=h5.shape;have Hh:=ae h5;clear h5;generalize Th.op=y at Hh⊢;generalize Th.va=x at Hh⊢;generalize Th.vb=u at Hh⊢;generalize Th.vc=t at Hh⊢;generalize Th.vn=s at Hh⊢;generalize Th.kids.length=r at Hh⊢;have gH:(U.alloc (Hu y x u t s q r p)).heap.size=U.heap.size+1:=by simp
    have ch:=sal U (Hu y x u t s q r p);have aL:Same U ((U.alloc (Hu y x u t s q r p)).alloc (Hu y x u t s q r p)):=ch.alloc _;have E:=ag U (Hu y x u t s q r p);have cH:=ag (U.alloc (Hu y x u t s q r p)) (Hu y x u t s q r p);rw[gH]at cH;have j:=ch.at (k5.at n.o trivial) trivial;obtain⟨c0,c1,c2,c3,c4,c5⟩:=xc6 j rfl rfl rfl rfl rfl rfl;obtain⟨e0,e1,e2,e3,e4,e5⟩:=xc6 E rfl rfl rfl rfl rfl rfl;have I0:=ae cH;have IZ:=ae (Hh.o.same aL);have IT:=ae (dp.o.same (k5.tr aL));have fd:=ae (k5.tr aL);have I6:=T.o.size;have I7:=k5.size;clear gH ch aL E cH j k5 Hh;go_wp2_with fail;generalize(U.alloc (Hu y x u t s q r p)).alloc (Hu y x u t s q r p)=w7 at I0 IZ IT fd⊢;refine jf (G:=fun b=>w.heap.size+2≤b) (l:=.ex (D.length:Int) Th) IT.o ⟨U.heap.size+1,0,1,rfl,⟨Nat.le_refl _,by unfold maxLen;omega⟩,by omega,cg I0.o rfl rfl rfl rfl rfl rfl IZ.o⟩ (fun b O=>by have :=fd.o.size;omega) ?_;rintro e w9 v9 rfl h9 k9;have C:=fd.o.tr k9;generalize Y:Co.and (fU (bU D) D.length k) (.ex (D.length:Int) Th)=z at h9;have dE:Hid (Co.and (fU (bU D) D.length k) (.ex (D.length:Int) (.and (.leaf GH (D.length:Int) 0 0 0) (.sub (k:Int) (D.length:Int))))=z):=ae (by rw[I3.o];exact Y);clear Y c0 c1 c2 c3 c4 c5 e0 e1 e2 e3 e4 e5 k9;obtain⟨B,A,rfl,_,_⟩:=h9.shape;have N:=ae h9;clear h9;generalize z.op=M at N⊢;generalize z.va=L at N⊢;generalize z.vb=J at N⊢;generalize z.vc=I at N⊢;generalize z.vn=H at N⊢;generalize z.kids.length=F at N⊢;have f:=C.at n.o trivial;obtain⟨d0,d1,d2,d3,d4,d5⟩:=xc6 f rfl rfl rfl rfl rfl rfl;obtain⟨g0,g1,g2,g3,g4,g5⟩:=xf6 f;have g:=bE f (.string M) (IP L) (IP J) (IP I) (IP H) (.slice B F A);obtain⟨e0,e1,e2,e3,e4,e5⟩:=xc6 g rfl rfl rfl rfl rfl rfl;have V:=aU w9 (w.heap.size+1) (.string M) (IP L) (IP J) (IP I) (IP H) (.slice B F A);have dZ:=ae g;have HU:=ae (N.o.kept V fun b O=>by omega);have Z:=ae ((hK.o.tr_same (T.o.tr C)).trans V fun b _ O=>⟨O,O⟩);clear g V f C;go_wp2_with fail;go_roundw
    case rel=>exact⟨k+1,M,L,J,I,H,B,F,A,by go_num,by omega,dZ,ae (by rw[bL.o,show uT D.length (fU (bU D) D.length k) k 0=z from dE.o];exact HU.o),Z⟩
    case measure=>simp[intOf];omega
   ·have c0:=ai n.o 0;have c1:=ai n.o 1;have c2:=ai n.o 2;have c3:=ai n.o 3;have c4:=ai n.o 4;have c5:=ai n.o 5;simp only[List.getElem?_toArray,List.getElem?_cons_zero,List.getElem?_cons_succ]at c0 c1 c2 c3 c4 c5;go_wp2_with fail;refine jf (G:=fun b=>w.heap.size+2≤b) (l:=.leaf GP (k:Int) 0 0 0) dp.o ⟨none,0,rfl,Nat.zero_le _⟩ (fun b O=>by have :=T.o.size;omega) ?_;rintro e w9 v9 rfl h9 C;generalize Y:Co.and (fU (bU D) D.length k) (.leaf GP (k:Int) 0 0 0)=z at h9;have dE:=ae Y;clear Y c0 c1 c2 c3 c4 c5;obtain⟨B,A,rfl,_,_⟩:=h9.shape;have N:=ae h9;clear h9;generalize z.op=M at N⊢;generalize z.va=L at N⊢;generalize z.vb=J at N⊢;generalize z.vc=I at N⊢;generalize z.vn=H at N⊢;generalize z.kids.length=F at N⊢;have f:=C.at n.o trivial;obtain⟨d0,d1,d2,d3,d4,d5⟩:=xc6 f rfl rfl rfl rfl rfl rfl;obtain⟨g0,g1,g2,g3,g4,g5⟩:=xf6 f;have g:=bE f (.string M) (IP L) (IP J) (IP I) (IP H) (.slice B F A);obtain⟨e0,e1,e2,e3,e4,e5⟩:=xc6 g rfl rfl rfl rfl rfl rfl;have V:=aU w9 (w.heap.size+1) (.string M) (IP L) (IP J) (IP I) (IP H) (.slice B F A);have dZ:=ae g;have HU:=ae (N.o.kept V fun b O=>by omega);have Z:=ae ((hK.o.tr_same (T.o.tr C)).trans V fun b _ O=>⟨O,O⟩);clear g V f C;go_wp2_with fail;go_roundw
    case rel=>exact⟨k+1,M,L,J,I,H,B,F,A,by go_num,by omega,dZ,ae (by rw[bL.o,show uT D.length (fU (bU D) D.length k) k 1=z from dE.o];exact HU.o),Z⟩
    case measure=>simp[intOf];omega
   ·go_wp2_with fail;go_roundw
    case rel=>exact⟨k+1,v0,v1,v2,v3,v4,ka,kn,kc,by go_num,by omega,n,ae (by rw[bL.o];exact dp.o),ae (hK.o.tr_same T.o)⟩
    case measure=>simp[intOf];omega
  ·obtain rfl:k=D.length:=by omega
   have m:=hB.o;obtain⟨c0,c1,c2,c3,c4,c5⟩:=xc6 m rfl rfl rfl rfl rfl rfl;have h:=hK.o.at IS.o (show w.heap.size≠w.heap.size+1 by omega);obtain⟨d0,d1,d2,d3,d4,d5⟩:=xc6 h rfl rfl rfl rfl rfl rfl;obtain⟨g0,g1,g2,g3,g4,g5⟩:=xf6 h;have g:=bE h (.string v0) (IP v1) (IP v2) (IP v3) (IP v4) (.slice ka kn kc);obtain⟨e0,e1,e2,e3,e4,e5⟩:=xc6 g rfl rfl rfl rfl rfl rfl;have V:=aU wo w.heap.size (.string v0) (IP v1) (IP v2) (IP v3) (IP v4) (.slice ka kn kc);have HU:=ae ((hT.o.kept V fun b O=>by omega).mono (G':=fun b=>w.heap.size≤b) fun b _ O=>by omega);have Z:Hid (Same w _):=ae ((aH.o.trans hK.o fun b O _=>⟨trivial,by omega⟩:Same w wo).trans V fun b O _=>⟨trivial,by omega⟩);clear g V m h;go_wp2_with fail;refine bodyPost_ret (v:=(Ib v0 v1 v2 v3 v4 ka kn kc)) (by simp[results,Tryz.results40,go_sem,e0,e1,e2,e3,e4,e5]) rfl ?_;refine HR.o _ _ _ rfl ?_ Z.o;have e:aX (bU D)=fU (bU D) D.length D.length:=by unfold aX bU;rw[List.length_map]
   rw[e];exact HU.o
end
end Go.Proofs.YtojegnbejmeehaaGreatDoor
