/- Helpers of the proof of TopNames. -/
import Derived.Test.YtojegnbejmeehaaGreatDoorJAU
import Derived.Test.YtojegnbejmeehaaGreatDoorJBF
import Derived.Test.YtojegnbejmeehaaGreatDoorJBX
namespace Go.Proofs.YtojegnbejmeehaaGreatDoor
open Go.RowKit
set_option maxRecDepth 10000
set_option maxHeartbeats 16000000
set_option linter.all false
section
attribute [local irreducible] wpQuiet ax au aQ
variable {R:Ending→World→Prop} {w:World}
theorem BG:(Tryz.prog.info? 55).map (fun i=>(i.zero,i.size,i.bytes))=some (some (.agg #[GA,IM,GA,GA,IU,IU,IM,IU]),8,120):=by kernel_rfl
theorem OwnC.push8 {B n:Nat} {v:Value} (h:OwnC w B 55 8 v n) (u:B≤w.heap.size) (nm:ByteArray) (a:Option Addr) (i c:Nat) (o e:ByteArray) (k p:Int) (j:Option Addr) (m l:Nat) (q:Int) (x:n≤5000):
 ∃g cap d,(Builtin.append_ #[24,24] 24 #[v,.slice (IQ w.heap.size 0) 1 1]).run Tryz.prog (w.alloc (IJ nm a i c o e k p j m l q))=.ok (.slice (IQ g 0) (n+1) cap) d∧
  OwnC d B 55 8 (.slice (IQ g 0) (n+1) cap) (n+1)∧Keeps (fun b=>v.ownBlock≠some b) w d∧(v.ownBlock=some g∨w.heap.size≤g):=by
 obtain⟨vs,h⟩:=h;obtain⟨g,cap,d,r,f,s,t,_⟩:=cF (P:=Tryz.prog) (k:=8) (by decide) w 24 24 55 Tryz.underlying24 BG rfl h u [.string nm,.slice a i c,.string o,.string e,.int .i64 k,.int .i64 p,.slice j m l,.int .i64 q] rfl (by simp[Value.oneCell']) (by omega) (by decide);exact⟨g,cap,d,r,⟨_,f⟩,s,t⟩
theorem OwnDp.pushes {B:Nat} {v u:Value} {D c:List Dl} (h:OwnDp w B v D) (n:B≤w.heap.size) (f:StrAt 3 w u (c.map Dl.cells)) (i:c≠[]) (o:D.length+c.length≤100000):
 ∃g cap e,(Builtin.append_ #[23,23] 23 #[v,u]).run Tryz.prog w=.ok (.slice (IQ g 0) (D.length+c.length) cap) e∧
  OwnDp e B (.slice (IQ g 0) (D.length+c.length) cap) (D++c)∧Keeps (fun b=>v.ownBlock≠some b) w e∧(v.ownBlock=some g∨w.heap.size≤g):=by
 obtain⟨g,cap,e,j,a,l,m,_⟩:=fO (P:=Tryz.prog) (k:=3) (by decide) w 23 23 33 Tryz.underlying23 eI rfl h n f (by rw[List.length_map];exact List.length_pos_iff.2 i) (fun x hx=>by obtain⟨d,_,rfl⟩:=List.mem_map.1 hx;rfl) (fun x hx u f=>by obtain⟨d,_,rfl⟩:=List.mem_map.1 hx;simp[Dl.cells]at f;rcases f with rfl|rfl|rfl<;>rfl) (by rw[List.length_map];omega) (by decide);rw[List.length_map]at j a;exact⟨g,cap,e,j,by simpa [OwnDp]using a,l,m⟩
def Prg (u:Value):Prop:=∃(a:Option Addr) (n c:Nat) (a2:Option Addr) (n2 c2:Nat) (o nm:ByteArray) (k at_:Int) (ks:Option Addr) (m c3:Nat),
 u=(Ip a n c a2 n2 c2 o nm k at_ ks m c3)
theorem Dy (s:ByteArray) (Lj:s.size≤maxLen) (hT:Lib.Utf8Tabs 0 1 w)
 (hR:∀e w' u (pl er:Int),e=.returned (.tuple (Il u pl er))→Prg u→(er=0→∃D:List Dl,(∃va x1 x2 x3 x4 x5 x6,u=.agg #[va,x1,x2,x3,x4,x5,x6]∧StrAt 3 w' va (D.map Dl.cells))∧∀d∈D,cM d.name)→Same w w'→R e w'):
 Calls Tryz.prog 4 #[.string s] w R:=by
 have HR:=ae hR;clear hR;have N:=sal w (Ik none 0 0 none 0 0 GA GA 0 0 none 0 0);have JO:=ae (ag w (Ik none 0 0 none 0 0 GA GA 0 0 none 0 0));have Kw:=ae N;have Kq:=mB hT N;clear N hT;go_enter Tryz.func4,Tryz.ntmps4;go_wp2_with fail;generalize w.alloc _=w1 at JO Kw Kq⊢;refine AO s Lj Kq ?_;rintro e O u pl er rfl Lk Kh k2;have A:=ae (k2.at JO.o trivial);have Kv:=ae (Kw.o.tr k2);have LP:w.heap.size<w1.heap.size:=am JO.o;have LO:w1.heap.size≤O.heap.size:=k2.size;clear k2 JO Kw Kq;by_cases JG:er=0
 ·subst JG;obtain⟨hs,T,JI,Ln,Lm,KT,Lh⟩:=Kh rfl;obtain⟨ta,tc,rfl,_,_,_⟩:=mA JI;have JQ:∀b,live (.slice ta T.length tc)=some b→b<O.heap.size:=JI.lt;have JH:=sal O (IF ta T.length tc 0 0 0);have KQ:RAt (O.alloc (IF ta T.length tc 0 0 0)) O.heap.size (.slice ta T.length tc) T 0 0 0:=
   ⟨ag _ _,JI.keep JH (fun _ _=>trivial),fun e=>by have :=JQ _ e;omega,by omega,List.length_pos_iff.2 Lm,Lh⟩
  have H3:=ae KQ;have K8:=ae (JH.at A.o trivial);have Ku:=ae (Kv.o.tr JH);have Je:(O.alloc (IF ta T.length tc 0 0 0)).heap.size=O.heap.size+1:=by simp
  have Jk:Same (O.alloc (IF ta T.length tc 0 0 0)) ((O.alloc (IF ta T.length tc 0 0 0)).alloc (Ik none 0 0 none 0 0 GA GA 0 0 none 0 0)):=(af _ _).alloc _;have Ki:=ag (O.alloc (IF ta T.length tc 0 0 0)) (Ik none 0 0 none 0 0 GA GA 0 0 none 0 0);rw[Je]at Ki;have Jp:=ae Ki;have JM:=ae (Jk.at K8.o trivial);have Ju:=ae ((gn H3.o).same Jk);have Kg:O.heap.size+2≤((O.alloc (IF ta T.length tc 0 0 0)).alloc (Ik none 0 0 none 0 0 GA GA 0 0 none 0 0)).heap.size:=by simp
  clear JH KQ Jk Ki JI JQ Kh Lk A Kv K8 Ln;go_wp2_with fail;generalize O.alloc _=w3 at H3 Ku Je Jp JM Ju Kg⊢;generalize w3.alloc _=w4 at Jp JM Ju Kg⊢;obtain⟨x,hx⟩:∃x,x=O.heap.size:=⟨_,rfl⟩;obtain⟨z,hz⟩:∃z,z=O.heap.size+1:=⟨_,rfl⟩;rw[←hx]at H3 Ju;rw[←hz]at Jp;rw[←hz,←hx];obtain⟨B,hB⟩:∃B,B=z+1:=⟨_,rfl⟩;have n4:w.heap.size≠x:=by omega
  have nz:z≠x:=by omega
  have Kd:w.heap.size≠z:=by omega
  have cE:x<B:=by omega
  have H:z<B:=by omega
  have Ke:w.heap.size<B:=by omega
  have M:w3.heap.size≤z:=by omega
  have LN:w.heap.size<x:=by omega
  have KM:B≤w4.heap.size:=by omega
  have Lu:=ae (nK x (.slice ta T.length tc) T);have LS:T.length≤2001:=KT;clear Kg hx hz hB Je
  go_loopw [] (fun wr=>∃(i1:Nat) (e1:Int) (D:List Dl) (va vp:Value) (n:Nat),Hid (Goes w3 wr x (.slice ta T.length tc) T 0 i1 0 e1)∧Hid (OwnDp wr B va D)∧Hid (OwnC wr B 55 8 vp n)∧Hid (∀b,va.ownBlock=some b→vp.ownBlock≠some b)∧Hid (e1=0→∀d∈D,cM d.name)∧D.length≤i1∧n≤i1∧B≤wr.heap.size∧
   Hid (wr.heap[w.heap.size]?=(II none 0 0 none 0 0 GA GA 0 0 none 0 0))∧
   Hid (wr.heap[z]?=some (.cells #[va,vp,GA,GA,IU,IU,IM] 29))) (fun wr=>ju x T.length wr)
  case atStart=>exact⟨0,0,[],_,_,0,Ju,ae (OwnDp.nil _ _),ae (OwnC.nil _ _ _ _),ae (fun b h=>by simp[Value.ownBlock]at h),ae (fun _ d h=>by cases h),Nat.le_refl _,Nat.le_refl _,KM,JM,Jp⟩
  case round=>
   clear Ju Jp JM;obtain⟨i1,e1,D,va,vp,n,I4,JA,JK,a8,I1,LT,LQ,Ks,JN,JL⟩:=hrel;have KR:=bm I4.o T.length;obtain⟨LL,h1⟩:=I4.o.st;have H1:=ae h1;have HI:Hid (i1<T.length):=ae h1.at_;have c2:=xc1 h1.blk 2 rfl;clear h1;obtain⟨I8,I7,rfl⟩:=JK.o.shape;obtain⟨Ja,I9,rfl⟩:=av JA.o;by_cases KV:e1=0
   case' neg=>
    have Ko:(e1==0)=false:=by simp[KV]
    have Jg:=Ks;have Jv:=I4;have JD:=JN;have Y:=JL;have ce:=JA;have KE:=H1;have Jn:=I1;obtain⟨va,Jd⟩:∃va,va=Ja:=⟨_,rfl⟩;obtain⟨vc,Jc⟩:∃vc,vc=I9:=⟨_,rfl⟩;rw[←Jd,←Jc]at Y ce;clear Jd Jc;clear I4 JN JL JA H1 I1 a8 JK;go_wp2_with fail
   case' pos=>
    subst KV;go_wp2_with fail;refine fZ H1.o _ ?_;rintro e w5 rfl k5;obtain⟨b1,IZ⟩:∃b,decide ((bC T i1 0).k=3∧(bC T i1 0).t=Hf)=b:=⟨_,rfl⟩;rw[IZ];have I3:=ae (I4.o.same k5);have I5:=ae (JA.o.same k5);have I0:=ae (JK.o.keep k5 fun _ _=>trivial);have I6:=ae (k5.at JN.o trivial);have I2:=ae (k5.at JL.o trivial);have H5:=ae (H1.o.same k5);have IT:=Nat.le_trans Ks k5.size;clear k5 I4 JA JK JN JL H1 Ks c2
    cases b1
    case true=>
     have X:=ij IZ rfl;go_wp2_with fail;refine fZ H5.o _ ?_;rintro e w6 rfl G;rw[IZ];clear IZ;have Z:=ae (I3.o.same G);have bL:=ae (I5.o.same G);have dp:=ae (OwnC.keep I0.o G fun _ _=>trivial);have ch:=ae (aM G I6.o trivial);have L:=ae (aM G I2.o trivial);have H6:=ae (H5.o.same G);have IS:=Nat.le_trans IT (Keeps.size G);clear G I3 I5 I0 I6 I2 H5 IT;go_wp2_with fail;have z1:=xc1 L.o 1 rfl;have f1:=ao L.o 1;have kd:Keeps (·≠x) w6 w6.drew:=al (af _ _);have Jb:Keeps (fun b=>b<B∧b≠x) w6 w6.drew:=al (af _ _);refine zq0 7 (.take 0 (.take 1 (.take 2 (.one 3 (.one 4 (.one 5 (.take 6 .last))))))) (Keeps (fun b=>b<B∧b≠x) w6) (by kernel_rfl) (by kernel_rfl) Jb ?_
     iterate 3 (first|(apply aC;rfl;rfl;go_simp)|(apply aB;rfl;rfl;intro w' hS;have y1:=ak hS z1 ⟨H,nz⟩;go_simp;exact rfl;go_simp))
     clear z1 f1;refine aI (ay rfl rfl fun K q=>?_);go_simp;refine Fc (H6.o.same (al (af _ _))) X ?_;rintro e w7 u7 i7 JJ rfl ⟨Lc,pa,pn,pc,po,KH,pk,Lf,Ld,pm,Le,Lg,rfl⟩ Lz r;have kp:Keeps (·≠x) w6 w7:=kd.tr r.kp;have U:Keeps (fun b=>b<B∧b≠x) w6 w7:=kp.mono fun _ _ h=>h.2;refine q (Keeps (fun b=>b<B∧b≠x) w6) _ _ U (fun _ h=>h) ?_;clear q K;have Jt:=ae ((Z.o.same (al (af _ _))).tr r);have LB:=r.er;have dZ:=ae (bL.o.but kp cE);have cH:=ae (dp.o.but kp cE);have JB:=ae (kp.at ch.o n4);have Jo:=ae (kp.at L.o nz);have Jf:=Nat.le_trans IS kp.size;clear r kd Jb Z bL dp ch L H6;refine aI (ay rfl rfl fun K q=>?_);go_simp;refine q (Keeps (fun b=>b<B∧b≠x) w6) _ _ (U.alloc _) (fun _ h=>h) ?_;clear q K;obtain⟨g,cap,w9,hr,Jl,E,Jj⟩:=cH.o.push8 Jf Lc pa pn pc po KH pk Lf Ld pm Le Lg (by have :=HI.o;omega);have l:∀b,b<B→(Value.slice I8 n I7).ownBlock≠some b:=fun b hb e=>by
      obtain⟨vs,h⟩:=cH.o;have :=(ah h e).1;omega
     have Kc:Keeps (fun b=>b<B∧b≠x) w6 w9:=U.trans E fun b _ hS=>⟨hS,l b hS.1⟩;refine aI (bZ _ _ _ rfl rfl rfl ?hs1 ?hx1 hr (Keeps (fun b=>b<B∧b≠x) w6) Kc (fun _ h=>h) ?_)
     case hs1=>rfl
     case hx1=>rfl
     have Kx:=ae (Jt.o.low H3.o (E.mono fun y _ hy=>l y (Nat.lt_trans (Nat.lt_of_lt_of_le hy M) H)));have Kz:=ae (dZ.o.keep E fun b hb=>a8.o b hb);have KC:=ae (E.at JB.o (l _ Ke));have dE:=ae (E.at Jo.o (l _ H));have Kt:=ae Jl;have Kf:=Nat.le_trans Jf E.size;have Jw:Hid (∀b,(Value.slice Ja D.length I9).ownBlock=some b→(Value.slice (IQ g 0) (n+1) cap).ownBlock≠some b):=ae fun b hb e=>by
      have Kk:g=b:=Option.some.inj e;subst Kk;rcases Jj with h9|h9
      ·exact a8.o _ hb h9
      ·obtain⟨_,Lr,hc⟩:=ah dZ.o hb;have :=am hc;omega
     clear hr Jl E Jj l Jt dZ cH JB Jo a8 kp U;go_simp
     iterate 1 (first|(apply aC;rfl;rfl;go_simp)|(apply aB;rfl;rfl;intro w' hS;go_simp;exact rfl;go_simp))
     have z1:=xc1 dE.o 1 rfl;have f1:=ao dE.o 1;refine aO rfl rfl fun K q=>?_;go_simp;refine q _ _ (aG ?_);clear q K z1 f1;go_wp2_with fail;have kz:=(af (·≠z) w9).but 1 (.slice (IQ g 0) (n+1) cap);have Jr:Hid ((w9.setCell ⟨z,1,none⟩ (.slice (IQ g 0) (n+1) cap)).heap[z]?=(II Ja D.length I9 (IQ g 0) (n+1) cap GA GA 0 0 none 0 0)):=ae (by rw[aj dE.o];simp);have JE:=ae (kz.at KC.o Kd);have Jz:=ae (Kz.o.but kz H);have Jm:=ae (Kt.o.but kz H);have aL:=ae (Kx.o.new H3.o M 1 (.slice (IQ g 0) (n+1) cap));have Jh:=Nat.le_trans Kf kz.size;go_roundw
     case rel=>exact⟨i7,JJ,D,_,_,n+1,aL,Jz,Jm,Jw,ae (fun h0=>I1.o (by trivial)),by omega,by omega,Jh,JE,Jr⟩
     case measure=>rw[KR,bm aL.o];have :=HI.o;omega
    case' false=>
     go_wp2_with fail;refine jD H5.o _ (by decide) ?_;rintro e w6 k rfl _ _ Kj G;by_cases N:0≤k
     case pos=>
      have KU:decide (0≤k)=true:=decide_eq_true N;have X:(bC T i1 0).k≠4:=by rw[Kj N];decide
      have Z:=ae (I3.o.same G);have bL:=ae (I5.o.same G);have dp:=ae (OwnC.keep I0.o G fun _ _=>trivial);have ch:=ae (aM G I6.o trivial);have L:=ae (aM G I2.o trivial);have H6:=ae (H5.o.same G);have IS:=Nat.le_trans IT (Keeps.size G);clear G I3 I5 I0 I6 I2 H5 IT;clear N Kj;go_wp2_with fail;refine fZ H6.o _ ?_;rintro e J rfl V;rw[IZ];clear IZ KU;have J1:=ae (Z.o.same V);have J5:=ae (bL.o.same V);have JU:=ae (OwnC.keep dp.o V fun _ _=>trivial);have J9:=ae (aM V ch.o trivial);have gH:=ae (aM V L.o trivial);have La:=ae (H6.o.same V);have KO:=Nat.le_trans IS (Keeps.size V);clear V Z bL dp ch L H6 IS;go_wp2_with fail;have z0:=xc1 gH.o 0 rfl;have f0:=ao gH.o 0;have kd:Keeps (·≠x) J J.drew:=al (af _ _);have Jb:Keeps (fun b=>b<B∧b≠x) J J.drew:=al (af _ _);refine zq0 6 (.take 0 (.take 1 (.take 2 (.one 3 (.one 4 (.take 5 .last)))))) (Keeps (fun b=>b<B∧b≠x) J) (by kernel_rfl) (by kernel_rfl) Jb ?_
      iterate 3 (first|(apply aC;rfl;rfl;go_simp)|(apply aB;rfl;rfl;intro w' hS;have y1:=ak hS z0 ⟨H,nz⟩;go_simp;exact rfl;go_simp))
      clear z0 f0;refine aI (ay rfl rfl fun K q=>?_);go_simp;refine Fg (La.o.same (al (af _ _))) X ?_;rintro e w7 u7 D2 i7 JJ rfl Kr JT Lp JS r;have kp:Keeps (·≠x) J w7:=kd.tr r.kp;have U:Keeps (fun b=>b<B∧b≠x) J w7:=kp.mono fun _ _ h=>h.2;refine q (Keeps (fun b=>b<B∧b≠x) J) _ _ U (fun _ h=>h) ?_;clear q K;have Jt:=ae ((J1.o.same (al (af _ _))).tr r);have dZ:=ae (J5.o.but kp cE);have cH:=ae (JU.o.but kp cE);have JB:=ae (kp.at J9.o n4);have Jo:=ae (kp.at gH.o nz);have Jf:=Nat.le_trans KO kp.size;have LA:=r.le;obtain⟨LK,h7⟩:=r.st;have LR:i7<T.length:=h7.at_;clear r h7 kd Jb J1 J5 JU J9 gH La;obtain⟨g,cap,w9,hr,Jl,E,Jj⟩:=dZ.o.pushes Jf Kr.str JT (by omega);have l:∀b,b<B→(Value.slice Ja D.length I9).ownBlock≠some b:=fun b hb e=>by
       have :=(ah dZ.o e).1;omega
      have Kc:Keeps (fun b=>b<B∧b≠x) J w9:=U.trans E fun b _ hS=>⟨hS,l b hS.1⟩;obtain⟨ua,uc,rfl⟩:=av Kr;refine aI (bZ _ _ _ rfl rfl rfl ?hs1 ?hx1 hr (Keeps (fun b=>b<B∧b≠x) J) Kc (fun _ h=>h) ?_)
      case hs1=>rfl
      case hx1=>rfl
      have Kx:=ae (Jt.o.low H3.o (E.mono fun y _ hy=>l y (Nat.lt_trans (Nat.lt_of_lt_of_le hy M) H)));have Kt:=ae (cH.o.keep E fun b hb e=>a8.o b e hb);have KC:=ae (E.at JB.o (l _ Ke));have dE:=ae (E.at Jo.o (l _ H));have Kz:=ae Jl;have Kf:=Nat.le_trans Jf E.size;have Jw:Hid (∀b,(Value.slice (IQ g 0) (D.length+D2.length) cap).ownBlock=some b→(Value.slice I8 n I7).ownBlock≠some b):=ae fun b e hb=>by
       have Kk:g=b:=Option.some.inj e;subst Kk;rcases Jj with h9|h9
       ·exact a8.o _ h9 hb
       ·obtain⟨vs,hv⟩:=cH.o;obtain⟨_,Lr,hc⟩:=ah hv hb;have :=am hc;omega
      have K7:Hid (JJ=0→∀d∈D++D2,cM d.name):=ae fun h0 d hd=>by
       rcases List.mem_append.1 hd with hd|hd
       ·exact I1.o (by trivial) d hd
       ·exact JS h0 d hd
      have Lo:(D++D2).length=D.length+D2.length:=List.length_append;clear hr Jl E Jj l Jt dZ cH JB Jo a8 kp U Kr JS;go_simp
      iterate 1 (first|(apply aC;rfl;rfl;go_simp)|(apply aB;rfl;rfl;intro w' hS;go_simp;exact rfl;go_simp))
      have z0:=xc1 dE.o 0 rfl;have f0:=ao dE.o 0;refine aO rfl rfl fun K q=>?_;go_simp;refine q _ _ (aG ?_);clear q K z0 f0;go_wp2_with fail;have kz:=(af (·≠z) w9).but 0 (.slice (IQ g 0) (D.length+D2.length) cap);have Jr:Hid ((w9.setCell ⟨z,0,none⟩ (.slice (IQ g 0) (D.length+D2.length) cap)).heap[z]?=(II (IQ g 0) (D.length+D2.length) cap I8 n I7 GA GA 0 0 none 0 0)):=ae (by rw[aj dE.o];simp);have JE:=ae (kz.at KC.o Kd);have Jz:=ae (Kz.o.but kz H);have Jm:=ae (Kt.o.but kz H);have aL:=ae (Kx.o.new H3.o M 0 (.slice (IQ g 0) (D.length+D2.length) cap));have Jh:=Nat.le_trans Kf kz.size;have Ll:0<D2.length:=List.length_pos_iff.2 JT;go_roundw
      case rel=>exact⟨i7,JJ,D++D2,_,_,n,aL,Jz,Jm,Jw,K7,by omega,by omega,Jh,JE,Jr⟩
      case measure=>rw[KR,bm aL.o];have :=HI.o;omega
     case' neg=>
      have KU:decide (0≤k)=false:=decide_eq_false N;have Z:=ae (I3.o.same G);have bL:=ae (I5.o.same G);have dp:=ae (OwnC.keep I0.o G fun _ _=>trivial);have ch:=ae (aM G I6.o trivial);have L:=ae (aM G I2.o trivial);have H6:=ae (H5.o.same G);have IS:=Nat.le_trans IT (Keeps.size G);clear G I3 I5 I0 I6 I2 H5 IT;clear N Kj;have Jg:=IS;have Jv:=Z;have JD:=ch;have Y:=L;have ce:=bL;have KE:=H6;have Jn:=I1;obtain⟨va,Jd⟩:∃va,va=Ja:=⟨_,rfl⟩;obtain⟨vc,Jc⟩:∃vc,vc=I9:=⟨_,rfl⟩;rw[←Jd,←Jc]at Y ce;clear Jd Jc;clear Z ch L bL H6 I1 a8 dp;go_wp2_with fail
   all_goals
    refine Lu.o _ _ _ _ _ KE.o ?_;rintro e KG LJ LM LC rfl ⟨o,nm,kk,a,ks,m,c,rfl⟩ r;have J0:=ae (Jv.o.tr r);have Km:=r.er;have J8:=ae (r.kp.at JD.o n4);have j:=ae (r.kp.at Y.o nz);have J4:=ae (ce.o.but r.kp cE);have JR:=Nat.le_trans Jg r.kp.size;clear r Jv JD Y ce KE Jg;have y2:=xc1 j.o 2 rfl;have y3:=xc1 j.o 3 rfl;have y4:=xc1 j.o 4 rfl;have y5:=xc1 j.o 5 rfl;have y6:=xc1 j.o 6 rfl;have f2:=ao j.o 2;have f3:=ao j.o 3;have f4:=ao j.o 4;have f5:=ao j.o 5;have f6:=ao j.o 6;go_wp2_with fail;clear y2 y3 y4 y5 y6 f2 f3 f4 f5 f6;have kz:=kT KG z (.string o) (.string nm) (IP kk) (IP a) (.slice ks m c);have Jq:=ae (oW j.o (.string o) (.string nm) (IP kk) (IP a) (.slice ks m c));have JC:=ae (kz.at J8.o Kd);have Jy:=ae (J4.o.but kz H);have gI:=ae (((((J0.o.new H3.o M 2 (.string o)).new H3.o M 3 (.string nm)).new H3.o M 4 (IP kk)).new H3.o M 5 (IP a)).new H3.o M 6 (.slice ks m c));have KN:=Nat.le_trans JR kz.size;clear kz j J8 J4 J0 JR;generalize((((KG.setCell ⟨z,2,none⟩ (.string o)).setCell ⟨z,3,none⟩ (.string nm)).setCell ⟨z,4,none⟩ (IP kk)).setCell ⟨z,5,none⟩ (IP a)).setCell ⟨z,6,none⟩ (.slice ks m c)=LG at Jq JC Jy gI KN⊢;obtain⟨Ly,KZ⟩:=gI.o.st;refine cJ KZ _ ?_;rintro e LF LI KJ F rfl r;clear KZ;have JZ:=ae (gI.o.tr r);have J7:=ae (r.kp.at JC.o n4);have JW:=ae (r.kp.at Jq.o nz);have J3:=ae (Jy.o.but r.kp cE);have Kl:=r.er;obtain⟨JP,KY⟩:=r.st;have KD:=ae KY;clear r KY gI JC Jq Jy;go_wp2_with fail;refine dH KD.o ?_;rintro e I rfl IR;generalize bC T KJ F=Ka;simp only[Qk.val];have aH:=ae (JZ.o.same IR);have f:=ae (IR.at J7.o trivial);have C:=ae (IR.at JW.o trivial);have gJ:=ae (J3.o.same IR);have fu:=ae (KD.o.same IR);clear IR JZ J7 JW J3 KD;by_cases X:Ka.k=4
    case' pos=>
     have KP:(Ka.k !=4)=false:=by rw[bne_eq_false_iff_eq];exact X
     clear X;have fw:Hid (F=0→∀d∈D,cM d.name):=ae fun h=>Jn.o (by first|trivial|exact Decidable.byContradiction fun h0=>Kl (Km h0) h)
    case' neg=>
     have KP:(Ka.k !=4)=true:=by rw[bne_iff_ne];exact X
     clear X;go_wp2_with fail;refine dH fu.o ?_;rintro e LE rfl If;generalize bC T KJ F=Lb;simp only[Qk.val];have JY:=ae (aH.o.same If);have J6:=ae (If.at f.o trivial);have JV:=ae (If.at C.o trivial);have J2:=ae (gJ.o.same If);have Lx:=ae (fu.o.same If);clear If aH f C gJ fu;go_wp2_with fail;refine cV Lx.o Lb.a 2 (by decide) ?_;rintro e I LH F rfl Ji r;have Ls:=ae Ji;clear Ji;have aH:=ae (JY.o.tr r);have f:=ae (r.kp.at J6.o n4);have C:=ae (r.kp.at JV.o nz);have gJ:=ae (J2.o.but r.kp cE);have Lq:=r.er;obtain⟨KI,KW⟩:=r.st;have fu:=ae KW;clear r KW JY J6 JV J2;have fw:Hid (F=0→∀d∈D,cM d.name):=ae fun h=>absurd h Ls.o;obtain⟨JP,hp⟩:∃p,p=KI:=⟨_,rfl⟩;rw[←hp]at fu;clear KP hp
    all_goals
     have c2:=xc1 fu.o.blk 2 rfl;have c3:=xc1 fu.o.blk 3 rfl;obtain⟨d0,d1,d2,d3,d4,d5,d6⟩:=xc7 f.o rfl rfl rfl rfl rfl rfl rfl;obtain⟨g0,g1,g2,g3,g4,g5,g6⟩:=xf7 f.o;by_cases IW:F=0
     ·have Ko:(F !=0)=false:=by rw[bne_eq_false_iff_eq];exact IW
      have Lt:=ae (fw.o IW);clear IW fw c3;obtain⟨y0,y1,y2,y3,y4,y5,y6⟩:=xc7 C.o rfl rfl rfl rfl rfl rfl rfl;go_wp2_with fail;refine bodyPost_ret (v:=.tuple (Il (Ip va D.length vc I8 n I7 o nm kk a ks m c) s.size 0)) (by simp[results,Tryz.results4,go_sem,d0,d1,d2,d3,d4,d5,d6]) rfl ?_;have kw:=dd I w.heap.size (.slice va D.length vc) (.slice I8 n I7) (.string o) (.string nm) (IP kk) (IP a) (.slice ks m c);refine HR.o _ _ _ _ _ rfl ⟨_,_,_,_,_,_,_,_,_,_,_,_,_,rfl⟩ (fun _=>⟨D,⟨_,_,_,_,_,_,_,rfl,(gJ.o.but kw Ke).str⟩,Lt.o⟩) ?_;exact(Ku.o.trans aH.o.kp fun y hy _=>⟨trivial,by omega⟩:Same w _).box7 (Nat.le_refl _) _ _ _ _ _ _ _
     ·have Ko:(F !=0)=true:=by rw[bne_iff_ne];exact IW
      have Lw:=ae IW;clear IW fw d0 d1 d2 d3 d4 d5 d6 g0 g1 g2 g3 g4 g5 g6;go_wp2_with fail;have KK:x≠w.heap.size:=n4.symm;have JF:Keeps (·≠w.heap.size) I I.drew:=al (af _ _);have Kb:Same I I.drew:=al (af _ _);refine az (.take 0 (.take 1 (.take 2 (.take 3 (.take 4 (.take 5 (.take 6 (.take 7 (.take 8 (.one 9 (.take 10 (.take 11 .done)))))))))))) (Keeps (·≠w.heap.size) I) (by kernel_rfl) (by kernel_rfl) JF ?_
      iterate 9 (first|(apply aF;rfl;rfl;go_simp)|(apply aD;rfl;rfl;intro w' hS;obtain⟨q2,q3⟩:=xk2 hS c2 c3 KK KK;go_simp;exact rfl;go_simp))
      have i:=ae (Kb.at f.o trivial);have Js:Hid (Same w I.drew):=ae ((Ku.o.trans aH.o.kp fun y hy _=>⟨trivial,by omega⟩:Same w _).tr Kb);clear Kb c2 c3;generalize I.drew=KF at JF i Js⊢;obtain⟨d0,d1,d2,d3,d4,d5,d6⟩:=xc7 i.o rfl rfl rfl rfl rfl rfl rfl;obtain⟨g0,g1,g2,g3,g4,g5,g6⟩:=xf7 i.o;refine aP (ay rfl rfl fun K q=>?_);go_simp;have kw:=dd KF w.heap.size IM IM (.string GA) (.string GA) IU IU IM;refine q (Keeps (·≠w.heap.size) I) _ _ (JF.tr kw) (fun _ h=>h) ?_;clear q K d0 d1 d2 d3 d4 d5 d6 g0 g1 g2 g3 g4 g5 g6
      iterate 2 (first|(apply aF;rfl;rfl;go_simp)|(apply aD;rfl;rfl;intro w' hS;go_simp;exact rfl;go_simp))
      apply aW;go_simp;have Kp:=iw i.o IM IM (.string GA) (.string GA) IU IU IM;have JX:=ae (Js.o.box7 (Nat.le_refl _) IM IM (.string GA) (.string GA) IU IU IM);clear kw JF Js i;generalize((((((KF.setCell ⟨w.heap.size,0,none⟩ IM).setCell ⟨w.heap.size,1,none⟩ IM).setCell ⟨w.heap.size,2,none⟩ (.string GA)).setCell ⟨w.heap.size,3,none⟩ (.string GA)).setCell ⟨w.heap.size,4,none⟩ IU).setCell ⟨w.heap.size,5,none⟩ IU).setCell ⟨w.heap.size,6,none⟩ IM=LD at Kp JX⊢;have fd:=ae Kp;obtain⟨d0,d1,d2,d3,d4,d5,d6⟩:=xc7 fd.o rfl rfl rfl rfl rfl rfl rfl;clear Kp;go_wp2_with fail;refine bodyPost_ret (v:=.tuple (Il (Ip none 0 0 none 0 0 GA GA 0 0 none 0 0) JP F)) (by simp[results,Tryz.results4,go_sem,d0,d1,d2,d3,d4,d5,d6]) rfl ?_;exact HR.o _ _ _ _ _ rfl ⟨_,_,_,_,_,_,_,_,_,_,_,_,_,rfl⟩ (fun h=>absurd h Lw.o) JX.o
 ·have Ko:(er !=0)=true:=by rw[bne_iff_ne];exact JG
  have Lv:=ae JG;clear JG Kh;obtain⟨d0,d1,d2,d3,d4,d5,d6⟩:=xc7 A.o rfl rfl rfl rfl rfl rfl rfl;obtain⟨g0,g1,g2,g3,g4,g5,g6⟩:=xf7 A.o;go_wp2_with fail;refine bodyPost_ret (v:=.tuple (Il (Ip none 0 0 none 0 0 GA GA 0 0 none 0 0) pl er)) (by simp[results,Tryz.results4,go_sem,d0,d1,d2,d3,d4,d5,d6]) rfl ?_;exact HR.o _ _ _ _ _ rfl ⟨_,_,_,_,_,_,_,_,_,_,_,_,_,rfl⟩ (fun h=>absurd h Lv.o) (Kv.o.box7 (Nat.le_refl _) _ _ _ _ _ _ _)
end
end Go.Proofs.YtojegnbejmeehaaGreatDoor
