/- Helpers of the proof of TopNames. -/
import Derived.Test.YtojegnbejmeehaaGreatDoorJAC
import Derived.Test.YtojegnbejmeehaaGreatDoorJAF
namespace Go.Proofs.YtojegnbejmeehaaGreatDoor
open Go.RowKit
set_option maxRecDepth 10000
set_option maxHeartbeats 16000000
set_option linter.all false
section
variable {R:Ending→World→Prop} {w:World} {a T:Nat} {L:List Nd}
theorem IV (v:Int) (p:Value) (c:Value) (d:∀e b,e=.returned (IP v)→Same w b→R e b):
 Calls Tryz.prog 357 #[.agg #[v],p,c] w R:=by
 have f:=ae d;clear d;go_enter Tryz.func357,Tryz.ntmps357;go_wp2_with fail;exact f.o _ _ rfl ((af _ _).alloc _)
def Nd.fn:Nd→Nat
 | .leaf _=>357
 | .fork .. =>358
def Nd.recv:Nd→Value
 | .leaf v=>.agg #[v]
 | .fork t lo hi=>(Iy t lo hi)
theorem uh (k:Nat) (v:Int) (w:World):(method (k+1) 330 (.agg #[v]) "sibyl/bdd.at").run Tryz.prog w=.ok (357,.agg #[v]) w:=by kernel_rfl
theorem ui (k:Nat) (t b c:Int) (w:World):(method (k+1) 332 (Iy t b c) "sibyl/bdd.at").run Tryz.prog w=.ok (358,(Iy t b c)) w:=by kernel_rfl
attribute [go_sem] uh ui
theorem FV (c t d f:Nat) (h:StoreAt w a T L) (D:NdOk T L L.length (.fork t d f)) (hc:c<64)
 (J:∀(i:Nat) (n:Nd) (w:World) (R:Ending→World→Prop),(i=d∨i=f)→StoreAt w a T L→L[i]?=some n→(∀e m,e=.returned (IP (val L i c))→Same w m→R e m)→
  Calls Tryz.prog n.fn #[n.recv,.pointer (IQ a 0),IP c] w R)
 (N:∀e m,e=.returned (IP (val L (if c.testBit t then f else d) c))→Same w m→R e m):
 Calls Tryz.prog 358 #[Iy t d f,.pointer (IQ a 0),IP c] w R:=by
 have x:=ae N;clear N;obtain⟨h1,h2,h3,h4,h5,Z⟩:=D;have h7:=h.wf.six;have r:=gE c t (by omega);obtain⟨sa,cap,I,q0,b1,b2,M⟩:=h.node;obtain⟨g,rfl,C⟩:=M d h2;unfold maxLen at b2;obtain⟨p,j⟩:∃n,L[d]?=some n:=⟨_,List.getElem?_eq_getElem h2⟩;obtain⟨q,k⟩:∃n,L[f]?=some n:=⟨_,List.getElem?_eq_getElem h3⟩;have s:=C d p j;have u:=C f q k;clear M C h4 h5 Z;have H:=ae h;have O:=ae J;clear h J
 cases v:c.testBit t with
 |true=>
  rw[v]at r x;have G:=ae k;clear v s j k
  cases q
  all_goals
   go_enter Tryz.func358,Tryz.ntmps358;go_wp2_with fail;have A:=dt I (IG t d f);have o:=dt u (IG t d f);have z:(w.alloc (IG t d f)).cell? ⟨w.heap.size,2,none⟩=some (.int .i64 f):=mr _ _ _ _;simp only[Nd.val]at o;refine aq (by kernel_rfl) (by kernel_rfl) ?_
   repeat (apply wpQuiet_step;intro K l;(first|(apply aA;rfl;go_simp)|(apply aJ;rfl;intro m b;obtain⟨Y,X,V⟩:=xs3 b A o z;go_simp;(first|exact rfl|(exact O.o f _ _ _ (.inr rfl) ((H.o.same ((af _ _).alloc _)).same b) G.o (fun e y F E=>⟨F,b.tr E⟩)));go_simp));refine l _ ?_;clear l K)
   apply wpQuiet_nil;intro U B;go_wp2_with fail;exact x.o _ _ rfl (((af _ _).alloc _).tr B)
 |false=>
  rw[v]at r x;have G:=ae j;clear v u j k
  cases p
  all_goals
   go_enter Tryz.func358,Tryz.ntmps358;go_wp2_with fail;have A:=dt I (IG t d f);have o:=dt s (IG t d f);have z:(w.alloc (IG t d f)).cell? ⟨w.heap.size,1,none⟩=some (.int .i64 d):=mr _ _ _ _;simp only[Nd.val]at o;refine aq (by kernel_rfl) (by kernel_rfl) ?_
   repeat (apply wpQuiet_step;intro K l;(first|(apply aA;rfl;go_simp)|(apply aJ;rfl;intro m b;obtain⟨Y,X,V⟩:=xs3 b A o z;go_simp;(first|exact rfl|(exact O.o d _ _ _ (.inl rfl) ((H.o.same ((af _ _).alloc _)).same b) G.o (fun e y F E=>⟨F,b.tr E⟩)));go_simp));refine l _ ?_;clear l K)
   apply wpQuiet_nil;intro U B;go_wp2_with fail;exact x.o _ _ rfl (((af _ _).alloc _).tr B)
theorem FK (c:Nat) (p:c<64):∀(i:Nat) (n:Nd) (w:World) (R:Ending→World→Prop),StoreAt w a T L→L[i]?=some n→(∀e k,e=.returned (IP (val L i c))→Same w k→R e k)→
 Calls Tryz.prog n.fn #[n.recv,.pointer (IQ a 0),IP c] w R:=by
 intro i
 induction i using Nat.strongRecOn with
 |ind i ih=>
  intro n w R h d g
  cases n with
  |leaf v=>
   refine IV v _ _ ?_;rw[bR d]at g;exact g
  |fork t lo hi=>
   have b:=h.wf.ok i _ d;have o:=(List.getElem?_eq_some_iff.1 d).1;refine FV c t lo hi h ⟨b.1,by have :=b.2.1;omega,by have :=b.2.2.1;omega,b.2.2.2.1,b.2.2.2.2.1,b.2.2.2.2.2⟩ p ?_ ?_
   ·intro j m w R q hs l f;exact ih j (by have :=b.2.1;have :=b.2.2.1;omega) m w R hs l f
   ·rw[←co h.wf d];exact g
def atA (T:Nat) (L:List Nd) (i c:Int):Int:=
 if 0≤i∧i<L.length∧0≤c∧c<2^T then val L i.toNat c.toNat else -1
theorem go {T:Nat} (h:T≤6):wrap64 ((2:Int)^T)=((2^T:Nat):Int):=by
 have :T=0∨T=1∨T=2∨T=3∨T=4∨T=5∨T=6:=by omega
 rcases this with rfl|rfl|rfl|rfl|rfl|rfl|rfl<;>(rw[IntWalk.wrap64_in _ (by decide)];rfl)
theorem fp {T:Nat} (h:T≤6):2^T≤64:=Nat.pow_le_pow_right (by decide) h
theorem tH (h:StoreAt w a T L) (i c:Int) (x:∀e s,e=.returned (IP (atA T L i c))→Same w s→R e s):
 Calls Tryz.prog 224 (Il (IL a) i c) w R:=by
 have d:=ae x;clear x;have r:=h.wf.six;have o:=fp r;by_cases q:0≤i∧i<L.length
 ·have m:(decide (0≤i)&&decide (i<L.length))=true:=by simp;omega
  by_cases z:c<0
  ·rw[show atA T L i c=-1 from if_neg (by omega)]at d;go_enter Tryz.func224,Tryz.ntmps224;go_wp2_with fail;refine dF h _ ?_;rintro e rfl;rw[m];go_wp2_with fail;exact d.o _ _ rfl (af _ _)
  ·obtain⟨c,rfl⟩:=Int.eq_ofNat_of_zero_le (show 0≤c by omega);by_cases b:c<2^T
   ·obtain⟨k,rfl⟩:=Int.eq_ofNat_of_zero_le q.1;have v:k<L.length:=by omega
    have l:(c:Int)<2^T:=by exact_mod_cast b
    rw[show atA T L k c=val L k c from if_pos ⟨q.1,q.2,by omega,l⟩]at d;obtain⟨G,cap,H,I,J,C,u⟩:=h.node;obtain⟨g,rfl,t⟩:=u k v;obtain⟨n,j⟩:∃n,L[k]?=some n:=⟨_,List.getElem?_eq_getElem v⟩;have B:=t k n j;unfold maxLen at C;have D:=ae (FK (a:=a) (T:=T) (L:=L) c (by omega) k);have f:=go r;generalize 2^T=p at f b o;have E:=ae j;clear u t j l
    cases n
    all_goals simp only[Nd.val]at B
    all_goals
     go_enter Tryz.func224,Tryz.ntmps224;go_wp2_with fail;refine dF h _ ?_;rintro e rfl;rw[m];go_wp2_with fail;refine dh h ?_;rintro e rfl;go_wp2_with fail;refine D.o _ _ _ h E.o ?_;rintro e F rfl y;go_wp2_with fail;exact d.o _ _ rfl y
   ·rw[show atA T L i c=-1 from if_neg (by rintro⟨_,_,_,A⟩;exact b (by exact_mod_cast A))]at d;have f:=go r;generalize 2^T=p at f b o;go_enter Tryz.func224,Tryz.ntmps224;go_wp2_with fail;refine dF h _ ?_;rintro e rfl;rw[m];go_wp2_with fail;refine dh h ?_;rintro e rfl;go_wp2_with fail;exact d.o _ _ rfl (af _ _)
 ·rw[show atA T L i c=-1 from if_neg (by omega)]at d;have m:(decide (0≤i)&&decide (i<L.length))=false:=by simp;omega
  go_enter Tryz.func224,Tryz.ntmps224;go_wp2_with fail;refine dF h _ ?_;rintro e rfl;rw[m];go_wp2_with fail;exact d.o _ _ rfl (af _ _)
end
section
variable {R:Ending→World→Prop} {w:World} {a T:Nat} {L:List Nd}
def ofA (T:Nat) (row:List Int):Nat→List Nd→Nat→List Nd×Int
 |0,L,c=>fW L (row.getD c 0)
 |d+1,L,c=>mkA T (ofA T row d (ofA T row d L c).1 (c|||2^(T -(d+1)))).1 (T -(d+1):Nat) (ofA T row d L c).2 (ofA T row d (ofA T row d L c).1 (c|||2^(T -(d+1)))).2
theorem rg (L:List Nd) (v:Int):(fW L v).1.length≤L.length+1:=by
 unfold fW;split
 ·exact uS.2
 ·simp
theorem yz (T:Nat) (L:List Nd) (t b c:Int):(mkA T L t b c).1.length≤L.length+1:=by
 unfold mkA;split
 ·simp
 ·split
  ·simp
  ·exact uS.2
theorem lS (T:Nat) (row:List Int):∀(d:Nat) (L:List Nd) (c:Nat),(ofA T row d L c).1.length+1≤L.length+2^(d+1)
 |0,L,c=>by have :=rg L (row.getD c 0);unfold ofA;omega
 |d+1,L,c=>by
  have h1:=lS T row d L c;have h2:=lS T row d (ofA T row d L c).1 (c|||2^(T -(d+1)));have b:=yz T (ofA T row d (ofA T row d L c).1 (c|||2^(T -(d+1)))).1 (T -(d+1):Nat) (ofA T row d L c).2 (ofA T row d (ofA T row d L c).1 (c|||2^(T -(d+1)))).2;unfold ofA;have :2^(d+1+1)=2^(d+1)+2^(d+1):=by rw[Nat.pow_succ];omega
  omega
def Apart (w:World) (a:Nat) (v:Value):Prop:=∀b,live v=some b→¬de w a b∧b<w.heap.size
theorem Apart.grew {w d:World} {v:Value} (h:Apart w a v) (g:Grew a w d):Apart d a v:=fun b c=>
 ⟨fun e=>(g.foot b e).elim (h b c).1 fun h1=>by have :=(h b c).2;omega,Nat.lt_of_lt_of_le (h b c).2 g.keeps.size⟩
theorem IntsAt.grew {w c:World} {v:Value} {l:List Int} (h:IntsAt w v l) (e:Apart w a v) (g:Grew a w c):IntsAt c v l:=
 h.keep g.keeps fun b d=>(e b d).1
theorem Apart.old {B:Nat} {v:Value} (d:∀x,de w a x→B≤x) (hv:∀b,live v=some b→b<B) (e:B≤w.heap.size):Apart w a v:=
 fun b c=>⟨fun h=>by have :=d b h;have :=hv b c;omega,Nat.lt_of_lt_of_le (hv b c) e⟩
theorem Fx {c t:Nat} (b:c<2^t):c|||2^t<2^(t+1):=
 Nat.or_lt_two_pow (Nat.lt_of_lt_of_le b (Nat.pow_le_pow_right (by decide) (by omega))) (Nat.pow_lt_pow_right (by decide) (by omega))
theorem Ef (row:List Int) (v:Value):∀(d:Nat) (t c:Nat) (L:List Nd) (w:World) (R:Ending→World→Prop),t+d=T→c<2^t→row.length=2^T→
 StoreAt w a T L→IntsAt w v row→Apart w a v→L.length+2^(d+1)≤1099511627776→
 (∀e H,e=.returned (IP (ofA T row d L c).2)→StoreAt H a T (ofA T row d L c).1→Grew a w H→R e H)→
 Calls Tryz.prog 250 #[.pointer (IQ a 0),v,IP t,IP c] w R:=by
 intro d
 induction d with
 |zero=>
  intro t c L w R k n b h hv i C D;have g:=ae D;clear D;obtain rfl:t=T:=by omega
  obtain⟨sa,cap,q1,q0,_⟩:=h.node;have j:=fp h.wf.six;obtain⟨va,vc,rfl,a8,U,f⟩:=hv.open;have l:c<row.length:=by omega
  obtain⟨vb,off,rfl,aH,B⟩:=f c l;have O:=B c l;obtain⟨z,J⟩:∃z,z=row[c]:=⟨_,rfl⟩;rw[←J]at O;have Y:row.getD c 0=z:=by rw[J];simp[List.getD,List.getElem?_eq_getElem l]
  unfold ofA at g;rw[Y]at g;unfold maxLen at U;have HB:=ae C;clear f B Y J b C k;have h6:=h.wf.six;have o:((t:Int)==(t:Int))=true:=by simp
  go_enter Tryz.func250,Tryz.ntmps250;go_wp2_with fail;refine qC h z (by have :=HB.o;omega) ?_;rintro e w1 rfl I E;go_wp2_with fail;exact g.o _ _ rfl I E
 |succ d ih=>
  intro t c L w R k n b h hv i C D;have g:=ae D;clear D;obtain⟨sa,cap,q1,q0,_⟩:=h.node;have h6:=h.wf.six;have Z:T -(d+1)=t:=by omega
  unfold ofA at g;rw[Z]at g;have o:((t:Int)==(T:Int))=false:=by simp;omega
  have aL:t<6:=by omega
  have M:=go (T:=t) (by omega);have j:=fp (T:=t) (by omega);have u:=iO c (2^t) (Nat.lt_of_lt_of_le n (Nat.le_trans j (by decide))) (Nat.lt_of_le_of_lt j (by decide));clear j;have x:=Fx n;have A:=lS T row d L c;have y:=lS T row d (ofA T row d L c).1 (c|||2^t);have h2:L.length+(2^(d+1)+2^(d+1))≤1099511627776:=by rw[Nat.pow_succ]at C;omega
  clear C;have X:c<2^(t+1):=Nat.lt_of_lt_of_le n (Nat.pow_le_pow_right (by decide) (by omega));have G:=ae (And.intro x X);have m:Hid (∃q,2^(d+1)=q∧(ofA T row d L c).1.length+1≤L.length+q∧(ofA T row d (ofA T row d L c).1 (c|||2^t)).1.length+1≤(ofA T row d L c).1.length+q∧L.length+(q+q)≤1099511627776):=ae ⟨_,rfl,A,y,h2⟩;have F:=ae (And.intro k b);have IH:=ae ih;clear ih A y h2 Z b x X;generalize 2^t=p at M u G m g n;generalize N:c|||p=c2 at u G m g
  clear N n;generalize s:ofA T row d L c=V at g m;generalize r:ofA T row d V.1 c2=r2 at g m;have H1:=ae s;have H2:=ae r;clear s r;go_enter Tryz.func250,Tryz.ntmps250;go_wp2_with fail;refine IH.o (t+1) c L _ _ (by have :=F.o.1;omega) G.o.2 F.o.2 h hv i (by obtain⟨q,e,e1,e2,e3⟩:=m.o;(try rw[e]);omega) ?_;rw[H1.o];rintro e w1 rfl I E;go_wp2_with fail;refine IH.o (t+1) c2 V.1 _ _ (by have :=F.o.1;omega) G.o.1 F.o.2 I (hv.grew i E) (i.grew E) (by obtain⟨q,e,e1,e2,e3⟩:=m.o;(try rw[e]);omega) ?_;rw[H2.o];rintro e w2 rfl s2 g2;go_wp2_with fail;refine yf s2 _ _ _ (by obtain⟨q,e,e1,e2,e3⟩:=m.o;(try rw[e]);omega) ?_;rintro e w3 rfl s3 g3;go_wp2_with fail;exact g.o _ _ rfl s3 ((E.trans g2).trans g3)
end
section
variable {R:Ending→World→Prop} {w:World}
def yV (F:Nat) (caps:Array Value) (p:Int→Bool) (l:List Int) (w:World):Prop:=
 ∀x∈l,∀w' R,Same w w'→(∀e w'',e=.returned (.bool (p x))→Same w' w''→R e w'')→Calls Tryz.prog F (#[IP x]++caps) w' R
def si (p:Int→Bool) (l:List Int):Int:=match l.findIdx? p with |some i=>(i:Int)|none=>-1
theorem pz {p:Int→Bool} {l:List Int} {k:Nat} (a:k<l.length) (c:p l[k]=true) (d:∀i (_:i<k),p (l.getD i 0)=false):si p l=k:=by
 unfold si;have :l.findIdx? p=some k:=by
  rw[List.findIdx?_eq_some_iff_getElem];refine⟨a,c,fun j b=>?_⟩;have :=d j b
  simpa [List.getD,List.getElem?_eq_getElem (Nat.lt_trans b a)]using this
 rw[this]
theorem rk {p:Int→Bool} {l:List Int} (b:∀i (_:i<l.length),p (l.getD i 0)=false):si p l=-1:=by
 unfold si;have :l.findIdx? p=none:=by
  rw[List.findIdx?_eq_none_iff];intro x hx;obtain⟨i,a,rfl⟩:=List.getElem_of_mem hx
  simpa [List.getD,List.getElem?_eq_getElem a]using b i a
 rw[this]
theorem uR (p:Int→Bool) (l:List Int):decide (0≤si p l)=l.any p:=by
 unfold si
 cases h:l.findIdx? p with
 |none=>
  have :=List.findIdx?_eq_none_iff.1 h;simp only[];rw[show decide ((0:Int)≤-1)=false by decide]
  symm;rw[List.any_eq_false];intro x hx;simp[this x hx]
 |some i=>
  have :=(List.findIdx?_eq_some_iff_getElem.1 h);obtain⟨b,a,_⟩:=this;simp only[];rw[show decide ((0:Int)≤(i:Int))=true by simp]
  symm;rw[List.any_eq_true];exact⟨_,List.getElem_mem b,a⟩
theorem rj {F:Nat} {caps:Array Value} {p:Int→Bool} {l:List Int} {v:Value} (E:∀h w,(callFunc F h).run Tryz.prog w=.ok (.enter F h) w) (hv:IntsAt w v l) (x:yV F caps p l w)
 (A:∀e t,e=.returned (IP (si p l))→Same w t→R e t):
 Calls Tryz.prog 114 #[v,.func (.func F) #[] caps] w R:=by
 have C:=ae A;clear A;have N:=ae hv.2;obtain⟨a,c,rfl,G,s,d⟩:=hv.open;have I:=ae d;have H:=ae x;clear d hv x;unfold maxLen at s;go_enter Tryz.func114,Tryz.ntmps114;go_wp2_with fail
 go_loopw [8] (fun i wr=>∃k:Nat,i=.int .i64 k∧k≤l.length∧Hid (∀i (_:i<k),p (l.getD i 0)=false)∧Same w wr) (fun i _=>l.length -(intOf i).toNat)
 case atStart=>exact⟨0,rfl,Nat.zero_le _,ae (fun i y=>absurd y (Nat.not_lt_zero _)),af _ _⟩
 case round=>
  obtain⟨k,rfl,L,j,o⟩:=hrel;by_cases g:k<l.length
  ·obtain⟨b,off,rfl,M,n⟩:=I.o k g;have r:=ak o (n k g) trivial;clear n;obtain⟨z,q⟩:∃z,z=l[k]:=⟨_,rfl⟩;rw[←q]at r;have B:=ae q;have D:z∈l:=by rw[q];exact List.getElem_mem _
   clear q;go_wp2_with fail;refine H.o z D _ _ o ?_;rintro e J rfl u
   cases f:p z with
   |true=>
    have m:=ae f;clear f;go_wp2_with fail;refine C.o _ _ (cQ ?_) (o.tr u);exact(pz g (by rw[←B.o];exact m.o) j.o).symm
   |false=>
    have m:=ae f;clear f;go_wp2_with fail;go_roundw
    case rel=>
     refine⟨k+1,by go_num,by omega,ae (fun i y=>?_),o.tr u⟩;by_cases e:i=k
     ·subst e;simpa [List.getD,List.getElem?_eq_getElem g,←B.o]using m.o
     ·exact j.o i (by omega)
    case measure=>simp[intOf];omega
  ·go_wp2_with fail;refine C.o _ _ (cQ ?_) o;obtain rfl:k=l.length:=by omega
   exact(rk j.o).symm
theorem gj {F:Nat} {caps:Array Value} {p:Int→Bool} {l:List Int} {v:Value} (b:∀a w,(callFunc F a).run Tryz.prog w=.ok (.enter F a) w) (hv:IntsAt w v l) (g:yV F caps p l w)
 (d:∀e c,e=.returned (.bool (l.any p))→Same w c→R e c):
 Calls Tryz.prog 166 #[v,.func (.func F) #[] caps] w R:=by
 have h:=ae d;clear d;go_enter Tryz.func166,Tryz.ntmps166;go_wp2_with fail;refine rj b hv g ?_;rintro e i rfl f;go_wp2_with fail;exact h.o _ _ (be (uR p l)) f
end
section
variable {R:Ending→World→Prop} {w:World} {a T:Nat} {L:List Nd}
def dv (v:Int):Bool:=decide (0≤v)&&decide (v≤1099511627776)
def OfA (T:Nat) (L:List Nd) (row:List Int):List Nd×Int:=
 if row.length=2^T∧row.all dv=true then ofA T row T L 0 else(L,-1)
theorem jH (b:Array Value) (w:World):(callFunc 248 b).run Tryz.prog w=.ok (.enter 248 b) w:=by kernel_rfl
theorem Fy (x:Int) (b:∀e,e=.returned (.bool (!dv x))→R e w):Calls Tryz.prog 248 #[IP x] w R:=by
 have c:=ae b;clear b;go_enter Tryz.func248,Tryz.ntmps248;go_wp2_with fail;refine sf x ?_;rintro e rfl;go_wp2_with fail;exact c.o _ (be (by simp[dv]))
theorem tE {row:List Int} {v:Value} (h:StoreAt w a T L) (hv:IntsAt w v row) (o:Apart w a v) (Y:L.length+128≤1099511627776)
 (A:∀e n,e=.returned (IP (OfA T L row).2)→StoreAt n a T (OfA T L row).1→Grew a w n→R e n):
 Calls Tryz.prog 216 #[.pointer (IQ a 0),v] w R:=by
 have m:=ae A;clear A;have F:=h.wf.six;obtain⟨U,cap,V,X,_⟩:=h.node;have k:=go F;have u:=ae hv;have E:=ae o;obtain⟨O,N,rfl,D,t,_⟩:=hv.open;unfold maxLen at t;have g:2^(T+1)≤128:=Nat.pow_le_pow_right (by decide) (show T+1≤7 by omega);clear hv o;by_cases i:row.length=2^T
 ·cases b:row.all dv with
  |true=>
   rw[show OfA T L row=ofA T row T L 0 from if_pos ⟨i,b⟩]at m;have c:row.any (fun x=>!dv x)=false:=by
    rw[List.any_eq_false];intro x hx;simpa using List.all_eq_true.1 b x hx
   have y:=ae c;have z:=ae i;have f:(((row.length:Nat):Int) !=((2^T:Nat):Int))=false:=by rw[i];simp
   have h0:0<2^T:=Nat.pow_pos (by decide);clear b c i;have J:=ae g;clear g;have H:Hid (0<2^0):=ae (by decide);generalize d:2^T=p at k f h0;have I:=ae d;clear d;go_enter Tryz.func216,Tryz.ntmps216;go_wp2_with fail;refine gj (p:=fun x=>!dv x) jH u.o ?_ ?_
   ·intro x _ n R r l;exact Fy x (fun e s=>l e _ s (af _ _))
   rintro e B rfl j;rw[y.o];go_wp2_with fail;refine Ef row _ T 0 0 L _ _ (by omega) H.o z.o (h.same j) (u.o.same j) (E.o.grew (cD h j)) (by have :=J.o;omega) ?_;rintro e M rfl C G;go_wp2_with fail;exact m.o _ _ rfl C ((cD h j).trans G)
  |false=>
   rw[show OfA T L row=(L,-1)from if_neg (by simp[b])]at m;have c:row.any (fun x=>!dv x)=true:=by
    rw[List.any_eq_true];obtain⟨x,hx,q⟩:=List.all_eq_false.1 b;exact⟨x,hx,by simpa using q⟩
   have y:=ae c;have f:(((row.length:Nat):Int) !=((2^T:Nat):Int))=false:=by rw[i];simp
   clear b c i g;generalize d:2^T=p at k f;clear d;go_enter Tryz.func216,Tryz.ntmps216;go_wp2_with fail;refine gj (p:=fun x=>!dv x) jH u.o ?_ ?_
   ·intro x _ n R r l;exact Fy x (fun e s=>l e _ s (af _ _))
   rintro e B rfl j;rw[y.o];go_wp2_with fail;exact m.o _ _ rfl (h.same j) (cD h j)
 ·rw[show OfA T L row=(L,-1)from if_neg (fun h=>i h.1)]at m;have f:(((row.length:Nat):Int) !=((2^T:Nat):Int))=true:=by
   rw[bne_iff_ne];intro e;exact i (by exact_mod_cast e)
  clear i g;generalize d:2^T=p at k f;clear d;go_enter Tryz.func216,Tryz.ntmps216;go_wp2_with fail;exact m.o _ _ rfl h (Grew.refl _ _)
def zo (T:Nat) (L:List Nd) (i:Int):List Int:=
 if 0≤i∧i<L.length then(List.range (2^T)).map (fun c=>val L i.toNat c)else[]
theorem cC:(Tryz.prog.info? 3).map (fun i=>(i.zero,i.size,i.bytes))=some (some (.int .i64 0),1,8):=by kernel_rfl
def OwnInts (w:World) (B:Nat) (v:Value) (l:List Int):Prop:=w.ownsRow B 3 1 v l.length (l.map (Value.int .i64))
theorem OwnInts.ints {B:Nat} {v:Value} {l:List Int} (h:OwnInts w B v l) (c:∀x∈l,aK x):IntsAt w v l:=by
 refine⟨?_,c⟩;rcases h.2 with⟨rfl,h0⟩|⟨g,cap,b,rfl,f,d,h1,h2,j,e⟩
 ·have :l=[]:=List.eq_nil_of_length_eq_zero h0
  subst this;exact⟨none,0,rfl,Nat.le_refl _,Nat.zero_le _,.inl rfl⟩
 ·refine⟨_,cap,by simp,by simpa using h1,h2,.inr ⟨g,0,b,_,_,rfl,d,fun i x hx=>?_⟩⟩;rw[←e]at hx;rw[List.getElem?_take]at hx
  split at hx
  ·simpa using hx
  ·cases hx
theorem OwnInts.keep {S:Nat→Prop} {w e:World} {B:Nat} {v:Value} {l:List Int} (h:OwnInts w B v l) (k:Keeps S w e) (hs:∀b,v.ownBlock=some b→S b):OwnInts e B v l:=by
 refine⟨h.1,?_⟩;rcases h.2 with h0|⟨g,cap,d,rfl,i,f,c⟩
 ·exact .inl h0
 ·exact .inr ⟨g,cap,d,rfl,i,k.at f (hs g rfl),c⟩
theorem OwnInts.same {w b:World} {B:Nat} {v:Value} {l:List Int} (h:OwnInts w B v l) (k:Same w b):OwnInts b B v l:=h.keep k fun _ _=>trivial
def eK:=@OwnInts.same
theorem jr {v:Value} {b:Nat} (h:live v=some b):v.ownBlock=some b:=by
 unfold live at h
 split at h
 ·simpa [Value.ownBlock]using h
 ·cases h
theorem OwnInts.grew {d:World} {B:Nat} {v:Value} {l:List Int} (h:OwnInts w B v l) (hs:StoreAt w a T L) (g:Grew a w d):OwnInts d B v l:=by
 refine h.keep g.keeps fun b c=>?_;rcases h.2 with⟨rfl,h0⟩|⟨g,cap,i,rfl,_,f,e⟩
 ·simp[Value.ownBlock]at c
 ·simp[Value.ownBlock]at c;subst c;exact fI hs f (by decide) (by decide)
theorem Bo (h:StoreAt w a T L) (i:Int) (O:∀e C v,e=.returned v→OwnInts C w.heap.size v (zo T L i)→Same w C→R e C):
 Calls Tryz.prog 169 (Ia (IL a) i) w R:=by
 have n:=ae O;clear O;have U:=h.wf.six;by_cases r:0≤i∧i<L.length
 ·have J:(decide (0≤i)&&decide (i<L.length))=true:=by simp;omega
  obtain⟨k,rfl⟩:=Int.eq_ofNat_of_zero_le r.1;have f:=go U;have M:=fp U;have H:=ae h;have o:zo T L k=(List.range (2^T)).map (fun c=>val L k c):=by unfold zo;rw[if_pos r,Int.toNat_natCast]
  have s:∀c:Nat,c<2^T→atA T L k c=val L k c:=fun c Y=>by
   unfold atA;rw[if_pos ⟨r.1,r.2,by omega,by exact_mod_cast Y⟩];simp
  rw[o]at n;have z:=ae s;clear h o s;generalize F:2^T=p at f M n z;clear F;obtain⟨B,l⟩:∃B,B=w.heap.size:=⟨_,rfl⟩;rw[←l]at n;have y:=ae l;clear l;go_enter Tryz.func169,Tryz.ntmps169;go_wp2_with fail;refine dF H.o _ ?_;rintro e rfl;rw[J];go_wp2_with fail;refine dh H.o ?_;rintro e rfl;go_wp2_with fail;rw[f];clear f
  go_loopw [5,14] (fun u j wr=>∃m:Nat,j=.int .i64 m∧m≤p∧OwnInts wr B u ((List.range m).map (fun c=>val L k c))∧Same w wr) (fun _ j _=>p -(intOf j).toNat)
  case atStart=>exact⟨0,rfl,Nat.zero_le _,World.ownsRow_nil _ _ _ _,af _ _⟩
  case round=>
   obtain⟨m,rfl,Z,b,A⟩:=hrel;by_cases G:m<p
   ·go_wp2_with fail;refine tH (H.o.same A) k m ?_;rintro e X rfl D;rw[z.o m G];obtain⟨g,t,N,E,d,q,hg,_⟩:=bi (P:=Tryz.prog) X 41 41 3 Tryz.underlying41 cC rfl (b.same D) (by rw[y.o];exact(A.tr D).size) (IP (val L k m)) rfl (by simp;omega) (by decide);have I:Same w N:=by
     refine(A.tr D).trans q fun x hx _=>⟨trivial,?_⟩;intro e;have :=(b.lt x e).1;rw[y.o]at this;omega
    have V:Hid (OwnInts N B (.slice (IQ g 0) (((List.range m).map (fun c=>val L k c)).length+1) t) ((List.range (m+1)).map (fun c=>val L k c))):=by
     refine ae ?_;unfold OwnInts;rw[List.range_succ]
     simpa using d
    rw[show((List.range m).map (fun c=>val L k c)).length=m by simp]at V E;clear d b q
    go_wp2_with (at_builtin;refine ap rfl _ _ _ rfl rfl rfl E ?_;clear E)
    go_roundw
    case rel=>exact⟨m+1,by go_num,by omega,V.o,I⟩
    case measure=>simp[intOf];omega
   ·go_wp2_with fail;obtain rfl:m=p:=by omega
    exact n.o _ _ _ rfl b A
 ·rw[show zo T L i=[]from if_neg r]at n;have J:(decide (0≤i)&&decide (i<L.length))=false:=by simp;omega
  go_enter Tryz.func169,Tryz.ntmps169;go_wp2_with fail;refine dF h _ ?_;rintro e rfl;rw[J];go_wp2_with fail;exact n.o _ _ _ rfl (World.ownsRow_nil _ _ _ _) (af _ _)
end
end Go.Proofs.YtojegnbejmeehaaGreatDoor
