/- Helpers of the proof of TopNames. -/
import Derived.Test.YtojegnbejmeehaaGreatDoorJAL
import Derived.Test.YtojegnbejmeehaaGreatDoorJBH
namespace Go.Proofs.YtojegnbejmeehaaGreatDoor
open Go.RowKit
set_option maxRecDepth 10000
set_option maxHeartbeats 16000000
set_option linter.all false
section
variable {R:Ending→World→Prop} {w:World} {a T:Nat} {L:List Nd}
def Nd.track:Nd→Int
 | .fork u _ _=>u
 | .leaf _=>-1
theorem bP {f:Nat} {n:Nd} (b:L[f]?=some n):bh L f=n.track:=by
 have :=(List.getElem?_eq_some_iff.1 b).1;unfold bh;rw[if_pos ⟨by omega,by omega⟩,Int.toNat_natCast,b]
 cases n<;>rfl
theorem Aq {f u b d:Nat} (c:L[f]?=some (.fork u b d)):jv L f=((b:Int),(d:Int)):=by
 have :=(List.getElem?_eq_some_iff.1 c).1;unfold jv;rw[if_pos ⟨by omega,by omega⟩,Int.toNat_natCast,c]
end
section
variable {R:Ending→World→Prop} {w:World} {a T:Nat} {L:List Nd}
def ig (p:Int×Int):Value:=(Im p.1 p.2)
theorem FH (x y:Int×Int) (w:World):(Op.equal 193 (ig x) (ig y)).run Tryz.prog w=.ok (decide (x=y)) w:=by
 obtain⟨a,b⟩:=x;obtain⟨c,d⟩:=y;have f:∀(n:Nat) (p q:Int),(Op.equalIn (n+1) 3 (IP p) (IP q)).run Tryz.prog w=.ok (p==q) w:=fun n p q=>by
  unfold Op.equalIn;simp[run_underlying Tryz.underlying3]
 have e:∀(p q:Int),(Op.equalIn 9999 3 (IP p) (IP q)).run Tryz.prog w=.ok (p==q) w:=f 9998;have h1:∀(p q:Int),(part 3 (It p q) 1).run Tryz.prog w=.ok (IP q) w:=fun p q=>by kernel_rfl
 have h0:∀(p q:Int),(part 3 (It p q) 0).run Tryz.prog w=.ok (IP p) w:=fun p q=>by kernel_rfl
 show(Op.equalIn (9998+1+1) 193 (Im a b) (Im c d)).run Tryz.prog w=_
 rw[Op.equalIn];by_cases h:a=c<;>by_cases g:b=d<;>simp[run_underlying Tryz.underlying193,List.range',h0,h1,e,h,g]
theorem jj:KeyT Tryz.prog 193 ig where
 find:=ro (fun d c x y=>by rw[Tryz.underlying193]at c;cases c;rfl) FH Tryz.underlying193
 check:=fun b x w=>by cases b<;>kernel_rfl
 stays:=fun x w=>by
  unfold Instr.keyThatStays;rw[if_pos]
  ·rfl
  ·show Instr.sameBits (9999+1) (.agg _) (.agg _)=true
   simp[Instr.sameBits]
def nO (L:List Nd) (f g:Int):Int:=if bh L f<0∨(0≤bh L g∧bh L g<bh L f)then bh L g else bh L f
theorem qN {c:Nat} (h:StoreAt w a T L) (k:w.cell? ⟨c,0,none⟩=some (IL a)) (i:Int) (d:∀e b,e=.returned (IP (atA T L i 0))→Same w b→R e b):
 Calls Tryz.prog 295 (Ia (IL c) i) w R:=by
 have g:=ae d;clear d;go_enter Tryz.func295,Tryz.ntmps295;go_wp2_with fail;refine tH h i 0 ?_;rintro e j rfl f;go_wp2_with fail;exact g.o _ _ rfl f
theorem qO {g:Nat} (h:StoreAt w a T L) (n:w.cell? ⟨g,0,none⟩=some (IL a)) (i t:Int) (j:∀e f,e=.returned (.tuple (It (if bh L i=t then(jv L i).1 else i) (if bh L i=t then(jv L i).2 else i)))→Same w f→R e f):
 Calls Tryz.prog 296 (Il (IL g) i t) w R:=by
 have d:=ae j;clear j;by_cases b:bh L i=t
 ·rw[if_pos b,if_pos b]at d;have o:(bh L i==t)=true:=by simpa using b
  clear b;go_enter Tryz.func296,Tryz.ntmps296;go_wp2_with fail;refine kO h i ?_;rintro e k rfl c;have m:=ak c n trivial;go_wp2_with fail;refine zf (h.same c) i ?_;rintro e p rfl l;go_wp2_with fail;exact d.o _ _ rfl (c.tr l)
 ·rw[if_neg b,if_neg b]at d;have o:(bh L i==t)=false:=by simpa using b
  clear b;go_enter Tryz.func296,Tryz.ntmps296;go_wp2_with fail;refine kO h i ?_;rintro e k rfl c;go_wp2_with fail;exact d.o _ _ rfl c
attribute [local irreducible] wpQuiet
theorem ym {o:Nat} (h:StoreAt w a T L) (r:w.cell? ⟨o,0,none⟩=some (IL a)) (f g:Int) (p:∀e n,e=.returned (IP (nO L f g))→Same w n→R e n):
 Calls Tryz.prog 294 (Il (IL o) f g) w R:=by
 have m:=ae p;clear p;have H:=ae h;have d:=ae (show nO L f g=if bh L f<0∨(0≤bh L g∧bh L g<bh L f)then bh L g else bh L f from rfl);clear h;go_enter Tryz.func294,Tryz.ntmps294;go_wp2_with fail;refine aq (by kernel_rfl) (by kernel_rfl) ?_
 iterate 14 (apply wpQuiet_step;intro K l;(first|(apply aA;rfl;go_simp)|(apply aJ;rfl;intro n b;have v:=ak b r trivial;go_simp;(first|exact rfl|(exact kO (H.o.same b) _ (fun e q t s=>⟨t,b.tr s⟩)));go_simp));refine l _ ?_;clear l K)
 apply wpQuiet_nil;intro x k;generalize bh L f=j at d⊢;generalize bh L g=i at d⊢;by_cases h1:j<0
 ·have c:=ae (show nO L f g=i by rw[d.o,if_pos (.inl h1)]);go_wp2_with fail;exact m.o _ _ (cQ c.o.symm) k
 ·by_cases h2:0≤i
  ·by_cases u:i<j
   ·have c:=ae (show nO L f g=i by rw[d.o,if_pos (.inr ⟨h2,u⟩)]);go_wp2_with fail;exact m.o _ _ (cQ c.o.symm) k
   ·have c:=ae (show nO L f g=j by rw[d.o,if_neg (by omega)]);go_wp2_with fail;exact m.o _ _ (cQ c.o.symm) k
  ·have c:=ae (show nO L f g=j by rw[d.o,if_neg (by omega)]);go_wp2_with fail;exact m.o _ _ (cQ c.o.symm) k
end
section
attribute [local irreducible] au ax aQ wpQuiet
variable {R:Ending→World→Prop} {w:World}
theorem zJ:(Tryz.prog.info? 193).map (fun i=>(i.zero,i.size,i.bytes))=some (some (.agg #[IU,IU]),2,16):=by kernel_rfl
def dz (l:List (Int×Int)):List Value:=l.flatMap fun p=>[.int .i64 p.1,.int .i64 p.2]
theorem oO (l:List (Int×Int)) (p:Int×Int):dz (l++[p])=dz l++[.int .i64 p.1,.int .i64 p.2]:=by simp[dz]
theorem kH:∀(l:List (Int×Int)) (k:Nat) (h:k<l.length),(dz l)[k*2]?=some (.int .i64 (l[k]).1)∧(dz l)[k*2+1]?=some (.int .i64 (l[k]).2)
 | [],k,h=>absurd h (Nat.not_lt_zero _)
 |p::l,0,_=>by simp[dz]
 |p::l,k+1,h=>by
  have a:=kH l k (by simpa using h);have e:dz (p::l)=[.int .i64 p.1,.int .i64 p.2]++dz l:=by simp[dz]
  rw[e,List.getElem?_append_right (by simp;omega),List.getElem?_append_right (by simp;omega)];simp only[List.length_cons,List.length_nil,List.getElem_cons_succ];rw[show(k+1)*2 -(0+1+1)=k*2 by omega,show(k+1)*2+1 -(0+1+1)=k*2+1 by omega];exact a
def OwnPairs (w:World) (B:Nat) (v:Value) (l:List (Int×Int)):Prop:=w.ownsRow B 193 2 v l.length (dz l)
theorem EG {e:TypeId} {z B n:Nat} {v:Value} {a:List Value} (h:w.ownsRow B e z v n a):n≤maxLen:=by
 rcases h.2 with⟨_,rfl⟩|⟨g,cap,b,_,_,_,h1,h2,_⟩
 ·exact Nat.zero_le _
 ·exact Nat.le_trans h1 h2
theorem OwnPairs.push {B:Nat} {v:Value} {l:List (Int×Int)} (h:OwnPairs w B v l) (t:B≤w.heap.size) (p:Int×Int) (s:l.length+1≤1000000):
 ∃g cap a,(Builtin.append_ #[256,256] 256 #[v,.slice (IQ w.heap.size 0) 1 1]).run Tryz.prog (w.alloc (Io p.1 p.2))=.ok (.slice (IQ g 0) (l.length+1) cap) a∧
  OwnPairs a B (.slice (IQ g 0) (l.length+1) cap) (l++[p])∧Keeps (fun b=>v.ownBlock≠some b) w a∧(v.ownBlock=some g∨w.heap.size≤g)∧g<a.heap.size:=by
 obtain⟨j,i,f,e,d⟩:=info_parts zJ;have o:(l.length+1)*16≤140737488355328:=by omega
 obtain⟨g,cap,a,h1,h2,r,c,q⟩:=run_append_lies (P:=Tryz.prog) _ 256 256 B 193 j _ 2 16 Tryz.underlying256 i f e d rfl (by decide) v l.length (dz l) (h.alloc (Io p.1 p.2))
  ⟨w.heap.size,0,none⟩ 1 1 [.int .i64 p.1,.int .i64 p.2] rfl (World.news_of_block (cs:=(It p.1 p.2)) (ag w (Io p.1 p.2))) (by simp;exact⟨rfl,rfl⟩) (by decide) (by unfold maxLen;omega) o (by simp;omega) (w.heap.size+1) (by simp)
 refine⟨g,cap,a,h1,?_,((af _ w).alloc _).grown r (by intro k m n;exact n.2 m),?_,q⟩
 ·unfold OwnPairs;rw[oO]
  simpa using h2
 ·rcases c with c|c
  ·exact .inl c
  ·exact .inr (by omega)
def eG {α:Type} (l:List α):List (α×Value):=l.zipIdx.map fun p=>(p.1,.int .i64 (p.2:Int))
theorem pq {α:Type} [DecidableEq α] (n:α):∀(L:List α) (i:Nat),((L.zipIdx i).map fun p=>(p.1,Value.int .i64 (p.2:Int))).lookup n=if n∈L then some (.int .i64 ((i+L.idxOf n:Nat):Int))else none
 | [],_=>by simp
 |x::L,i=>by
  by_cases h:n=x
  ·subst h;simp
  ·have h1:(n==x)=false:=by simpa using h
   have h2:(x==n)=false:=by simpa using fun e=>h e.symm
   simp only[List.zipIdx_cons,List.map_cons,List.lookup,h1,pq n L (i+1),List.mem_cons,h,false_or,List.idxOf_cons,h2];simp[Nat.add_assoc,Nat.add_comm 1]
theorem dI {α:Type} [DecidableEq α] (n:α) (L:List α):(eG L).lookup n=if n∈L then some (.int .i64 ((L.idxOf n:Nat):Int))else none:=by
 have :=pq n L 0
 simpa [eG]using this
theorem kI {α:Type} (L:List α) (n:α):eG (L++[n])=eG L++[(n,.int .i64 (L.length:Int))]:=by
 simp[eG,List.zipIdx_append]
structure MkSt (w:World) (B mb mm mt:Nat) (vl:Value) (l:List (Int×Int)) (n:Int):Prop where
 blk:w.heap[mb]?=some (.cells #[.map (some mm),vl,IL mt] 258)
 map:MapAt ig w mm (eG l)
 own:OwnPairs w B vl l
 met:MeterAt w mt n false
theorem MkSt.same {a:World} {B e d c:Nat} {b:Value} {l:List (Int×Int)} {n:Int} (h:MkSt w B e d c b l n) (k:Same w a):MkSt a B e d c b l n:=
 ⟨k.at h.blk trivial,h.map.keep k trivial,ar h.own k fun _ _=>trivial,k.at h.met trivial⟩
theorem yl (b:Bool) (a:∀e,e=.returned (IP (if b then 1 else 0))→R e w):Calls Tryz.prog 206 #[.bool b] w R:=by
 have c:=ae a;clear a
 cases b
 all_goals
  go_enter Tryz.func206,Tryz.ntmps206;go_wp2_with fail;exact c.o _ rfl
theorem wl {B m k v:Nat} {u:Value} {l:List (Int×Int)} {n:Int} (h:MkSt w B m k v u l n) (p:Int×Int) (o:p∈l)
 (q:∀e b,e=.returned (.tuple (Iz ((gF l p:Nat):Int) true))→Same w b→R e b):
 Calls Tryz.prog 205 #[.pointer (IQ m 0),ig p] w R:=by
 have D:=ae q;have H:=ae h;have j:Hid (∀b:World,Same w b→(Instr.lookup 255 (.map (some k)) (ig p) true).run Tryz.prog b=.ok (.tuple (Iz ((gF l p:Nat):Int) true)) b):=ae fun b y=>by
  have :=b8 jj Tryz.underlying255 (gB b) (h.map.keep y trivial) p;rw[dI,if_pos o]at this;exact this
 obtain⟨i,g⟩:=p;have a:=ag w (Io i g);have d:=sal w (Io i g);clear q h o;unfold ig at j⊢;simp only at j⊢;go_enter Tryz.func205,Tryz.ntmps205;go_wp2_with fail;generalize w.alloc _=G at a d⊢;have s:=ae a;have r:=ae d;have E:=ae (d.at H.o.blk trivial);clear a d;refine aq (by kernel_rfl) (by kernel_rfl) ?_
 iterate 11 (apply wpQuiet_step;intro K f;(first|(apply aA;rfl;go_simp)|(apply aJ;rfl;intro b c;have C:=ai (c.at E.o trivial) 0;have A:=ai (c.at s.o trivial) 0;have z:=ai (c.at s.o trivial) 1;have I:=j.o _ (r.o.tr c);simp only[List.getElem?_toArray,List.getElem?_cons_zero,List.getElem?_cons_succ]at C A z;go_simp;exact rfl;go_simp));refine f _ ?_;clear f K)
 apply wpQuiet_nil;intro t x;have F:=ae (D.o _ t rfl (r.o.tr x));go_wp2_with fail;exact F.o
theorem qI {B k m y:Nat} {vl:Value} {l:List (Int×Int)} {n:Int} (h:MkSt w B k m y vl l n) (p:Int×Int) (hp:p∉l) (hB:B≤w.heap.size) (hl:l.length+1≤1000000) (h0:0≤n) (hn:n≤9223372036854775807)
 (hR:∀e c If,e=.returned (.tuple (Iz l.length (decide (1≤n)&&decide (l.length+1≤400))))→(1≤n→MkSt c B k m y If (l++[p]) (n -1))→
  Keeps (fun b=>b≠k∧b≠m∧b≠y∧vl.ownBlock≠some b) w c→(∀b,If.ownBlock=some b→vl.ownBlock=some b∨w.heap.size≤b)→R e c):
 Calls Tryz.prog 205 #[.pointer (IQ k 0),ig p] w R:=by
 have HR:=ae hR;have H:=ae h;have HP:=ae hp;have Ja:=ae hl;have HN:=ae (And.intro h0 hn);have Je:=ae hB;obtain⟨N,M,rfl⟩:=av h.own;obtain⟨pp,IZ⟩:∃pp,pp=p:=⟨_,rfl⟩;have Jl:=ae IZ;obtain⟨r,q⟩:=p;have u:=ag w (Io r q);have V:=sal w (Io r q);have fd:w.heap.size<(w.alloc (Io r q)).heap.size:=by simp
 have Jk:l.length≤1000000:=by omega
 clear hR h hp hl h0 hn hB IZ;unfold ig;simp only;go_enter Tryz.func205,Tryz.ntmps205;go_wp2_with fail;obtain⟨Y,gH⟩:∃Y,Y=w.heap.size:=⟨_,rfl⟩;rw[←gH]at u⊢;generalize I6:w.alloc (Io r q)=w1 at u V fd⊢;have I5:=ae gH;have HB:=ae u;have HK:=ae V;have I9:=ae fd;have O:=H.o.same V;have HM:=ae O.blk;have HL:Hid (∀c:World,Same w1 c→(Instr.lookup 255 (.map (some m)) (Im r q) true).run Tryz.prog c=.ok (.tuple (Iz 0 false)) c):=ae fun c hk=>by
  have :=b8 jj Tryz.underlying255 (gB c) (O.map.keep hk trivial) (r,q);rw[dI,if_neg HP.o]at this;exact this
 clear u V gH fd I6;refine aq (by kernel_rfl) (by kernel_rfl) ?_
 iterate 11 (apply wpQuiet_step;intro K hK;(first|(apply aA;rfl;go_simp)|(apply aJ;rfl;intro c T;have b0:=ai (T.at HM.o trivial) 0;have c0:=ai (T.at HB.o trivial) 0;have c1:=ai (T.at HB.o trivial) 1;have hl:=HL.o _ T;simp only[List.getElem?_toArray,List.getElem?_cons_zero,List.getElem?_cons_succ]at b0 c0 c1;go_simp;exact rfl;go_simp));refine hK _ ?_;clear hK K)
 apply wpQuiet_nil;intro w2 k2;have dZ:=O.same k2;have b1:=xc1 dZ.blk 1 rfl;have Jh:=ae (k2.at HB.o trivial);have Jc:=ae (HK.o.tr k2);have I2:Hid (Y<w2.heap.size):=ae (by rw[I5.o];exact Nat.lt_of_lt_of_le I9.o k2.size);have I8:=ae dZ;clear O dZ k2;go_wp2_with fail;have kd:Same w2 w2.drew:=al (af (fun _=>True) w2);have j:=I8.o.same kd;have b3:=kd.at Jh.o trivial;clear b1;refine az (.take 0 (.take 1 (.take 2 (.take 3 (.take 4 (.take 5 (.one 6 .done))))))) (fun c=>c.heap[k]?=some (.cells #[.map (some m),.slice N l.length M,IL y] 258)∧c.heap[Y]?=(IB r q)) (by kernel_rfl) (by kernel_rfl) ⟨j.blk,b3⟩ ?_
 iterate 6 (first|(apply aF;rfl;rfl;go_simp)|(apply aD;rfl;rfl;intro c v;have b0:=ai v.1 0;have c0:=ai v.2 0;have c1:=ai v.2 1;simp only[List.getElem?_toArray,List.getElem?_cons_zero,List.getElem?_cons_succ]at b0 c0 c1;go_simp;exact rfl;go_simp))
 obtain⟨z,fu,m4,k4⟩:=aR jj Tryz.underlying255 j.map (r,q) (IP (l.length:Int)) (by rw[dI,if_neg HP.o]);rw[←kI]at m4;have J:∀{b:Nat} {cs:Array Value} {t:TypeId},w2.drew.heap[b]?=some (.cells cs t (0,0))→b≠m:=fun o e=>by
  obtain⟨es,gI,hm,_⟩:=j.map;subst e;rw[hm]at o;cases o
 have i:=k4.at j.blk (J j.blk);have b4:=k4.at b3 (J b3);have s:OwnPairs z B (.slice N l.length M) l:=ar j.own k4 fun b o=>by
  obtain⟨_,X,A⟩:=ah j.own o;exact J A
 have E:MeterAt z y n false:=k4.at j.met (J j.met);have gJ:Hid (Keeps (·≠m) w z):=ae (((Jc.o.tr kd).mono fun _ _ _=>trivial).tr k4);have I3:=ae m4;have Jj:Hid (Y<z.heap.size):=ae (Nat.lt_of_lt_of_le I2.o k4.size);unfold ig at fu;simp only at fu;clear m4 k4 J j kd;refine aP (ay rfl rfl fun K d=>?_);go_simp;refine d _ _ _ ⟨i,b4⟩ (fun _ h=>h) ?_;clear d K fu;refine aW ?_;have I1:B≤z.heap.size:=Nat.le_trans Je.o gJ.o.size;have G:Same z z.drew:=al (af (fun _=>True) z);have aL:OwnPairs z.drew B (.slice N l.length M) l:=ar s G fun _ _=>trivial;obtain⟨g,cap,C,IW,aH,k6,fw,Ji⟩:=aL.push I1 (r,q) Ja.o;have U:∀{b:Nat} {cs:Array Value} {t:TypeId},z.heap[b]?=some (.cells cs t (0,0))→t≠193→(Value.slice N l.length M).ownBlock≠some b:=fun o ht e=>by
  obtain⟨_,X,A⟩:=ah s e;rw[o]at A;simp only[Option.some.injEq,Obj.cells.injEq]at A;exact ht A.2.1
 have f:=k6.at i (U i (by decide));have D:MeterAt C y n false:=k6.at E (U E (by decide));have F:MapAt ig C m (eG (l++[(r,q)])):=(I3.o.keep G trivial).keep k6 (show(Value.slice N l.length M).ownBlock≠some m from fun e=>by
  obtain⟨_,X,A⟩:=ah s e;obtain⟨es,gI,hm,_⟩:=I3.o;rw[hm]at A;cases A)
 have Jf:Hid (∀{cs:Array Value} {t:TypeId},z.drew.heap[Y]?=some (.cells cs t (0,0))→C.heap[Y]?=some (.cells cs t (0,0))):=ae fun o=>k6.at o fun e=>by
  obtain⟨_,X,A⟩:=ah H.o.own e;have :=am A;rw[I5.o]at this;exact Nat.lt_irrefl _ this
 have Jb:Hid (Keeps (fun b=>b≠m∧(Value.slice N l.length M).ownBlock≠some b) w C):=ae (gJ.o.drew.trans k6 fun x _ hx=>⟨hx.1,hx.2⟩);have dE:=ae i;have Jg:=ae b4;have Jd:Hid (∀b,some g=some b→(Value.slice N l.length M).ownBlock=some b∨w.heap.size≤b):=ae fun b o=>by
  obtain rfl:=Option.some.inj o;rcases fw with h|h
  ·exact .inl h
  ·exact .inr (Nat.le_trans gJ.o.size h)
 have ch:g≠k:=fun e=>by
  subst e;rcases fw with h|h
  ·exact U i (by decide) h
  ·have :=am i;have h2:z.heap.size≤g:=h;omega
 have ce:y≠k:=fun e=>by
  subst e;have h1:=D;unfold MeterAt at h1;rw[f]at h1;simp at h1
 have bL:m≠k:=fun e=>by
  subst e;obtain⟨es,gI,hm,_⟩:=F;rw[f]at hm;cases hm
 have z1:=xc1 f 1 rfl;have z2:=ao f 1;have k7:Keeps (·≠k) C (C.setCell ⟨k,1,none⟩ (.slice (IQ g 0) (l.length+1) cap)):=(af (·≠k) C).setCell (fun hh=>hh.2 rfl) _;have IR:MkSt (C.setCell ⟨k,1,none⟩ (.slice (IQ g 0) (l.length+1) cap)) B k m y (.slice (IQ g 0) (l.length+1) cap) (l++[(r,q)]) n:=
  ⟨by rw[aj f];simp,F.keep k7 bL,ar aH k7 fun b o=>by(simp[Value.ownBlock]at o;subst o;exact ch),k7.at D ce⟩
 have dp:=ae IR;have I4:Hid (Keeps (fun b=>b≠k∧b≠m∧(Value.slice N l.length M).ownBlock≠some b) w (C.setCell ⟨k,1,none⟩ (.slice (IQ g 0) (l.length+1) cap))):=ae (Jb.o.trans k7 fun x _ hx=>⟨hx.2,hx.1⟩);clear IR k7 aH k6 aL s E D F i b4 U fw ch ce bL I1;go_wp2_with fail;have b5:=G.at Jg.o trivial;refine zq0 10 (.take 0 (.take 1 (.take 2 (.take 3 (.take 4 (.take 5 (.one 6 (.one 7 (.take 8 (.take 9 .last)))))))))) (fun c=>c.heap[k]?=some (.cells #[.map (some m),.slice N l.length M,IL y] 258)∧c.heap[Y]?=(IB r q)) (by kernel_rfl) (by kernel_rfl) ⟨G.at dE.o trivial,b5⟩ ?_
 iterate 6 (first|(apply aC;rfl;rfl;go_simp)|(apply aB;rfl;rfl;intro c v;have b1:=ai v.1 1;have c0:=ai v.2 0;have c1:=ai v.2 1;simp only[List.getElem?_toArray,List.getElem?_cons_zero,List.getElem?_cons_succ]at b1 c0 c1;go_simp;exact rfl;go_simp))
 have b6:C.heap[Y]?=(IB r q):=Jf.o b5;have cH:=G.at dE.o trivial;refine aI (ay rfl rfl fun K d=>?_);go_simp;refine d _ _ _ ⟨aw cH _,aw b5 _⟩ (fun _ h=>h) ?_;clear d K;refine aI (bZ _ _ _ rfl rfl rfl ?hs ?hx IW _ ⟨f,b6⟩ (fun _ h=>h) ?_)
 case hs=>rfl
 case hx=>rfl
 clear IW;go_simp
 iterate 2 (first|(apply aC;rfl;rfl;go_simp)|(apply aB;rfl;rfl;intro c v;go_simp;exact rfl;go_simp))
 refine aO rfl rfl fun K d=>?_;go_simp;refine d _ _ (aG ?_);clear d K z1 z2 b6 b5 cH f;generalize C.setCell ⟨k,1,none⟩ (.slice (IQ g 0) (l.length+1) cap)=w7 at dp I4⊢;go_wp2_with fail;have IS:Same w7 w7.drew:=al (af (fun _=>True) w7);have a:=dp.o.same IS;refine az (.take 0 (.take 1 (.take 2 (.take 3 (.take 4 (.one 5 (.take 6 (.take 7 (.take 8 (.take 9 (.take 10 (.take 11 (.take 12 (.take 13 (.take 14 (.take 15 .done)))))))))))))))) (fun c=>c.heap[k]?=some (.cells #[.map (some m),.slice (IQ g 0) (l.length+1) cap,IL y] 258)) (by kernel_rfl) (by kernel_rfl) a.blk ?_
 iterate 5 (first|(apply aF;rfl;rfl;go_simp)|(apply aD;rfl;rfl;intro c v;have b1:=ai v 1;have b2:=ai v 2;simp only[List.getElem?_toArray,List.getElem?_cons_zero,List.getElem?_cons_succ]at b1 b2;go_simp;exact rfl;go_simp))
 refine aP (ay rfl rfl fun K d=>?_);go_simp;refine Bq 1 a.met (by decide) HN.o.1 HN.o.2 ?_;rintro e w9 rfl m9 k9;have L:k≠y:=fun e=>by
  subst e;have h1:=a.met;unfold MeterAt at h1;rw[a.blk]at h1;simp at h1
 have I:m≠y:=fun e=>by
  subst e;have h1:=a.met;unfold MeterAt at h1;obtain⟨es,gI,hm,_⟩:=a.map;rw[hm]at h1;cases h1
 have cE:=k9.at a.blk L;have Z:OwnPairs w9 B (.slice (IQ g 0) (l.length+1) cap) (l++[(r,q)]):=ar a.own k9 fun b o e=>by
  subst e;obtain⟨_,X,A⟩:=ah a.own o;have h1:=a.met;unfold MeterAt at h1;rw[A]at h1;simp at h1
 have a8:=a.map.keep k9 I;have I0:Keeps (fun b=>b≠k∧b≠m∧b≠y∧(Value.slice N l.length M).ownBlock≠some b) w w9:=(I4.o.trans IS fun x _ hx=>⟨⟨hx.1,hx.2.1,hx.2.2.2⟩,trivial⟩).trans k9 fun x _ hx=>⟨hx,hx.2.2.1⟩;have IT:fg n 1 false=decide (1≤n):=by simp[fg]
 rw[IT];have HF:Hid (∀bb,bb=(decide (1≤n)&&decide (l.length+1≤400))→R (.returned (.tuple (Iz l.length bb))) w9):=ae fun bb I7=>by
  subst I7;refine HR.o _ w9 _ rfl (fun h1=>⟨cE,a8,Z,?_⟩) I0 (fun b o=>Jd.o b (by simpa [Value.ownBlock]using o));rw[show cY n 1 false=n -1 by unfold cY;rw[if_neg (by simp),if_pos h1],show dy n 1 false=false by simp[dy];omega]at m9;exact m9
 have B9:=ae cE;clear m9 k9 a8 Z I0 L I a IT;refine d _ _ _ B9.o (fun _ h=>h) ?_;clear d K;by_cases h1:1≤n
 ·have hd:decide (1≤n)=true:=decide_eq_true h1;rw[hd]at HF⊢;clear hd
  iterate 10 (first|(apply aF;rfl;rfl;go_simp)|(apply aD;rfl;rfl;intro c v;have b1:=ai v 1;simp only[List.getElem?_toArray,List.getElem?_cons_zero,List.getElem?_cons_succ]at b1;go_simp;exact rfl;go_simp))
  refine aW ?_;go_wp2_with fail;exact HF.o _ (by simp;omega)
 ·have hd:decide (1≤n)=false:=decide_eq_false h1;rw[hd]at HF⊢;clear hd
  iterate 10 (first|(apply aF;rfl;rfl;go_simp)|(apply aD;rfl;rfl;intro c v;go_simp;exact rfl;go_simp))
  refine aW ?_;go_wp2_with fail;exact HF.o _ (by simp)
end
section
variable {T:Nat} {L:List Nd}
def PairAns (L:List Nd) (G:Int→Int→Option Int) (f g:Nat) (r:Int):Prop:=
 (∃j:Nat,r=(j:Int)∧j<L.length∧(∀t,From L f t→From L g t→From L j t)∧∀c,G (val L f c) (val L g c)=some (val L j c))∨(r=-1∧∃c,G (val L f c) (val L g c)=none)
theorem From.back {a:List Nd} {i t:Nat} (h:From a i t) (c:L<+:a):From L i t:=fun u b d e=>h u b d (ft c e)
theorem PairAns.prefx {k:List Nd} {G:Int→Int→Option Int} {f g:Nat} {r:Int} (h:PairAns L G f g r) (hw:WF T L) (a:WF T k) (b:L<+:k) (m:f<L.length) (l:g<L.length):PairAns k G f g r:=by
 rcases h with⟨j,e,d,i,hv⟩|⟨e,c,n⟩
 ·refine .inl ⟨j,e,Nat.lt_of_lt_of_le d b.length_le,fun t h1 h2=>(i t (h1.back b) (h2.back b)).prefx b d,fun c=>?_⟩;rw[bI hw a b c f m,bI hw a b c g l,bI hw a b c j d,hv]
 ·refine .inr ⟨e,c,?_⟩;rw[bI hw a b c f m,bI hw a b c g l,n]
def PMemo (L:List Nd) (G:Int→Int→Option Int) (A:List ((Int×Int)×Value)):Prop:=
 ∀p∈A,∃(f g:Nat) (r:Int),p=(((f:Int),(g:Int)),Value.int .i64 r)∧f<L.length∧g<L.length∧PairAns L G f g r
theorem PMemo.prefx {d:List Nd} {G:Int→Int→Option Int} {A:List ((Int×Int)×Value)} (h:PMemo L G A) (hw:WF T L) (a:WF T d) (c:L<+:d):PMemo d G A:=fun p b=>by
 obtain⟨f,g,r,e,j,i,k⟩:=h p b;exact⟨f,g,r,e,Nat.lt_of_lt_of_le j c.length_le,Nat.lt_of_lt_of_le i c.length_le,k.prefx hw a c j i⟩
theorem qK (hw:WF T L) {f u:Nat} (o:f<L.length) (m:From L f u):
 ∃a b:Nat,(if bh L f=(u:Int)then(jv L f).1 else(f:Int))=(a:Int)∧(if bh L f=(u:Int)then(jv L f).2 else(f:Int))=(b:Int)∧a<L.length∧b<L.length∧From L a (u+1)∧From L b (u+1)∧
  a≤f∧b≤f∧(bh L f=(u:Int)→a<f∧b<f)∧∀c,val L f c=val L (if c.testBit u then b else a) c:=by
 obtain⟨n,j⟩:∃n,L[f]?=some n:=⟨_,List.getElem?_eq_getElem o⟩;have d:=bP j;by_cases i:bh L f=(u:Int)
 ·cases n with
  |leaf v=>simp only[Nd.track]at d;omega
  |fork t k l=>
   simp only[Nd.track]at d;obtain rfl:t=u:=by omega
   have r:=hw.ok f _ j;obtain⟨_,x,s,_,q,p⟩:=r;rw[if_pos i,if_pos i,Aq j];exact⟨k,l,rfl,rfl,q.1,p.1,q.from,p.from,by omega,by omega,fun _=>⟨x,s⟩,fun c=>co hw j⟩
 ·rw[if_neg i,if_neg i];have g:From L f (u+1):=by
   intro t k l e;have h1:=m t k l e;rw[j]at e;obtain rfl:=Option.some.inj e;simp only[Nd.track]at d;rw[d]at i;have :t≠u:=fun h=>i (by rw[h]);omega
  exact⟨f,f,rfl,rfl,o,o,g,g,Nat.le_refl _,Nat.le_refl _,fun h=>absurd h i,fun c=>by split<;>rfl⟩
theorem vU {f g:Nat} (d:f<L.length) (c:g<L.length) (h:nO L f g<0):∃x y,L[f]?=some (.leaf x)∧L[g]?=some (.leaf y):=by
 obtain⟨n,b⟩:∃n,L[f]?=some n:=⟨_,List.getElem?_eq_getElem d⟩;obtain⟨m,a⟩:∃m,L[g]?=some m:=⟨_,List.getElem?_eq_getElem c⟩;unfold nO at h
 cases n with
 |leaf x=>
  have h1:bh L f=-1:=bP b
  cases m with
  |leaf y=>exact⟨x,y,b,a⟩
  |fork t lo hi=>
   have h2:bh L g=(t:Int):=bP a;rw[h1,h2]at h
   split at h<;>omega
 |fork u lo hi=>
  have h1:bh L f=(u:Int):=bP b
  cases m with
  |leaf y=>
   have h2:bh L g=-1:=bP a;rw[h1,h2]at h
   split at h<;>omega
  |fork t lo' hi'=>
   have h2:bh L g=(t:Int):=bP a;rw[h1,h2]at h
   split at h<;>omega
theorem Bi {f g t0:Nat} (z:f<L.length) (v:g<L.length) (o:From L f t0) (l:From L g t0) (h:¬nO L f g<0):
 ∃u:Nat,nO L f g=(u:Int)∧t0≤u∧From L f u∧From L g u∧(bh L f=(u:Int)∨bh L g=(u:Int)):=by
 obtain⟨n,c⟩:∃n,L[f]?=some n:=⟨_,List.getElem?_eq_getElem z⟩;obtain⟨m,a⟩:∃m,L[g]?=some m:=⟨_,List.getElem?_eq_getElem v⟩;have j:∀{i:Nat} {n:Nd} {u:Nat},L[i]?=some n→(∀t b d,n=.fork t b d→u≤t)→From L i u:=fun d s t b k e=>by
  rw[d]at e;exact s t b k (Option.some.inj e)
 unfold nO at h⊢
 cases n with
 |leaf x=>
  have h1:bh L f=-1:=bP c
  cases m with
  |leaf y=>
   have h2:bh L g=-1:=bP a;rw[h1,h2]at h;exact absurd (by split<;>omega) h
  |fork t b d=>
   have h2:bh L g=(t:Int):=bP a;rw[h1,h2];rw[if_pos (.inl (by omega))];exact⟨t,rfl,l t b d a,j c (by intro _ _ _ e;cases e),j a (by intro _ _ _ e;cases e;omega),.inr rfl⟩
 |fork u b d=>
  have h1:bh L f=(u:Int):=bP c
  cases m with
  |leaf y=>
   have h2:bh L g=-1:=bP a;rw[h1,h2];rw[if_neg (by omega)];exact⟨u,rfl,o u b d c,j c (by intro _ _ _ e;cases e;omega),j a (by intro _ _ _ e;cases e),.inl rfl⟩
  |fork t lo' k=>
   have h2:bh L g=(t:Int):=bP a;rw[h1,h2];have p:=o u b d c;have q:=l t lo' k a;by_cases r:t<u
   ·rw[if_pos (.inr ⟨by omega,by omega⟩)];exact⟨t,rfl,q,j c (by intro _ _ _ e;cases e;omega),j a (by intro _ _ _ e;cases e;omega),.inr rfl⟩
   ·rw[if_neg (by omega)];exact⟨u,rfl,p,j c (by intro _ _ _ e;cases e;omega),j a (by intro _ _ _ e;cases e;omega),.inl rfl⟩
theorem zK {G:Int→Int→Option Int} (hw:WF T L) {f g u a b c d:Nat} (Y:u<T) (F:∀x,val L f x=val L (if x.testBit u then b else a) x) (C:∀x,val L g x=val L (if x.testBit u then d else c) x)
 (D:bh L f=(u:Int)∨bh L g=(u:Int)) (I:f<L.length) (H:g<L.length)
 (ha:From L a (u+1)) (hb:From L b (u+1)) (hc:From L c (u+1)) (hd:From L d (u+1)) {l j:Nat}
 (h1:PairAns L G a c l) (h2:PairAns L G b d j):
 ∃k,Made T L (mkA T L u l j) k∧(WF T (mkA T L u l j).1→PairAns (mkA T L u l j).1 G f g k):=by
 rcases h1 with⟨z,M,X,f1,O⟩|⟨M,_⟩
 case inr=>omega
 rcases h2 with⟨y,J,V,f2,N⟩|⟨J,_⟩
 case inr=>omega
 obtain rfl:l=z:=by exact_mod_cast M
 obtain rfl:j=y:=by exact_mod_cast J
 have U:Under L l u:=(f1 (u+1) ha hc).under X;have u2:Under L j u:=(f2 (u+1) hb hd).under V;obtain⟨k,m,E,hv⟩:=ug hw Y U u2;refine⟨k,m,fun q=>.inl ⟨k,rfl,m.lt,fun t B A=>?_,fun x=>?_⟩⟩
 ·have Z:t≤u:=by
   rcases D with h|h
   ·obtain⟨n,r⟩:∃n,L[f]?=some n:=⟨_,List.getElem?_eq_getElem I⟩;have i:=bP r
    cases n with
    |leaf v=>simp only[Nd.track]at i;omega
    |fork o p s=>
     simp only[Nd.track]at i;have :=B o p s (ft m.pre r);omega
   ·obtain⟨n,r⟩:∃n,L[g]?=some n:=⟨_,List.getElem?_eq_getElem H⟩;have i:=bP r
    cases n with
    |leaf v=>simp only[Nd.track]at i;omega
    |fork o p s=>
     simp only[Nd.track]at i;have :=A o p s (ft m.pre r);omega
  intro o p s e;have :=E o p s e;omega
 ·rw[hv,bI hw q m.pre x f I,bI hw q m.pre x g H,F,C]
  split
  ·exact N x
  ·exact O x
theorem zH {G:Int→Int→Option Int} (hw:WF T L) {f g u a b c d:Nat} (i:∀x,val L f x=val L (if x.testBit u then b else a) x) (e:∀x,val L g x=val L (if x.testBit u then d else c) x)
 (m:From L a (u+1)) (l:From L b (u+1)) (k:From L c (u+1)) (j:From L d (u+1))
 (h:(∃x,G (val L a x) (val L c x)=none)∨∃x,G (val L b x) (val L d x)=none):PairAns L G f g (-1):=by
 rcases h with⟨x,hx⟩|⟨x,hx⟩
 ·refine .inr ⟨rfl,ie x u false,?_⟩;rw[i,e,fy];simp only[Bool.false_eq_true,if_false];rw[bY hw a _ _ _ m (bM x u false),bY hw c _ _ _ k (bM x u false),hx]
 ·refine .inr ⟨rfl,ie x u true,?_⟩;rw[i,e,fy];simp only[if_true];rw[bY hw b _ _ _ l (bM x u true),bY hw d _ _ _ j (bM x u true),hx]
end
section
variable {w:World} {a T m:Nat} {L:List Nd} {G:Int→Int→Option Int} {A:List ((Int×Int)×Value)} {K:World→Prop}
structure PS (K:World→Prop) (G:Int→Int→Option Int) (m a T:Nat) (w:World) (L:List Nd) (A:List ((Int×Int)×Value)):Prop where
 st:StoreAt w a T L
 map:MapAt ig w m A
 off:¬de w a m
 memo:PMemo L G A
 hold:K w
structure PStep (a m:Nat) (w w':World):Prop where
 foot:∀b,de w' a b→de w a b∨w.heap.size≤b
 keeps:Keeps (fun b=>¬de w a b∧b≠m) w w'
theorem PStep.refl (a m:Nat) (w:World):PStep a m w w:=⟨fun _ h=>.inl h,af _ _⟩
theorem PStep.trans {d c:World} (h:PStep a m w d) (k:PStep a m d c):PStep a m w c:=by
 refine⟨fun b f=>?_,h.keeps.trans k.keeps fun x hx hs=>⟨hs,fun e=>(h.foot x e).elim hs.1 (by omega),hs.2⟩⟩;rcases k.foot b f with h1|h1
 ·exact h.foot b h1
 ·exact .inr (Nat.le_trans h.keeps.size h1)
theorem PStep.grew {b:World} (g:Grew a w b):PStep a m w b:=⟨g.foot,g.keeps.mono fun _ _ h=>h.1⟩
theorem PS.same_step {b:World} (h:PS K G m a T w L A) (k:Same w b):PStep a m w b:=PStep.grew (cD h.st k)
def vL (K:World→Prop) (a m:Nat):Prop:=∀w w',K w→PStep a m w w'→K w'
structure Stand (a m:Nat) (bs:List (Nat×Array Value×TypeId)) (tv:Value) (tl:List Int) (w:World):Prop where
 cells:∀p∈bs,w.heap[p.1]?=some (.cells p.2.1 p.2.2 (0,0))∧¬de w a p.1∧p.1≠m
 ints:IntsAt w tv tl
 off:∀b,live tv=some b→¬de w a b∧b≠m
theorem PStep.off {c:World} (k:PStep a m w c) {b:Nat} (e:b<w.heap.size) (h:¬de w a b):¬de c a b:=fun d=>(k.foot b d).elim h (by omega)
theorem Stand.safe (bs:List (Nat×Array Value×TypeId)) (e:Value) (f:List Int):vL (Stand a m bs e f) a m:=fun _ _ h k=>
 ⟨fun p c=>⟨k.keeps.at (h.cells p c).1 (h.cells p c).2,k.off (am (h.cells p c).1) (h.cells p c).2.1,(h.cells p c).2.2⟩,
  h.ints.keep k.keeps h.off,fun b d=>⟨k.off (h.ints.lt b d) (h.off b d).1,(h.off b d).2⟩⟩
theorem PS.same {b:World} (h:PS K G m a T w L A) (hs:vL K a m) (k:Same w b):PS K G m a T b L A:=by
 obtain⟨v,e,c,_⟩:=h.st.st;exact⟨h.st.same k,h.map.keep k trivial,fun d=>h.off ((dO ((k.at c trivial).trans c.symm) m).1 d),h.memo,hs _ _ h.hold (h.same_step k)⟩
theorem PS.grew {b:World} {d:List Nd} (h:PS K G m a T w L A) (hs:vL K a m) (g:Grew a w b) (e:StoreAt b a T d) (f:L<+:d):PS K G m a T b d A:=by
 have i:=h.map;obtain⟨l,k,c,_⟩:=i;exact⟨e,h.map.keep g.keeps h.off,fun j=>(g.foot m j).elim h.off (by have :=am c;omega),h.memo.prefx h.st.wf e.wf f,hs _ _ h.hold (PStep.grew g)⟩
theorem PS.update (h:PS K G m a T w L A) (hs:vL K a m) {f g:Nat} {r:Int} (y:f<L.length) (x:g<L.length) (t:PairAns L G f g r):
 ∃i A',(Instr.mapUpdate 255 (.map (some m)) (Im f g) (IP r)).run Tryz.prog w=.ok () i∧PS K G m a T i L A'∧PStep a m w i:=by
 obtain⟨e,z,j,s,q,c⟩:=oF jj Tryz.underlying255 h.map ((f:Int),(g:Int)) (IP r);have d:∀b,de e a b↔de w a b:=by
  obtain⟨v,B,o,_⟩:=h.st.st;exact dO ((c.at o (by rintro rfl;exact h.off (.inl rfl))).trans o.symm)
 have n:PStep a m w e:=⟨fun b l=>.inl ((d b).1 l),c.mono fun _ _ h=>h.2⟩;refine⟨e,z,j,⟨h.st.keep c (fun b l=>by rintro rfl;exact h.off l),s,fun u=>h.off ((d m).1 u),fun p k=>?_,hs _ _ h.hold n⟩,n⟩;rcases q p k with h1|h1
 ·exact h.memo p h1
 ·exact⟨f,g,r,h1,y,x,t⟩
end
section
variable {a T m mb F:Nat} {caps:Array Value} {G:Int→Int→Option Int} {K:World→Prop}
def tu (G:Int→Int→Option Int) (x y:Int) (L':List Nd) (r:Int):Prop:=
 (∃v,G x y=some v∧∃k:Nat,r=(k:Int)∧L'[k]?=some (.leaf v))∨(G x y=none∧r=-1)
def xX (K:World→Prop) (G:Int→Int→Option Int) (a T F:Nat) (caps:Array Value):Prop:=
 ∀(w:World) (L:List Nd) (x y:Int) (R:Ending→World→Prop),StoreAt w a T L→K w→dv x=true→dv y=true→L.length<1099511627776→(∀w',Grew a w w'→K w')→
  (∀e w' L' r,e=.returned (IP r)→StoreAt w' a T L'→Grew a w w'→L<+:L'→L'.length≤L.length+1→tu G x y L' r→R e w')→
  Calls Tryz.prog F ((It x y)++caps) w R
theorem px {L:List Nd} {i:Nat} {v:Int} (h:WF T L) (b:L[i]?=some (.leaf v)):dv v=true:=by
 have h1:0≤v∧v≤1099511627776:=h.ok i _ b
 simpa [dv]using h1
theorem vE {L:List Nd} {i:Nat} {v:Int} (b:L[i]?=some (.leaf v)):atA T L i 0=v:=by
 have h1:=(List.getElem?_eq_some_iff.1 b).1;have h2:(0:Int)<2^T:=Int.pow_pos (by decide);unfold atA;rw[if_pos ⟨by omega,by omega,by omega,h2⟩,Int.toNat_natCast];exact bR b
theorem zI {L j:List Nd} {f g:Nat} {x y r:Int} (o:L[f]?=some (.leaf x)) (n:L[g]?=some (.leaf y)) (h:tu G x y j r) (l:L<+:j):PairAns j G f g r:=by
 have d:=ft l o;have b:=ft l n;rcases h with⟨v,hv,k,rfl,i⟩|⟨hv,rfl⟩
 ·refine .inl ⟨k,rfl,(List.getElem?_eq_some_iff.1 i).1,fun t _ _=>(by intro u p q e;rw[i]at e;cases e),fun c=>?_⟩;rw[bR d,bR b,bR i,hv]
 ·refine .inr ⟨rfl,0,?_⟩;rw[bR d,bR b,hv]
theorem dS {w:World} {b:Nat} {x y z:Value} {t:TypeId} (h:w.heap[b]?=some (.cells #[x,y,z] t (0,0))):w.cell? ⟨b,0,none⟩=some x∧w.cell? ⟨b,1,none⟩=some y∧w.cell? ⟨b,2,none⟩=some z:=by
 refine⟨?_,?_,?_⟩<;>simp[ai h]
def MkS (mb:Nat) (x y z:Value) (w:World):Prop:=w.heap[mb]?=some (.cells #[x,y,z] 310)
theorem tA {L e:List Nd} {f u a b:Nat} (hw:WF T L) (d:WF T e) (g:L<+:e) (i:f<L.length) (k:a<L.length) (j:b<L.length)
 (h:∀c,val L f c=val L (if c.testBit u then b else a) c):∀c,val e f c=val e (if c.testBit u then b else a) c:=fun c=>by
 rw[bI hw d g c f i,h]
 split
 ·rw[bI hw d g c b j]
 ·rw[bI hw d g c a k]
theorem kD {L c:List Nd} {f:Nat} (d:L<+:c) (e:f<L.length):bh c f=bh L f:=by
 have b:=List.getElem?_eq_getElem e;rw[bP b,bP (ft d b)]
theorem qy {L:List Nd} {f u:Nat} (hw:WF T L) (e:f<L.length) (h:bh L f=(u:Int)):u<T:=by
 obtain⟨n,c⟩:∃n,L[f]?=some n:=⟨_,List.getElem?_eq_getElem e⟩;have b:=bP c;have d:=hw.ok f _ c
 cases n with
 |leaf v=>rw[h]at b;simp only[Nd.track]at b;omega
 |fork t lo hi=>rw[h]at b;simp only[Nd.track]at b;have :=d.1;omega
theorem BK (hs:vL K a m) (hL:xX K G a T F caps) (hM:∀w,K w→MkS mb (IL a) (.func (.func F) #[] caps) (.map (some m)) w)
 (Jd:∀fd w,(callFunc F fd).run Tryz.prog w=.ok (.enter F fd) w):
 ∀(n f g t0:Nat) (L:List Nd) (A:List ((Int×Int)×Value)) (w:World) (R:Ending→World→Prop),n=f+g→PS K G m a T w L A→f<L.length→g<L.length→From L f t0→From L g t0→t0≤T→
  L.length+2^(T -t0+1)≤1099511627776→
  (∀e w' r L' A',e=.returned (IP r)→PS K G m a T w' L' A'→L<+:L'→PairAns L' G f g r→L'.length+1≤L.length+2^(T -t0+1)→PStep a m w w'→R e w')→
  Calls Tryz.prog 274 (Il (IL mb) f g) w R:=by
 intro n
 induction n using Nat.strongRecOn with
 |ind n ih=>
  intro f g t0 L A w R hn d hf hg Jn Jm JE hb hR;subst hn;have HR:=ae hR;have IH:=ae ih;have Jw:=ae hL;have Jz:=ae Jd;have HM:=ae hM;have HS:=ae hs;clear hR ih hL Jd hM hs;have JI:2≤2^(T -t0+1):=by rw[Nat.pow_succ];have :=Nat.one_le_two_pow (n:=T -t0);omega
  have c:=d.st;obtain⟨q0,q1,q2⟩:=dS (HM.o _ d.hold);have hl:=b8 jj Tryz.underlying255 (gB w) d.map ((f:Int),(g:Int));unfold ig at hl;simp only[]at hl
  cases X:(@List.lookup (Int×Int) Value instBEqOfDecidableEq ((f:Int),(g:Int)) A)with
  |some v=>
   obtain⟨f',g',r,e,JH,JG,I4⟩:=d.memo _ (wW X);simp only[Prod.mk.injEq,Int.ofNat_inj]at e;obtain⟨⟨rfl,rfl⟩,rfl⟩:=e;rw[X]at hl;simp only[Option.getD_some,Option.isSome_some]at hl;have HK:=ae (HR.o _ w r L A rfl d List.prefix_rfl I4 (by omega) (PStep.refl _ _ _));clear X I4 d c;go_enter Tryz.func274,Tryz.ntmps274;go_wp2_with fail;exact HK.o
  |none=>
   rw[X]at hl;simp only[Option.getD_none,Option.isSome_none]at hl;clear X;by_cases O:nO L f g<0
   ·obtain⟨x,y,hx,hy⟩:=vU hf hg O;have Js:=vE (T:=T) hx;have Jr:=vE (T:=T) hy;have vx:=px c.wf hx;have vy:=px c.wf hy;have Je:=ae (And.intro hx hy);have Y:=ae d;clear hx hy d;go_enter Tryz.func274,Tryz.ntmps274;go_wp2_with fail;refine ym c q0 f g ?_;rintro e w1 rfl k1;have C:=ae (Y.o.same HS.o k1);have IS:=ae k1;have b0:=HM.o _ C.o.hold;obtain⟨r0,r1,r2⟩:=dS b0;have JA:=ae b0;clear hl q0 q1 q2 k1 c b0;go_wp2_with fail;have b0:=JA.o;have kd:Same w1 w1.drew:=al (af (fun _=>True) w1);have dE:MkS mb (IL a) (.func (.func F) #[] caps) (.map (some m)) w1.drew:=kd.at b0 trivial;have D:=ae dE;refine az (.take 0 (.take 1 (.take 2 (.take 3 (.take 4 (.take 5 (.take 7 (.take 8 (.one 6 (.one 9 (.one 10 (.take 11 .done)))))))))))) (MkS mb (IL a) (.func (.func F) #[] caps) (.map (some m))) (by kernel_rfl) (by kernel_rfl) dE ?_
    iterate 8
     (apply aD
      case ho=>rfl
      case hw=>rfl
      case hv=>
       intro w' IZ;obtain⟨z0,z1,z2⟩:=dS IZ;go_simp;exact rfl
      go_simp)
    refine aP (ay rfl rfl fun K o=>?_);go_simp;refine qN (C.o.st.same kd) (dS D.o).1 f ?_;rintro e w2 rfl k2;rw[Js];refine o (MkS mb (IL a) (.func (.func F) #[] caps) (.map (some m))) _ _ (k2.at D.o trivial) (fun _ h=>h) ?_;clear o K;have a8:=kd.tr k2;refine aP (ay rfl rfl fun K o=>?_);go_simp;refine qN (C.o.st.same a8) (dS (k2.at D.o trivial)).1 g ?_;rintro e w3 rfl k3;rw[Jr];refine o (MkS mb (IL a) (.func (.func F) #[] caps) (.map (some m))) _ _ ((k2.tr k3).at D.o trivial) (fun _ h=>h) ?_;clear o K;have IW:=C.o.same HS.o (a8.tr k3);have B:=ae IW;have dp:=ae (IS.o.tr (a8.tr k3));clear IW k2 k3 a8 kd;refine aP (ay rfl rfl fun K o=>?_);go_simp;rw[Jz.o];refine Jw.o _ L x y _ B.o.st B.o.hold vx vy (by omega) (fun w' g=>HS.o _ _ B.o.hold (PStep.grew g)) ?_;rintro e w4 L4 r4 rfl s4 g4 N n4 a4;have q:=B.o.grew HS.o g4 s4 N;refine o (MkS mb (IL a) (.func (.func F) #[] caps) (.map (some m))) _ _ (HM.o _ q.hold) (fun _ h=>h) ?_;clear o K;have gH:=zI Je.o.1 Je.o.2 a4 N;obtain⟨w5,A5,JF,b,IT⟩:=q.update HS.o (Nat.lt_of_lt_of_le hf N.length_le) (Nat.lt_of_lt_of_le hg N.length_le) gH;have i:=(PStep.grew (m:=m) (cD Y.o.st dp.o)).trans ((PStep.grew g4).trans IT);obtain⟨r0,r1,r2⟩:=dS (HM.o _ q.hold);have HF:=ae (HR.o _ w5 r4 L4 A5 rfl b N gH (by omega) i);clear s4 g4 N n4 a4 q gH b IT i;apply aD
    case ho=>rfl
    case hw=>rfl
    case hv=>intro w' IZ;go_simp;exact rfl
    go_simp;refine aW ?_;go_wp2_with fail;exact HF.o
   ·obtain⟨u,hu,JD,I7,I5,V⟩:=Bi hf hg Jn Jm O;have H:=c.wf;have Jj:u<T:=V.elim (qy H hf) (qy H hg);obtain⟨a1,b1,ea,eb,ha,bL,Jb,Ja,la,lb,hs1,I1⟩:=qK H hf I7;obtain⟨c1,d1,ec,ed,hc,hd,I9,I8,lc,ld,gI,I0⟩:=qK H hg I5;have I3:a1+c1<f+g:=by
     rcases V with h|h
     ·have :=(hs1 h).1;omega
     ·have :=(gI h).1;omega
    have I2:b1+d1<f+g:=by
     rcases V with h|h
     ·have :=(hs1 h).2;omega
     ·have :=(gI h).2;omega
    have hq:2^(T -(u+1)+1)+2^(T -(u+1)+1)≤2^(T -t0+1):=by
     have :2^(T -(u+1)+1)+2^(T -(u+1)+1)=2^(T -u+1):=by
      rw[show T -u+1=(T -(u+1)+1)+1 by omega,Nat.pow_succ];omega
     rw[this];exact Nat.pow_le_pow_right (by decide) (by omega)
    have HW:=ae H;have Y:=ae d;have p:=ae (And.intro (And.intro Jb Ja) (And.intro I9 I8));have Jf:=ae (And.intro I1 I0);have HQ:=ae hq;have Jv:=ae V;clear d Jb Ja I9 I8 I1 I0 hs1 gI H V O I7 I5 hq;go_enter Tryz.func274,Tryz.ntmps274;go_wp2_with fail;refine ym c q0 f g ?_;rw[hu];rintro e w1 rfl k1;have q0:=ak k1 q0 trivial;have aL:=c.same k1;have IS:=ae k1;clear k1 hl q1 q2;go_wp2_with fail;refine qO aL q0 f u ?_;rw[ea,eb];rintro e w2 rfl k2;have q0:=ak k2 q0 trivial;have fw:=aL.same k2;have Jy:=ae (IS.o.tr k2);clear k2;go_wp2_with fail;refine qO fw q0 g u ?_;rw[ec,ed];rintro e w3 rfl k3;have dp:=ae (Jy.o.tr k3);clear k3;clear q0;go_wp2_with fail;refine IH.o _ I3 a1 c1 (u+1) L A _ _ rfl (Y.o.same HS.o dp.o) ha hc p.o.1.1 p.o.2.1 (by omega) (by have :=HQ.o;omega) ?_;rintro e w4 r4 L4 A4 rfl q N x4 n4 t4;have Z:=ae N;have Jt:=ae x4;have fu:=ae q;have Ju:=ae t4;have Jq:b1<L4.length:=Nat.lt_of_lt_of_le bL N.length_le;have Jo:d1<L4.length:=Nat.lt_of_lt_of_le hd N.length_le;have N4:=ae n4;clear N x4 q t4 n4;go_wp2_with fail;refine IH.o _ I2 b1 d1 (u+1) L4 A4 _ _ rfl fu.o Jq Jo (p.o.1.2.prefx Z.o bL) (p.o.2.2.prefx Z.o hd) (by omega) (by have :=HQ.o;have :=N4.o;omega) ?_;rintro e w5 r5 J A5 rfl b p5 x5 n5 t5;have I:=Z.o.trans p5;have s:=b.st.wf;have aH:PairAns J G a1 c1 r4:=Jt.o.prefx fu.o.st.wf s p5 (Nat.lt_of_lt_of_le ha Z.o.length_le) (Nat.lt_of_lt_of_le hc Z.o.length_le);have z:=tA HW.o s I hf ha bL Jf.o.1;have t:=tA HW.o s I hg hc hd Jf.o.2;have Jc:f<J.length:=Nat.lt_of_lt_of_le hf I.length_le;have I6:g<J.length:=Nat.lt_of_lt_of_le hg I.length_le;have cH:=p.o.1.1.prefx I ha;have cE:=p.o.1.2.prefx I bL;have ch:=p.o.2.1.prefx I hc;have ce:=p.o.2.2.prefx I hd;have U:bh J f=(u:Int)∨bh J g=(u:Int):=Jv.o.imp (fun h=>by rw[kD I hf,h]) (fun h=>by rw[kD I hg,h]);have i:=(PStep.grew (m:=m) (cD Y.o.st dp.o)).trans (Ju.o.trans t5);have Jl:J.length+2≤L.length+2^(T -t0+1):=by have :=HQ.o;have :=N4.o;omega
    obtain⟨r0,r1,r2⟩:=dS (HM.o _ b.hold);have fin:∀w6 L6 r,StoreAt w6 a T L6→PS K G m a T w6 L6 A5→J<+:L6→L6.length≤J.length+1→PairAns L6 G f g r→PStep a m w5 w6→
     ∃w7,(Instr.mapUpdate 255 (.map (some m)) (Im f g) (IP r)).run Tryz.prog w6=.ok () w7∧R (.returned (IP r)) w7:=fun w6 L6 r s6 M p6 n6 x6 t6=>by
     obtain⟨w7,A7,gJ,Ji,t7⟩:=M.update HS.o (Nat.lt_of_lt_of_le Jc p6.length_le) (Nat.lt_of_lt_of_le I6 p6.length_le) x6;exact⟨w7,gJ,HR.o _ _ r L6 A7 rfl Ji (I.trans p6) x6 (by omega) (i.trans (t6.trans t7))⟩
    by_cases If:r4<0∨r5<0
    ·have hx:PairAns J G f g (-1):=by
      refine zH s z t cH cE ch ce ?_;rcases If with h|h
      ·rcases aH with⟨j,rfl,_⟩|⟨_,h2⟩
       ·omega
       ·exact .inl h2
      ·rcases x5 with⟨j,rfl,_⟩|⟨_,h2⟩
       ·omega
       ·exact .inr h2
     obtain⟨w7,gJ,l⟩:=fin w5 J (-1) b.st b List.prefix_rfl (by omega) hx (PStep.refl _ _ _);have E:=ae l
     clear fin l hx b p5 x5 n5 t5 I s aH z t cH cE ch ce U i aL fw c;by_cases h4:r4<0
     ·go_wp2_with fail;exact E.o
     ·have h5:r5<0:=If.resolve_left h4;go_wp2_with fail;exact E.o
    ·obtain⟨j4,rfl⟩:=Int.eq_ofNat_of_zero_le (show 0≤r4 by omega);obtain⟨j5,rfl⟩:=Int.eq_ofNat_of_zero_le (show 0≤r5 by omega);obtain⟨k,hk,dZ⟩:=zK (T:=T) s Jj z t U Jc I6 cH cE ch ce aH x5;have IR:=yz T J u j4 j5;have Jk:=b.st;have Jp:J.length<1099511627776:=by omega
     have JC:=ae fin
     have JB:=ae dZ;have Jh:=ae hk;have num:=hk.num;have Jg:=ae b;clear fin dZ hk b p5 x5 n5 t5 I s aH z t cH cE ch ce U i aL fw c If;go_wp2_with fail;refine yf Jk _ _ _ Jp ?_;rintro e w6 rfl s6 g6;rw[num];have M:=Jg.o.grew HS.o g6 s6 Jh.o.pre;obtain⟨r0,r1,r2⟩:=dS (HM.o _ M.hold);obtain⟨w7,gJ,l⟩:=JC.o w6 _ k s6 M Jh.o.pre IR (JB.o s6.wf) (PStep.grew g6);have E:=ae l
     clear M l s6 g6;go_wp2_with fail;exact E.o
end
section
attribute [local irreducible] wpQuiet ax aQ
variable {R:Ending→World→Prop} {w:World} {a T:Nat} {L:List Nd}
theorem BM (h:StoreAt w a T L) (f:Int) (b:∀e,e=.returned (.bool (decide (0≤f∧f<L.length)))→R e w):
 Calls Tryz.prog 272 (Ia (IL a) f) w R:=by
 have c:=ae b;clear b;by_cases h1:0≤f
 ·go_enter Tryz.func272,Tryz.ntmps272;go_wp2_with fail;refine tG h ?_;rintro e rfl;go_wp2_with fail;exact c.o _ (be (by simp[h1]))
 ·go_enter Tryz.func272,Tryz.ntmps272;go_wp2_with fail;exact c.o _ (be (by simp;omega))
def rW (tl:List Int) (x _y:Int):Option Int:=match tl[x.toNat]? with
 |some v=>if dv v=true then some v else none
 |none=>none
theorem Am {G:Int→Int→Option Int} {x y v:Int} (h:G x y=if dv v=true then some v else none):tu G x y (fW L v).1 (fW L v).2:=by
 unfold fW;by_cases hv:0≤v∧v≤1099511627776
 ·rw[if_pos hv];rw[if_pos (by simpa [dv]using hv)]at h;exact .inl ⟨v,h,_,rfl,il⟩
 ·rw[if_neg hv];rw[if_neg (by simpa [dv]using hv)]at h;exact .inr ⟨h,rfl⟩
theorem Al (L:List Nd) (v:Int):L<+:(fW L v).1:=by
 unfold fW;split
 ·exact fL
 ·exact List.prefix_rfl
theorem s9 (b:Array Value) (w:World):(callFunc 273 b).run Tryz.prog w=.ok (.enter 273 b) w:=by kernel_rfl
theorem ER {K:World→Prop} {bs o:Nat} {D:Value} {f:List Int}
 (u:∀w,K w→w.cell? ⟨bs,0,none⟩=some (IL a)∧w.cell? ⟨o,0,none⟩=some D∧IntsAt w D f):
 xX K (rW f) a T 273 #[.pointer (IQ o 0),.pointer (IQ bs 0)]:=by
 intro w L x y R h hw hx Z k l J;have V:=ae J;have H:=ae h;obtain⟨c0,c1,t⟩:=u w hw;have n:=ae l;have A:=ae u;have HW:=ae hw;clear J u hw h l;have r:0≤x∧x≤1099511627776:=by simpa [dv]using hx
 obtain⟨q,hx1⟩:=r;clear hx Z;obtain⟨x,rfl⟩:=Int.eq_ofNat_of_zero_le q;obtain⟨ta,Y,rfl,aH,s,c⟩:=t.open;unfold maxLen at s
 show Calls Tryz.prog 273 #[IP x,IP y,.pointer (IQ o 0),.pointer (IQ bs 0)] w R
 by_cases d:x<f.length
 ·obtain⟨b,off,rfl,_,I⟩:=c x d;have c2:=I x d;have j:∀g,K g→g.cell? ⟨bs,0,none⟩=some (IL a)∧g.cell? ⟨o,0,none⟩=some (.slice (IQ b off) f.length Y)∧g.cell? ⟨b,off+x,none⟩=some (.int .i64 f[x]):=fun g i=>by
   obtain⟨e0,e1,e2⟩:=A.o g i;obtain⟨_,_,O,_,_,e4⟩:=e2.open;simp only[Value.slice.injEq]at O;obtain⟨rfl,_,_⟩:=O;obtain⟨b',F,N,_,e6⟩:=e4 x d;simp only[Option.some.injEq,Addr.mk.injEq]at N;obtain⟨rfl,rfl,_⟩:=N;exact⟨e0,e1,e6 x d⟩
  have U:=ae (show rW f x y=if dv f[x]=true then some f[x]else none by simp[rW,List.getElem?_eq_getElem d]);clear c I t;generalize f[x]=v at c2 U j;have B:=ae j;clear j;go_enter Tryz.func273,Tryz.ntmps273;go_wp2_with fail;have p:Same w w.drew:=al (af (fun _=>True) w);refine az (.take 0 (.take 1 (.take 2 (.take 3 (.take 4 (.one 5 (.take 6 .done))))))) K (by kernel_rfl) (by kernel_rfl) (n.o _ (cD H.o p)) ?_
  iterate 5
   (apply aD
    case ho=>rfl
    case hw=>rfl
    case hv=>
     intro g i;obtain⟨z0,z1,z2⟩:=B.o g i;go_simp;exact rfl
    go_simp)
  refine aP (ay rfl rfl fun K1 m=>?_);go_simp;refine qC (H.o.same p) _ k ?_;rintro e X rfl E M;have z:=(cD H.o p).trans M;refine m K _ _ (n.o _ z) (fun _ h=>h) ?_;clear m K1;have C:=ae (V.o _ X _ _ rfl E z (Al L _) (rg L _) (Am U.o));clear E M z;apply aD
  case ho=>rfl
  case hw=>rfl
  case hv=>intro g i;go_simp;exact rfl
  go_simp;refine aW ?_;go_wp2_with fail;exact C.o
 ·have G:rW f x y=none:=by simp[rW,List.getElem?_eq_none (Nat.le_of_not_lt d)]
  have C:=ae (V.o _ w L (-1) rfl H.o (Grew.refl _ _) List.prefix_rfl (by omega) (.inr ⟨G,rfl⟩));clear G c t;go_enter Tryz.func273,Tryz.ntmps273;go_wp2_with fail;exact C.o
def FL (a F:Nat) (caps:Array Value) (m mb:Nat):Nat×Array Value×TypeId:=(mb,#[.pointer (IQ a 0),.func (.func F) #[] caps,.map (some m)],310)
theorem zL {F m D:Nat} {caps:Array Value} {G:Int→Int→Option Int} {bs:List (Nat×Array Value×TypeId)} {z:Value} {C:List Int} {f g:Nat}
 (h:StoreAt w a T L) (J:∀p∈bs,w.heap[p.1]?=some (.cells p.2.1 p.2.2 (0,0))∧p.2.2≠231∧p.2.2≠300) (M:IntsAt w z C) (o:∀b,live z=some b→¬de w a b)
 (Z:m=w.heap.size) (H:D=w.heap.size+1)
 (hL:xX (Stand a m (FL a F caps m D::bs) z C) G a T F caps) (I:∀d w,(callFunc F d).run Tryz.prog w=.ok (.enter F d) w)
 (hf:f<L.length) (hg:g<L.length) (s:L.length+128≤1099511627776)
 (hR:∀e y r j,e=.returned (IP r)→StoreAt y a T j→Grew a w y→L<+:j→j.length≤L.length+128→PairAns j G f g r→R e y):
 Calls Tryz.prog 274 (Il (IL D) f g)
  ((w.alloc (.map #[] 0)).alloc (.cells #[IL a,.func (.func F) #[] caps,.map (some m)] 310)) R:=by
 subst Z H;have h6:=h.wf.six;have u:(w.alloc (.map #[] 0)).heap.size=w.heap.size+1:=by simp
 have X:=ag w (.map #[] 0);have A:=ag (w.alloc (.map #[] 0)) (.cells #[IL a,.func (.func F) #[] caps,.map (some w.heap.size)] 310);have k:((w.alloc (.map #[] 0)).alloc (.cells #[IL a,.func (.func F) #[] caps,.map (some w.heap.size)] 310)).heap[w.heap.size]?=some (.map #[] 0):=by
  rw[Below.heap_alloc _ _ _ (by rw[u];omega)];exact X
 rw[u]at A;have ka:Same w ((w.alloc (.map #[] 0)).alloc (.cells #[IL a,.func (.func F) #[] caps,.map (some w.heap.size)] 310)):=((af _ w).alloc _).alloc _;generalize(w.alloc (.map #[] 0)).alloc (.cells #[IL a,.func (.func F) #[] caps,.map (some w.heap.size)] 310)=B at k A ka⊢;have c:∀b,de B a b↔de w a b:=by
  obtain⟨v,m',u,_⟩:=h.st;exact dO ((ka.at u trivial).trans u.symm)
 have i:=h.same ka;have E:Stand a w.heap.size (FL a F caps w.heap.size (w.heap.size+1)::bs) z C B:=by
  refine⟨fun p l=>?_,M.same ka,fun b s=>⟨fun q=>o b s ((c b).1 q),by have :=M.lt b s;omega⟩⟩;rcases List.mem_cons.1 l with rfl|l
  ·exact⟨A,fI i A (by decide) (by decide),by simp[FL]⟩
  ·obtain⟨U,c2,c3⟩:=J p l;have O:=ka.at U trivial;exact⟨O,fI i O c2 c3,by have :=am U;omega⟩
 have N:2^(T -0+1)≤128:=Nat.le_trans (Nat.pow_le_pow_right (by decide) (show T -0+1≤7 by omega)) (by decide);refine BK (Stand.safe _ _ _) hL (fun w hw=>(hw.cells _ (List.mem_cons_self ..)).1) I _ f g 0 L [] B R rfl
  ⟨i,⟨#[],0,k,rfl⟩,fun q=>by have :=pB h ((c _).1 q);omega,fun p l=>(by cases l),E⟩ hf hg (fun _ _ _ _=>Nat.zero_le _) (fun _ _ _ _=>Nat.zero_le _) (Nat.zero_le _) (by omega) ?_
 rintro e y r j A' rfl V p x n t;refine hR _ _ r j rfl V.st ⟨ka.trans t.keeps (fun x hx Y=>⟨trivial,fun q=>Y ((c x).1 q),by omega⟩),fun b s=>?_⟩ p (by omega) x;rcases t.foot b s with h1|h1
 ·exact .inl ((c b).1 h1)
 ·exact .inr (Nat.le_trans ka.size h1)
def DX (L L':List Nd) (f:Int) (tl:List Int) (r:Int):Prop:=
 L<+:L'∧L'.length≤L.length+128∧
 ((0≤f∧f<L.length∧PairAns L' (rW tl) f.toNat f.toNat r)∨(¬(0≤f∧f<L.length)∧r=-1∧L'=L))
theorem EF {y:Value} {d:List Int} (h:StoreAt w a T L) (f:Int) (z:IntsAt w y d) (k:∀b,live y=some b→¬de w a b) (B:L.length+128≤1099511627776)
 (U:∀e x r Y,e=.returned (IP r)→StoreAt x a T Y→Grew a w x→DX L Y f d r→R e x):
 Calls Tryz.prog 251 #[.pointer (IQ a 0),IP f,y] w R:=by
 have Z:=ae U;clear U;obtain⟨m,l,rfl,aL,aH,_⟩:=z.open;have HI:=ae z;have t:=ae k;clear z k;have q:Same w ((w.alloc (.cells #[IL a] 170)).alloc (.cells #[.slice m d.length l] 41)):=((af _ w).alloc _).alloc _;have o:((w.alloc (.cells #[IL a] 170)).alloc (.cells #[.slice m d.length l] 41)).heap[w.heap.size]?=some (.cells #[IL a] 170):=by
  rw[Below.heap_alloc _ _ _ (by simp)];exact ag _ _
 have i:=ag (w.alloc (.cells #[IL a] 170)) (.cells #[.slice m d.length l] 41);have s:(w.alloc (.cells #[IL a] 170)).heap.size=w.heap.size+1:=by simp
 have X:((w.alloc (.cells #[IL a] 170)).alloc (.cells #[.slice m d.length l] 41)).heap.size=w.heap.size+1+1:=by simp
 rw[s]at i;have c1:=xc1 o 0 rfl;have c2:=xc1 i 0 rfl;have c:∀b,de ((w.alloc (.cells #[IL a] 170)).alloc (.cells #[.slice m d.length l] 41)) a b↔de w a b:=by
  obtain⟨v,m',s,_⟩:=h.st;exact dO ((q.at s trivial).trans s.symm)
 have D:=ae c;have B1:=ae o;have B2:=ae i;have E2:=ae X;have KB:=ae q;clear o i s X c;have a8:=@run_makeMap Tryz.prog;have h1:=h.same q;have u:=ae (cD h q);have H:=ae h;clear h q;by_cases n:0≤f∧f<L.length
 ·have C:decide (0≤f∧f<L.length)=true:=decide_eq_true n;obtain⟨f,rfl⟩:=Int.eq_ofNat_of_zero_le n.1;have j:=ae n;clear n;go_enter Tryz.func251,Tryz.ntmps251;go_wp2_with fail;refine BM h1 f ?_;rw[C];rintro e rfl;go_wp2_with fail;refine zL (F:=273) (caps:=#[.pointer (some ⟨w.heap.size+1,0,none⟩),.pointer (IQ w.heap.size 0)]) (G:=rW d) (f:=f) (g:=f) h1 (bs:=[(w.heap.size,#[.pointer (IQ a 0)],170),(w.heap.size+1,#[.slice m d.length l],41)]) ?_ (HI.o.same KB.o) (fun b B hh=>t.o b B ((D.o b).1 hh)) ?_ ?_ ?_ s9 (by have :=j.o;omega) (by have :=j.o;omega) B ?_
  ·intro p O;simp only[List.mem_cons,List.not_mem_nil,or_false]at O;rcases O with rfl|rfl
   ·exact⟨B1.o,by simp,by simp⟩
   ·exact⟨B2.o,by simp,by simp⟩
  ·exact E2.o.symm
  ·rw[E2.o]
  ·refine ER fun wx hw=>⟨?_,?_,hw.ints⟩
   ·have A:=(hw.cells (w.heap.size,#[.pointer (IQ a 0)],170) (by simp)).1;exact(ai A 0).trans rfl
   ·have A:=(hw.cells (w.heap.size+1,#[.slice m d.length l],41) (by simp)).1;exact(ai A 0).trans rfl
  ·rintro e w1 r L1 rfl J V M N I;have E:=ae (Z.o _ w1 r L1 rfl J (u.o.trans V) ⟨M,N,.inl ⟨j.o.1,j.o.2,by simpa using I⟩⟩);clear J V M N I;go_wp2_with fail;exact E.o
 ·have C:decide (0≤f∧f<L.length)=false:=decide_eq_false n;have E:=ae (Z.o _ _ (-1) L rfl h1 u.o ⟨List.prefix_rfl,by omega,.inr ⟨n,rfl,rfl⟩⟩);clear n;go_enter Tryz.func251,Tryz.ntmps251;go_wp2_with fail;refine BM h1 f ?_;rw[C];rintro e rfl;go_wp2_with fail;exact E.o
end
end Go.Proofs.YtojegnbejmeehaaGreatDoor
