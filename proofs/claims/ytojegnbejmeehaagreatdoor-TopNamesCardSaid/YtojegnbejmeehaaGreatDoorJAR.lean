/- Helpers of the proof of TopNames. -/
import Derived.Lib.OthersKept
import Derived.Test.YtojegnbejmeehaaGreatDoorJAM
namespace Go.Proofs.YtojegnbejmeehaaGreatDoor
open Go.RowKit
set_option maxRecDepth 10000
set_option maxHeartbeats 16000000
set_option linter.all false
section
attribute [local irreducible] wpQuiet ax au aQ
variable {R:Ending→World→Prop} {w:World}
theorem pX (r:Nat) (a:∀e,e=.returned (.bool (cd r))→R e w):
 Calls Tryz.prog 229 #[.int .i32 (r:Int)] w R:=by
 have b:=ae a;clear a;go_enter Tryz.func229,Tryz.ntmps229;go_wp2_with fail
 all_goals
  refine b.o _ (be ?_);unfold cd;rw[Bool.eq_iff_iff];simp only[Bool.or_eq_true,Bool.and_eq_true,decide_eq_true_eq,beq_iff_eq,true_iff];omega
theorem wd (r:Nat) (f:∀e c,e=.returned (IP (cls r:Int))→Same w c→R e c):
 Calls Tryz.prog 173 #[.int .i32 (r:Int)] w R:=by
 have b:=ae f;clear f;go_enter Tryz.func173,Tryz.ntmps173;go_wp2_with fail;refine pX r ?_;rintro e rfl
 cases a:cd r with
 |true=>
  have d:cls r=1:=by unfold cls;rw[if_pos a]
  rw[d]at b;clear a d;go_wp2_with fail;exact b.o _ _ rfl (af _ _)
 |false=>
  have g:=ae a;clear a;go_wp2_with fail
  all_goals
   refine b.o _ _ (cQ ?_) (af _ _)
   try simp only[beq_iff_eq,beq_eq_false_iff_ne,ne_eq]at *
   unfold cls;rw[g.o];unfold cU cT nC;simp
   try ((repeat' split)<;>first|rfl|omega)
def cZ (rs:List Nat):List (List Value):=(List.range rs.length).map fun k=>[.int .i32 ((rs.getD k 0:Nat):Int),.int .i64 (pos rs k:Int)]
structure LexAt (w:World) (x:Nat) (v:Value) (rs:List Nat) (n:Nat):Prop where
 blk:w.heap[x]?=some (.cells #[.string (enc rs),v,IP (-1),n] 145)
 runes:StrAt 2 w v (cZ rs)
 ne:live v≠some x
 gk:∀r∈rs,Gk r
 le:(enc rs).size≤2000
 at_:n≤rs.length
theorem LexAt.same {a:World} {x:Nat} {v:Value} {rs:List Nat} {n:Nat} (h:LexAt w x v rs n) (k:Same w a):LexAt a x v rs n:=
 ⟨k.at h.blk trivial,h.runes.same k,h.ne,h.gk,h.le,h.at_⟩
theorem LexAt.step {a:World} {x:Nat} {v:Value} {rs:List Nat} {n m:Nat} (h:LexAt w x v rs n) (k:Keeps (·≠x) w a) (b:a.heap[x]?=some (.cells #[.string (enc rs),v,IP (-1),m] 145)) (c:m≤rs.length):LexAt a x v rs m:=
 ⟨b,h.runes.keep k fun _ b e=>h.ne (e▸b),h.ne,h.gk,h.le,c⟩
theorem ef (rs:List Nat):(cZ rs).length=rs.length:=by simp[cZ]
theorem LexAt.open {x:Nat} {v:Value} {rs:List Nat} {n:Nat} (h:LexAt w x v rs n):∃a c,v=.slice a rs.length c∧rs.length≤c∧c≤maxLen∧
 (∀i (d:i<rs.length),∃b off,a=some ⟨b,off,none⟩∧w.cell? ⟨b,off+i*2,none⟩=some (.int .i32 (rs[i]:Int))∧w.cell? ⟨b,off+i*2+1,none⟩=some (.int .i64 (pos rs i:Int))):=by
 obtain⟨a,c,rfl,h1,h2,f⟩:=h.runes.open;rw[ef]at *;refine⟨a,c,rfl,h1,h2,fun i d=>?_⟩;obtain⟨b,off,rfl,_,e⟩:=f i d;have hx:(cZ rs)[i]?=some [.int .i32 (rs[i]:Int),.int .i64 (pos rs i:Int)]:=by simp[cZ,d]
 exact⟨b,off,rfl,e i _ hx 0 _ rfl,e i _ hx 1 _ rfl⟩
theorem dT (rs:List Nat):rs.length≤(enc rs).size:=by
 rw[dJ]
 induction rs with
 |nil=>simp
 |cons r l ih=>
  rw[dm,List.length_append,io,List.length_cons];have :=(nT r).1;omega
end
section
attribute [local irreducible] wpQuiet ax au aQ
variable {R:Ending→World→Prop} {w:World} {x n:Nat} {v:Value} {rs:List Nat}
theorem jt (h:LexAt w x v rs n) (z:n<rs.length) (A:∀e m,e=.returned (IP (cls rs[n]:Int))→Same w m→R e m):
 Calls Tryz.prog 121 #[.pointer (IQ x 0)] w R:=by
 have B:=ae A;clear A;obtain⟨a,c,rfl,q,p,f⟩:=h.open;obtain⟨b,off,rfl,l,C⟩:=f n z;have s:=h.blk;have o:=Nat.le_trans (dT rs) h.le;unfold maxLen at p;have i:=xc1 s 1 rfl;have k:=xc1 s 3 rfl;generalize rs[n]=r at B l;generalize rs.length=G at q z o i;clear h f s C;go_enter Tryz.func121,Tryz.ntmps121;go_wp2_with fail;refine aq (by kernel_rfl) (by kernel_rfl) ?_
 iterate 10 (apply wpQuiet_step;intro K g;(first|(apply aA;rfl;go_simp)|(apply aJ;rfl;intro m d;obtain⟨F,E⟩:=xs2 d i k;go_simp;exact rfl;go_simp));refine g _ ?_;clear g K)
 apply wpQuiet_nil;intro L j;obtain⟨i,k,l⟩:=xs3 j i k l;have u:=ae j;clear j;go_wp2_with fail;refine aq (by kernel_rfl) (by kernel_rfl) ?_
 iterate 13 (apply wpQuiet_step;intro K g;(first|(apply aA;rfl;go_simp)|(apply aJ;rfl;intro m d;obtain⟨F,E,M⟩:=xs3 d i k l;go_simp;(first|exact rfl|(exact wd r (fun e D I H=>⟨I,d.tr H⟩)));go_simp));refine g _ ?_;clear g K)
 apply wpQuiet_nil;intro J y;have t:=ae (u.o.tr y);clear y;go_wp2_with fail;exact B.o _ _ rfl t.o
theorem nB (h:LexAt w x v rs rs.length) (r:∀e g,e=.returned (IP (-1))→Same w g→R e g):
 Calls Tryz.prog 121 #[.pointer (IQ x 0)] w R:=by
 have t:=ae r;clear r;obtain⟨a,c,rfl,k,j,b⟩:=h.open;have l:=h.blk;have i:=Nat.le_trans (dT rs) h.le;unfold maxLen at j;have o:=xc1 l 1 rfl;have m:=xc1 l 3 rfl;generalize rs.length=s at k i o m;clear h b l;go_enter Tryz.func121,Tryz.ntmps121;go_wp2_with fail;refine aq (by kernel_rfl) (by kernel_rfl) ?_
 iterate 10 (apply wpQuiet_step;intro K f;(first|(apply aA;rfl;go_simp)|(apply aJ;rfl;intro g d;obtain⟨z,y⟩:=xs2 d o m;go_simp;exact rfl;go_simp));refine f _ ?_;clear f K)
 apply wpQuiet_nil;intro u q;have p:=ae q;clear q;go_wp2_with fail;exact t.o _ _ rfl p.o
theorem pw (h:LexAt w x v rs n) (L:∀e o,e=.returned (IP (pos rs n:Int))→Same w o→R e o):
 Calls Tryz.prog 74 #[.pointer (IQ x 0)] w R:=by
 have z:=ae L;clear L;obtain⟨a,c,rfl,q,C,f⟩:=h.open;have r:=h.blk;have p:=Nat.le_trans (dT rs) h.le;have B:=h.le;have J:=h.at_;unfold maxLen at C;obtain⟨t,j,y,l⟩:=xc4 r rfl rfl rfl rfl;clear r h;by_cases k:n<rs.length
 ·obtain⟨b,off,rfl,M,u⟩:=f n k;generalize pos rs n=U at z u;clear f M t y;generalize rs.length=A at q J p j k;go_enter Tryz.func74,Tryz.ntmps74;go_wp2_with fail;refine aq (by kernel_rfl) (by kernel_rfl) ?_
  iterate 11 (apply wpQuiet_step;intro K g;(first|(apply aA;rfl;go_simp)|(apply aJ;rfl;intro o d;obtain⟨G,F⟩:=xs2 d j l;go_simp;exact rfl;go_simp));refine g _ ?_;clear g K)
  apply wpQuiet_nil;intro N i;obtain⟨j,l,u⟩:=xs3 i j l u;have m:=ae i;clear i;go_wp2_with fail;refine aq (by kernel_rfl) (by kernel_rfl) ?_
  iterate 12 (apply wpQuiet_step;intro K g;(first|(apply aA;rfl;go_simp)|(apply aJ;rfl;intro o d;obtain⟨G,F,T⟩:=xs3 d j l u;go_simp;exact rfl;go_simp));refine g _ ?_;clear g K)
  apply wpQuiet_nil;intro O H;have E:=ae (m.o.tr H);clear H;go_wp2_with fail;exact z.o _ _ rfl E.o
 ·obtain rfl:n=rs.length:=by omega
  have D:=ae (lK rs);generalize enc rs=s at D t B;rw[D.o]at z;generalize rs.length=A at q J p j l k;clear f D;have I:s.size≤maxLen:=by unfold maxLen;omega
  go_enter Tryz.func74,Tryz.ntmps74;go_wp2_with fail;refine aq (by kernel_rfl) (by kernel_rfl) ?_
  iterate 11 (apply wpQuiet_step;intro K g;(first|(apply aA;rfl;go_simp)|(apply aJ;rfl;intro o d;obtain⟨G,F⟩:=xs2 d j l;go_simp;exact rfl;go_simp));refine g _ ?_;clear g K)
  apply wpQuiet_nil;intro N i;obtain⟨t,y⟩:=xs2 i t y;have m:=ae i;clear i;go_wp2_with fail;exact z.o _ _ rfl m.o
theorem qT {k j:Nat} (d:∀r∈rs,Gk r) (c:w.heap[k]?=some (.stringIter (enc rs) (pos rs j))) (a:j<rs.length) (b:TypeId):
 (Instr.next (IL k) true b).run Tryz.prog w=.ok (.tuple #[.bool true,IP (pos rs j),.int .i32 (rs[j]:Int)]) (w.iterAt k (enc rs) (pos rs (j+1))):=by
 have e:=pQ (yO d a);rw[Go.Lib.run_next_any_at w k (enc rs) (pos rs j) b c (by rw[←lK];exact BI a (Nat.le_refl _)),e,oJ a]
theorem qU {k:Nat} (b:w.heap[k]?=some (.stringIter (enc rs) (pos rs rs.length))) (a:TypeId):
 (Instr.next (IL k) true a).run Tryz.prog w=.ok (.tuple #[.bool false]) w:=
 Go.Lib.run_next_end_at w k (enc rs) _ a b (by rw[lK];exact Nat.lt_irrefl _)
theorem Keeps.iterAt {w a:World} {S:Nat→Prop} (k:Keeps S w a) {b:Nat} (c:w.heap.size≤b) (s:ByteArray) (p:Nat):Keeps S w (a.iterAt b s p):=
 ⟨k.os,k.tape,k.output,by show _≤(a.iterAt b s p).heap.size;rw[Go.Lib.iterAt_size];exact k.size,fun x hx hs=>by
  show(a.iterAt b s p).heap[x]?=_
  rw[Go.Lib.iterAt_other _ _ _ _ _ (by omega)];exact k.block x hx hs⟩
theorem Keeps.iter {w a:World} {S:Nat→Prop} (k:Keeps S w a) (s:ByteArray) (p:Nat):Keeps S w (a.iter s p):=k.alloc (.stringIter s p)
theorem rd (p:∀r∈rs,Gk r) (o:(enc rs).size≤2000) (i:∀e h,e=.returned (IP (rs.length:Int))→Same w h→R e h):
 Calls Tryz.prog 177 #[.string (enc rs)] w R:=by
 have s:=ae i;clear i;have m:=Nat.le_trans (dT rs) o;have f:=ae (ag w (.stringIter (enc rs) 0));have d:=ae ((af (fun _=>True) w).iter (enc rs) 0);go_enter Tryz.func177,Tryz.ntmps177;go_wp2_with fail;have l:(w.iter (enc rs) 0).heap.size=w.heap.size+1:=by simp[World.iter]
 go_loopw [3] (fun q wr=>∃j:Nat,q=.int .i64 (j:Int)∧j≤rs.length∧Hid (wr.heap[w.heap.size]?=some (.stringIter (enc rs) (pos rs j)))∧Hid (Same w wr)) (fun q _=>rs.length -(intOf q).toNat)
 case atStart=>exact⟨0,rfl,Nat.zero_le _,f,d⟩
 case round=>
  obtain⟨j,rfl,t,g,k⟩:=hrel;by_cases a:j<rs.length
  ·have c:=fun b=>qT p g.o a b;go_wp2_with fail;go_roundw
   case rel=>exact⟨j+1,by go_num,a,ae (Go.Lib.iterAt_heap _ _ _ _ _ g.o),ae (k.o.iterAt (Nat.le_refl _) _ _)⟩
   case measure=>simp[intOf];omega
  ·obtain rfl:j=rs.length:=by omega
   have c:=fun b=>qU g.o b;go_wp2_with fail;exact s.o _ _ rfl k.o
theorem DI (r:Nat):(cls r=1∧more r=true)∨(cls r=2∧more r=true)∨(cls r=4∧more r=(r==39))∨(cls r=3∧more r=false)∨(cls r=0∧more r=false):=by
 unfold cls more
 cases b:cd r with
 |true=>left;simp
 |false=>
  cases c:cU r with
  |true=>right;left;simp
  |false=>
   cases hs:cT r with
   |true=>
    right;right;right;left;unfold cT at hs;simp only[Bool.or_eq_true,beq_iff_eq]at hs;simp;omega
   |false=>
    cases a:nC r with
    |true=>right;right;left;simp
    |false=>
     right;right;right;right;simp;rintro rfl
     revert a
     decide
theorem wZ {c:Nat} (h1:cd c=true):cT c=false:=by
 unfold cd at h1;unfold cT;simp only[Bool.or_eq_true,Bool.and_eq_true,decide_eq_true_eq,beq_iff_eq]at h1;simp only[Bool.or_eq_false_iff,beq_eq_false_iff_ne];omega
theorem yE (h:LexAt w x v rs n) (A:n<rs.length) (G:∀e q,e=.returned (.bool (more rs[n]))→Same w q→R e q):
 Calls Tryz.prog 174 #[.pointer (IQ x 0)] w R:=by
 have k:=ae G;clear G;have H:=ae h;obtain⟨a,c,rfl,D,C,j⟩:=h.open;obtain⟨b,off,rfl,o,I⟩:=j n A;have E:=h.blk;have B:=Nat.le_trans (dT rs) h.le;unfold maxLen at C;have m:=xc1 E 1 rfl;have p:=xc1 E 3 rfl;clear h j E I;go_enter Tryz.func174,Tryz.ntmps174;go_wp2_with fail;refine jt H.o A ?_;rintro e L rfl s;have h_:=xs3 s m p o;clear m p o;obtain⟨m,p,o⟩:=h_;have l:=ae s;clear s H;have F:=DI rs[n];generalize rs[n]=r at k o F⊢;generalize rs.length=J at D A B m;rcases F with⟨h1,h2⟩|⟨h1,h2⟩|⟨h1,h2⟩|⟨h1,h2⟩|⟨h1,h2⟩
 ·rw[h1];rw[h2]at k;clear h1 h2;go_wp2_with fail;refine aq (by kernel_rfl) (by kernel_rfl) ?_
  iterate 25 (apply wpQuiet_step;intro K f;(first|(apply aA;rfl;go_simp)|(apply aJ;rfl;intro q d;obtain⟨z,y,u⟩:=xs3 d m p o;go_simp;exact rfl;go_simp));refine f _ ?_;clear f K)
  apply wpQuiet_nil;intro t i;have g:=ae (l.o.tr i);clear i;go_wp2_with fail;exact k.o _ _ rfl g.o
 ·rw[h1];rw[h2]at k;clear h1 h2;go_wp2_with fail;refine aq (by kernel_rfl) (by kernel_rfl) ?_
  iterate 25 (apply wpQuiet_step;intro K f;(first|(apply aA;rfl;go_simp)|(apply aJ;rfl;intro q d;obtain⟨z,y,u⟩:=xs3 d m p o;go_simp;exact rfl;go_simp));refine f _ ?_;clear f K)
  apply wpQuiet_nil;intro t i;have g:=ae (l.o.tr i);clear i;go_wp2_with fail;exact k.o _ _ rfl g.o
 ·rw[h1];rw[h2]at k;clear h1 h2;go_wp2_with fail;refine aq (by kernel_rfl) (by kernel_rfl) ?_
  iterate 25 (apply wpQuiet_step;intro K f;(first|(apply aA;rfl;go_simp)|(apply aJ;rfl;intro q d;obtain⟨z,y,u⟩:=xs3 d m p o;go_simp;exact rfl;go_simp));refine f _ ?_;clear f K)
  apply wpQuiet_nil;intro t i;have g:=ae (l.o.tr i);clear i;go_wp2_with fail;refine k.o _ _ (be ?_) g.o;rw[Bool.eq_iff_iff];simp only[beq_iff_eq,decide_eq_true_eq];omega
 ·rw[h1];rw[h2]at k;clear h1 h2;go_wp2_with fail;refine aq (by kernel_rfl) (by kernel_rfl) ?_
  iterate 25 (apply wpQuiet_step;intro K f;(first|(apply aA;rfl;go_simp)|(apply aJ;rfl;intro q d;obtain⟨z,y,u⟩:=xs3 d m p o;go_simp;exact rfl;go_simp));refine f _ ?_;clear f K)
  apply wpQuiet_nil;intro t i;have g:=ae (l.o.tr i);clear i;go_wp2_with fail;exact k.o _ _ rfl g.o
 ·rw[h1];rw[h2]at k;clear h1 h2;go_wp2_with fail;refine aq (by kernel_rfl) (by kernel_rfl) ?_
  iterate 25 (apply wpQuiet_step;intro K f;(first|(apply aA;rfl;go_simp)|(apply aJ;rfl;intro q d;obtain⟨z,y,u⟩:=xs3 d m p o;go_simp;exact rfl;go_simp));refine f _ ?_;clear f K)
  apply wpQuiet_nil;intro t i;have g:=ae (l.o.tr i);clear i;go_wp2_with fail;exact k.o _ _ rfl g.o
theorem wY (h:LexAt w x v rs rs.length) (i:∀e b,e=.returned (.bool false)→Same w b→R e b):
 Calls Tryz.prog 174 #[.pointer (IQ x 0)] w R:=by
 have k:=ae i;clear i;have H:=ae h;clear h;go_enter Tryz.func174,Tryz.ntmps174;go_wp2_with fail;refine nB H.o ?_;rintro e m rfl g;have d:=ae g;clear g H;go_wp2_with fail;refine aq (by kernel_rfl) (by kernel_rfl) ?_
 iterate 25 (apply wpQuiet_step;intro K a;(first|(apply aA;rfl;go_simp)|(apply aJ;rfl;intro b j;go_simp;exact rfl;go_simp));refine a _ ?_;clear a K)
 apply wpQuiet_nil;intro l f;have c:=ae (d.o.tr f);clear f;go_wp2_with fail;exact k.o _ _ rfl c.o
def re (x len:Nat) (w:World):Nat:=len -(intOf ((w.cell? ⟨x,3,none⟩).getD undef)).toNat
theorem fK (h:LexAt w x v rs n):re x rs.length w=rs.length -n:=by
 unfold re;rw[ai h.blk 3];simp[intOf]
theorem LexAt.next {a:World} {m:Nat} (h:LexAt w x v rs n) (k:Same w a) (b:m≤rs.length):LexAt (a.setCell ⟨x,3,none⟩ (IP (m:Int))) x v rs m:=
 (h.same k).step ((af _ a).but _ _) (by rw[aj (k.at h.blk trivial)];simp) b
theorem yh {r:Nat}:(cls r=3↔cT r=true):=by
 unfold cls
 cases b:cd r with
 |true=>
  have :=(wZ b);simp[this]
 |false=>
  cases a:cU r with
  |true=>
   unfold cU at a;unfold cT;simp only[Bool.and_eq_true,decide_eq_true_eq]at a;simp;omega
  |false=>
   cases hs:cT r with
   |true=>simp
   |false=>simp;split<;>simp
theorem uB (h:LexAt w x v rs n) (t:∀c l,(rs.drop n).dropWhile cT=c::l→c≠35) (hR:∀e G u m,e=.returned u→LexAt G x v rs m→Keeps (·≠x) w G→n≤m→rs.drop m=(rs.drop n).dropWhile cT→R e G):
 Calls Tryz.prog 73 #[.pointer (IQ x 0)] w R:=by
 have HR:=ae hR;clear hR;have H:=ae h;have a8:=ae t;have ce:=Nat.le_trans (dT rs) h.le;clear h t;go_enter Tryz.func73,Tryz.ntmps73;go_wp2_with fail
 go_loopw [] (fun wr=>∃m,n≤m∧m≤rs.length∧Hid ((rs.drop m).dropWhile cT=(rs.drop n).dropWhile cT)∧Hid (LexAt wr x v rs m)∧Hid (Keeps (·≠x) w wr)) (fun wr=>re x rs.length wr)
 case atStart=>exact⟨n,Nat.le_refl _,H.o.at_,ae rfl,H,ae (af _ _)⟩
 case round=>
  obtain⟨m,J,bL,N,M,HK⟩:=hrel;have U:=fK M.o;obtain⟨a,c,rfl,ch,X,k⟩:=M.o.open;have Y:=M.o.blk;unfold maxLen at X;have z:=xc1 Y 1 rfl;have y:=xc1 Y 3 rfl;have F:=ae k;clear Y k;by_cases i:m<rs.length
  ·go_wp2_with fail;refine aq (by kernel_rfl) (by kernel_rfl) ?_
   iterate 10 (apply wpQuiet_step;intro K f;(first|(apply aA;rfl;go_simp)|(apply aJ;rfl;intro G d;obtain⟨q0,q1⟩:=xs2 d z y;go_simp;exact rfl;go_simp));refine f _ ?_;clear f K)
   apply wpQuiet_nil;intro w1 q;have h_:=xs2 q z y;clear z y;obtain⟨z,y⟩:=h_;have p:=ae (M.o.same q);have B:=ae (HK.o.tr_same q);have Z:=ae q;clear q;go_wp2_with fail;refine jt p.o i ?_;rintro e w2 rfl s;obtain⟨b,off,L,I,_⟩:=F.o m i;have j:rs.drop m=rs[m]::rs.drop (m+1):=List.drop_eq_getElem_cons i;by_cases g:cT rs[m]=true
   ·rw[yh.2 g];have o:=ae (p.o.same s);have E:=ae (B.o.tr_same s);have d3:=xc1 o.o.blk 3 rfl;have g3:=ao o.o.blk 3;have aL:Hid ((rs.drop (m+1)).dropWhile cT=(rs.drop n).dropWhile cT):=ae (by rw[←N.o,j,List.dropWhile_cons,if_pos g]);clear s j g I L z y;go_wp2_with fail;have A:=ae (o.o.next (af _ _) (show m+1≤rs.length from i));have D:=ae (E.o.but 3 (IP ((m:Int)+1)));go_roundw
    case rel=>exact⟨m+1,by omega,i,aL,A,D⟩
    case measure=>
     rw[U];have :=fK A.o;rw[show((m+1:Nat):Int)=(m:Int)+1 by omega]at this;rw[this];omega
   ·have V:cls rs[m]≠3:=fun e=>g (yh.1 e);have hq:((cls rs[m]:Int)==3)=false:=by rw[beq_eq_false_iff_ne];omega
    have C:(rs.drop m).dropWhile cT=rs.drop m:=by rw[j,List.dropWhile_cons,if_neg g]
    have t:rs[m]≠35:=a8.o rs[m] (rs.drop (m+1)) (by rw[←N.o,C,j]);have T:((rs[m]:Int)==35)=false:=by rw[beq_eq_false_iff_ne];omega
    have o:=ae (p.o.same s);have E:=ae (B.o.tr_same s);have aH:=ae (C.symm.trans N.o);subst L;replace I:=ak (Z.o.tr s) I trivial;have h_:=xs2 s z y;clear z y;obtain⟨z,y⟩:=h_;generalize rs[m]=r at I hq T⊢;clear s j g V C t;go_wp2_with fail;refine aq (by kernel_rfl) (by kernel_rfl) ?_
    iterate 13 (apply wpQuiet_step;intro K f;(first|(apply aA;rfl;go_simp)|(apply aJ;rfl;intro G d;obtain⟨q0,q1,q2⟩:=xs3 d z y I;go_simp;exact rfl;go_simp));refine f _ ?_;clear f K)
    apply wpQuiet_nil;intro w3 O;have A:=ae (o.o.same O);have D:=ae (E.o.tr_same O);clear O;go_wp2_with fail;go_end0;exact HR.o _ _ _ m rfl A.o D.o J aH.o
  ·obtain rfl:m=rs.length:=by omega
   go_wp2_with fail;refine aq (by kernel_rfl) (by kernel_rfl) ?_
   iterate 10 (apply wpQuiet_step;intro K f;(first|(apply aA;rfl;go_simp)|(apply aJ;rfl;intro G d;obtain⟨q0,q1⟩:=xs2 d z y;go_simp;exact rfl;go_simp));refine f _ ?_;clear f K)
   apply wpQuiet_nil;intro w1 q;have p:=ae (M.o.same q);have B:=ae (HK.o.tr_same q);clear q;go_wp2_with fail;go_end0;refine HR.o _ _ _ rs.length rfl p.o B.o J ?_;rw[←N.o];simp
end
end Go.Proofs.YtojegnbejmeehaaGreatDoor
