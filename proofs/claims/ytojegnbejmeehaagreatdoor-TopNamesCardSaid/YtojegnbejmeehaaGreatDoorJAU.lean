/- Helpers of the proof of TopNames. -/
import Derived.Test.YtojegnbejmeehaaGreatDoorJAQ
import Derived.Test.YtojegnbejmeehaaGreatDoorJAT
namespace Go.Proofs.YtojegnbejmeehaaGreatDoor
open Go.RowKit
set_option maxRecDepth 10000
set_option maxHeartbeats 16000000
set_option linter.all false
section
attribute [local irreducible] wpQuiet ax au aQ
variable {R:Ending→World→Prop} {w:World} {rs:List Nat}
theorem iw {i:World} {x:Nat} {p o n m l k j:Value} {t:TypeId} (h:i.heap[x]?=some (.cells #[p,o,n,m,l,k,j] t (0,0))) (a b c d e f g:Value):(((((((i.setCell ⟨x,0,none⟩ a).setCell ⟨x,1,none⟩ b).setCell ⟨x,2,none⟩ c).setCell ⟨x,3,none⟩ d).setCell ⟨x,4,none⟩ e).setCell ⟨x,5,none⟩ f).setCell ⟨x,6,none⟩ g).heap[x]?=some (.cells #[a,b,c,d,e,f,g] t (0,0)):=by
 rw[aj (aj (aj (aj (aj (aj (aj h _ _) _ _) _ _) _ _) _ _) _ _)];simp
theorem wB (hg:∀r∈rs,Gk r) (hs:(enc rs).size≤2000) {f f2:Nat} {aH:List Tk} (ht:bG f rs=some aH) {ds:List (ByteArray×Nat)} {t:Fm} (hp:gv f2 aH=some (ds,t))
 (hR:∀e w' va D x0 x1 x2 x3 x4,e=.returned (.tuple (Il (.agg #[va,IM,x0,x1,x2,x3,x4]) ((enc rs).size) 0))→OwnDls w' w.heap.size va D→(D=[]→va=.slice none 0 0)→DlsOf D ds→FmAt w.heap.size w' (.agg #[x0,x1,x2,x3,x4]) t→Same w w'→R e w'):
 Calls Tryz.prog 33 #[.string (enc rs)] w R:=by
 have HR:=ae hR;clear hR;have IT:(enc rs).size≤maxLen:=by unfold maxLen;omega
 have ch:=ag w (.cells oI 29);have a8:=sal w (.cells oI 29);have h:=ae ch;have A:=ae a8;simp only[oI]at h A;clear ch a8;go_enter Tryz.func33,Tryz.ntmps33;go_wp2_with fail;generalize w.alloc _=w1 at h A⊢;refine q9 hg hs ht ?_;rintro e l u L rfl hu hL IR k2;have gI:=ae (k2.at h.o trivial);have dZ:=ae (A.o.tr k2);have IS:w.heap.size<w1.heap.size:=am h.o;have gJ:w1.heap.size≤l.heap.size:=k2.size;have cE:=ae hu.toks;have fd:Hid (∀q∈L,q.tk=.fin→q.k=4):=ae (fun q hq e=>by
  have h1:=(hu.2 q hq).2;unfold Qk.tk at e
  split at e
  ·cases e
  ·split at e
   ·cases e
   ·split at e
    ·cases e
    ·omega)
 have C:∀b,live u=some b→b<l.heap.size:=hu.toks.1.lt;obtain⟨s0,c0,rfl⟩:=av hu.1;have x:=sal l (.cells #[.slice s0 L.length c0,IU,false,IU,IU] 114);have aL:PAt (l.alloc (.cells #[.slice s0 L.length c0,IU,false,IU,IU] 114)) l.heap.size (.slice s0 L.length c0) L 0:=
  ⟨ag _ _,cE.o.keep x (fun _ _=>trivial),fun e=>by have :=C _ e;omega,by omega,Nat.zero_le _⟩
 have g:=ae aL;have Z:=ae (x.at gI.o trivial);have U:=ae (dZ.o.tr x);clear hu k2 x aL h A gI dZ cE C;go_wp2_with fail;generalize l.alloc _=w3 at g Z U⊢;generalize l.heap.size=p at g gJ⊢;refine zC g.o fd.o (by rw[List.drop_zero,hL];exact hp) ?_;rintro e w4 va D x0 x1 x2 x3 x4 m rfl hD E ce O h4 k4;have IW:p<w3.heap.size:=am g.o.blk;obtain⟨i,j,rfl⟩:=hD.shape;obtain⟨z,ka,kc,bL,_,_,_⟩:=O.shape;have If:=ae ce;have cH:=ae E;have fw:=ae (show OwnDls w4 (w.heap.size+1) (.slice i D.length j) D from⟨aN hD.1 (by omega),hD.2⟩);have d:=ae (cR O (show w.heap.size+1≤w3.heap.size by omega));have dE:Hid (Same w w4):=ae (U.o.trans k4 fun y hy _=>⟨trivial,by omega⟩);have c:=ae (k4.at Z.o (by omega));have c2:=xc1 h4.blk 2 rfl;obtain⟨N,M,J,I,H,G,F⟩:=xc7 c.o rfl rfl rfl rfl rfl rfl rfl;obtain⟨g0,g1,g2,g3,g4,g5,g6⟩:=xf7 c.o;simp only[Value.agg.injEq,Array.mk.injEq,List.cons.injEq,and_true]at bL;obtain⟨rfl,rfl,rfl,rfl,rfl⟩:=bL;generalize t.op=t0 at d⊢;generalize t.name=s at d⊢;generalize t.num=o at d⊢;generalize t.kids.length=n at d⊢;have n1:p≠w.heap.size:=by omega
 have n2:=n1.symm;clear hD ce O h4 k4 E g Z U
 iterate 4 (first|go_skip|go_guarded|go_step|go_upon|go_back|go_simp)
 have B:=dd w4 w.heap.size (.slice i D.length j) IM (.string t0) (.string s) (IP o) (IP z) (.slice ka n kc);have a:=iw c.o (.slice i D.length j) IM (.string t0) (.string s) (IP o) (IP z) (.slice ka n kc);have T:=ae (dE.o.box7 (Nat.le_refl _) (.slice i D.length j) IM (.string t0) (.string s) (IP o) (IP z) (.slice ka n kc));have Y:=ae (fw.o.but B (Nat.lt_succ_self _));have V:=ae (eE d.o B (Nat.lt_succ_self _));replace c2:=ak B c2 n1;clear N M J I H G F g0 g1 g2 g3 g4 g5 g6 B dE fw d c;generalize(((((((w4.setCell ⟨w.heap.size,0,none⟩ (.slice i D.length j)).setCell ⟨w.heap.size,1,none⟩ IM).setCell ⟨w.heap.size,2,none⟩ (.string t0)).setCell ⟨w.heap.size,3,none⟩ (.string s)).setCell ⟨w.heap.size,4,none⟩ (IP o)).setCell ⟨w.heap.size,5,none⟩ (IP z)).setCell ⟨w.heap.size,6,none⟩ (.slice ka n kc))=w5 at a T Y V c2⊢;have gH:=ae a;obtain⟨N,M,J,I,H,G,F⟩:=xc7 a rfl rfl rfl rfl rfl rfl rfl;obtain⟨g0,g1,g2,g3,g4,g5,g6⟩:=xf7 a;clear a;go_wp2_with fail;have B:=dd w5 w.heap.size (.slice i D.length j) IM (.string t0) (.string s) (IP o) (IP z) (.slice ka n kc);have a:=iw gH.o (.slice i D.length j) IM (.string t0) (.string s) (IP o) (IP z) (.slice ka n kc);have dp:=ae (T.o.box7 (Nat.le_refl _) (.slice i D.length j) IM (.string t0) (.string s) (IP o) (IP z) (.slice ka n kc));have X:=ae (Y.o.but B (Nat.lt_succ_self _));have fu:=ae (eE V.o B (Nat.lt_succ_self _));clear N M J I H G F g0 g1 g2 g3 g4 g5 g6 B T Y V gH c2;generalize(((((((w5.setCell ⟨w.heap.size,0,none⟩ (.slice i D.length j)).setCell ⟨w.heap.size,1,none⟩ IM).setCell ⟨w.heap.size,2,none⟩ (.string t0)).setCell ⟨w.heap.size,3,none⟩ (.string s)).setCell ⟨w.heap.size,4,none⟩ (IP o)).setCell ⟨w.heap.size,5,none⟩ (IP z)).setCell ⟨w.heap.size,6,none⟩ (.slice ka n kc))=w6 at a dp X fu⊢;obtain⟨N,M,J,I,H,G,F⟩:=xc7 a rfl rfl rfl rfl rfl rfl rfl;refine bodyPost_ret (v:=.tuple (Il (Ip i D.length j none 0 0 t0 s o z ka n kc) ((enc rs).size) 0)) (by simp[results,Tryz.results33,go_sem,N,M,J,I,H,G,F]) rfl ?_;exact HR.o _ _ _ D _ _ _ _ _ rfl ⟨aN X.o.1 (Nat.le_succ _),X.o.2⟩ cH.o If.o (cR fu.o (Nat.le_succ _)) dp.o
end
section
attribute [local irreducible] wpQuiet ax au aQ
variable {R:Ending→World→Prop} {w:World}
def Fm.size:Fm→Nat
 | .leaf _ _ _=>1
 | .one _ _ _ k=>k.size+1
 | .two _ _ _ a b=>a.size+b.size+1
def Fm.deep:Fm→Nat
 | .leaf _ _ _=>1
 | .one _ _ _ k=>k.deep+1
 | .two _ _ _ a b=>max a.deep b.deep+1
theorem uG {t k:Fm} (h:k∈t.kids):k.size<t.size:=by
 cases t<;>simp[Fm.kids]at h<;>(try (rcases h with rfl|rfl))<;>simp_all [Fm.size]<;>omega
theorem CD {t k:Fm} (h:k∈t.kids):k.deep<t.deep:=by
 cases t<;>simp[Fm.kids]at h<;>(try (rcases h with rfl|rfl))<;>simp_all [Fm.deep]<;>omega
theorem ir (t:Fm):1≤t.deep:=by cases t<;>simp[Fm.deep]
theorem oC (t:Fm):1≤t.size:=by cases t<;>simp[Fm.size]
theorem uF (t:Fm):(t.kids.map Fm.size).sum+1=t.size:=by
 cases t<;>simp[Fm.kids,Fm.size]
abbrev FmR (w:World) (v:Value) (t:Fm):Prop:=FmIn (fun _=>True) w v t
theorem FmAt.r {B:Nat} {v:Value} {t:Fm} (h:FmAt B w v t):FmR w v t:=bH (fun _ _ _=>trivial) h
def KidC (w:World) (bl off:Nat) (k:Fm):Prop:=
 ∃(a:Int) (ka:Option Addr) (kc:Nat),aK a∧k.kids.length≤kc∧kc≤maxLen∧w.cell? ⟨bl,off,none⟩=some (.string k.op)∧w.cell? ⟨bl,off+1,none⟩=some (.string k.name)∧w.cell? ⟨bl,off+2,none⟩=some (.int .i64 k.num)∧w.cell? ⟨bl,off+3,none⟩=some (.int .i64 a)∧w.cell? ⟨bl,off+4,none⟩=some (.slice ka k.kids.length kc)∧
  FmR w (Hw k.op k.name k.num a ka k.kids.length kc) k
theorem CE {c off:Nat} {k:Fm} (h:KidAt w c off (fun x=>FmR w x k)):KidC w c off k:=by
 obtain⟨q,p,o,n,m,l,j,i,g,f,b⟩:=h;obtain⟨a,ka,kc,e,d,h1,h2⟩:=b.shape;simp only[Value.agg.injEq,Array.mk.injEq,List.cons.injEq,and_true]at e;obtain⟨rfl,rfl,rfl,rfl,rfl⟩:=e;exact⟨a,ka,kc,d,h1,h2,l,j,i,g,f,b⟩
theorem FmIn.open {v:Value} {t:Fm} (h:FmR w v t):∃(a:Int) (ka:Option Addr) (kc:Nat),v=(Hw t.op t.name t.num a ka t.kids.length kc)∧aK a∧t.kids.length≤kc∧kc≤maxLen∧
 ∀i (c:i<t.kids.length),∃b off,ka=some ⟨b,off,none⟩∧KidC w b (off+i*5) t.kids[i]:=by
 cases t with
 |leaf op nm n=>
  obtain⟨a,ka,kc,rfl,h1,h2⟩:=h;exact⟨a,ka,kc,rfl,h1,Nat.zero_le _,h2,fun i c=>absurd c (Nat.not_lt_zero _)⟩
 |one op nm n k=>
  obtain⟨a,b,off,kc,rfl,⟨h1,h2,f⟩,_,e⟩:=h;refine⟨a,_,kc,rfl,h1,h2,f,fun i c=>⟨b,off,rfl,?_⟩⟩;have :i=0:=by simp[Fm.kids]at c;omega
  subst this
  show KidC w b (off+0*5) k
  rw[Nat.zero_mul,Nat.add_zero];exact CE e
 |two op nm n k l=>
  obtain⟨a,b,off,kc,rfl,⟨h1,h2,f⟩,_,e,g⟩:=h;refine⟨a,_,kc,rfl,h1,h2,f,fun i c=>⟨b,off,rfl,?_⟩⟩;have d:i<2:=c
  match i,d with
  |0,_=>show KidC w b (off+0*5) k;rw[Nat.zero_mul,Nat.add_zero];exact CE e
  |1,_=>show KidC w b (off+1*5) l;rw[Nat.one_mul];exact CE g
theorem KidC.same {c:World} {d off:Nat} {k:Fm} (h:KidC w d off k) (b:Same w c):KidC c d off k:=by
 obtain⟨a,ka,kc,h1,h2,f,m,l,j,i,g,e⟩:=h;exact⟨a,ka,kc,h1,h2,f,b.cell m trivial,b.cell l trivial,b.cell j trivial,b.cell i trivial,b.cell g trivial,e.same b⟩
theorem lF {l:List Nat} {k:Nat} (a:k<l.length):(l.take (k+1)).sum=(l.take k).sum+l[k]:=by
 rw[List.take_succ_eq_append_getElem a,List.sum_append];simp
theorem nU (l:List Nat) (k:Nat):(l.take k).sum≤l.sum:=by
 have :=List.take_append_drop k l;have h2:=congrArg List.sum this;rw[List.sum_append]at h2;omega
theorem yZ:∀(h:Nat) (t:Fm) (w:World) (v:Value) (b:Int) (R:Ending→World→Prop),t.size≤h→h≤2000→FmR w v t→b≤3000→-3000≤b→
 (∀e O (r:Nat),e=.returned (IP (r:Int))→r≤t.size→Same w O→R e O)→Calls Tryz.prog 184 (Ia v b) w R:=by
 intro h
 induction h with
 |zero=>intro t w v b R ht;have :=oC t;omega
 |succ h ih=>
  intro t w v b R ht h2 hv hm aL X;have L:=ae X;have IH:=ae ih;clear X ih;obtain⟨a,ka,kc,rfl,ha,U,o,c⟩:=hv.open;have p:=sal w (Ht t.op t.name t.num a ka t.kids.length kc);have d:=ae p;have I:=ae (ag w (Ht t.op t.name t.num a ka t.kids.length kc));have HC:Hid (∀i (hi:i<t.kids.length),∃H off,ka=some ⟨H,off,none⟩∧KidC w H (off+i*5) t.kids[i]):=ae c;unfold maxLen at o;clear hv p c I;have bL:=uF t;have n:∀k∈t.kids,k.size<t.size:=fun k V=>uG V;have M:=ae n;have J:=ae (rfl:t.kids=t.kids);generalize D:t.op=t0 at d⊢;generalize F:t.name=Z at d⊢;generalize E:t.num=Y at d⊢;clear D F E n J;by_cases h0:b≤0
  ·go_enter Tryz.func184,Tryz.ntmps184;go_wp2_with fail;exact L.o _ _ 0 rfl (Nat.zero_le _) d.o
  go_enter Tryz.func184,Tryz.ntmps184;go_wp2_with fail;generalize w.alloc _=w1 at d⊢
  go_loopw [5,7,13] (fun u _ i wr=>∃(k r:Nat),i=.int .i64 (k:Int)∧k≤t.kids.length∧u=.int .i64 (r:Int)∧r≤((t.kids.map Fm.size).take k).sum+1∧Hid (Same w wr)) (fun _ _ i _=>t.kids.length -(intOf i).toNat)
  case atStart=>exact⟨0,1,rfl,Nat.zero_le _,rfl,by simp,d⟩
  case round=>
   obtain⟨k,r,rfl,V,rfl,hr,f⟩:=hrel;have a8:=nU (t.kids.map Fm.size) k;by_cases g:k<t.kids.length
   ·obtain⟨H,off,rfl,a',C,B,_,_,_,A,z,y,x,s,c⟩:=HC.o k g;have h_:=xs5 f.o A z y x s;clear A z y x s;obtain⟨A,z,y,x,s⟩:=h_;have m:=lF (l:=t.kids.map Fm.size) (k:=k) (by simpa using g);rw[List.getElem_map]at m;have G:=M.o _ (List.getElem_mem g);generalize t.kids[k]=j at A z y x s c m G;have q:=ae (c.same (f.o.alloc (Ht j.op j.name j.num a' C j.kids.length B)));clear c;by_cases ce:b≤(r:Int)
    ·go_wp2_with fail;exact L.o _ _ r rfl (by omega) (f.o.alloc _)
    ·go_wp2_with fail;refine IH.o j _ _ _ _ (by omega) (by omega) q.o (by omega) (by omega) ?_;rintro e w2 r2 rfl aH T;have N:=ae ((f.o.alloc _).tr T);clear T A z y x s;go_wp2_with fail;go_roundw
     case rel=>exact⟨k+1,r+r2,by go_num,by omega,by go_num,by omega,N⟩
     case measure=>simp[intOf];omega
   ·go_wp2_with fail;exact L.o _ _ r rfl (by omega) f.o
theorem Bf {t:Fm} {v:Value} (hv:FmR w v t) (h2:t.size≤2000) (q:∀e o (r:Nat),e=.returned (IP (r:Int))→r≤t.size→Same w o→R e o):Calls Tryz.prog 134 #[v] w R:=by
 have x:=ae q;clear q;obtain⟨a,ka,kc,rfl,E,g,f,c⟩:=hv.open;have d:=sal w (Ht t.op t.name t.num a ka t.kids.length kc);have b:=ae d;have m:=ae (ag w (Ht t.op t.name t.num a ka t.kids.length kc));have y:Hid (∀i (D:i<t.kids.length),∃s off,ka=some ⟨s,off,none⟩∧KidC w s (off+i*5) t.kids[i]):=ae c;unfold maxLen at f;have h:=ae (hv.same d);clear hv d c m y;generalize j:t.op=t0 at b h⊢;generalize l:t.name=C at b h⊢;generalize k:t.num=B at b h⊢;clear j l k;generalize t.kids.length=A at b h g⊢;go_enter Tryz.func134,Tryz.ntmps134;go_wp2_with fail;refine yZ _ t _ _ _ _ (Nat.le_refl _) h2 h.o (by omega) (by omega) ?_;rintro e z r rfl u p;have n:=ae (b.o.tr p);clear p;go_wp2_with fail;exact x.o _ _ r rfl u n.o
theorem vT:∀(h:Nat) (t:Fm) (w:World) (v:Value) (b:Int) (R:Ending→World→Prop),t.deep≤h→h≤100→FmR w v t→b≤3000→-3000≤b→
 (∀e I (r:Nat),e=.returned (IP (r:Int))→r≤t.deep→Same w I→R e I)→Calls Tryz.prog 185 (Ia v b) w R:=by
 intro h
 induction h with
 |zero=>intro t w v b R Y;have :=ir t;omega
 |succ h ih=>
  intro t w v b R Y h2 hv hm aL T;have U:=ae T;have IH:=ae ih;clear T ih;obtain⟨a,ka,kc,rfl,ha,N,l,c⟩:=hv.open;have m:=sal w (Ht t.op t.name t.num a ka t.kids.length kc);have d:=ae m;have G:=ae (ag w (Ht t.op t.name t.num a ka t.kids.length kc));have HC:Hid (∀i (hi:i<t.kids.length),∃F off,ka=some ⟨F,off,none⟩∧KidC w F (off+i*5) t.kids[i]):=ae c;unfold maxLen at l;clear hv m c G;have M:=ir t;have H:Hid (∀k∈t.kids,k.deep<t.deep):=ae (fun k O=>CD O);generalize B:t.op=t0 at d⊢;generalize D:t.name=X at d⊢;generalize C:t.num=V at d⊢;clear B D C;by_cases h0:b≤1
  ·go_enter Tryz.func185,Tryz.ntmps185;go_wp2_with fail;exact U.o _ _ 1 rfl M d.o
  go_enter Tryz.func185,Tryz.ntmps185;go_wp2_with fail;generalize w.alloc _=w1 at d⊢
  go_loopw [5,7,13] (fun u _ i wr=>∃(k r:Nat),i=.int .i64 (k:Int)∧k≤t.kids.length∧u=.int .i64 (r:Int)∧r<t.deep∧Hid (Same w wr)) (fun _ _ i _=>t.kids.length -(intOf i).toNat)
  case atStart=>exact⟨0,0,rfl,Nat.zero_le _,rfl,M,d⟩
  case round=>
   obtain⟨k,r,rfl,O,rfl,hr,f⟩:=hrel;by_cases j:k<t.kids.length
   ·obtain⟨F,off,rfl,a',A,z,_,_,_,y,x,s,q,p,c⟩:=HC.o k j;have h_:=xs5 f.o y x s q p;clear y x s q p;obtain⟨y,x,s,q,p⟩:=h_;have E:=H.o _ (List.getElem_mem j);generalize t.kids[k]=g at y x s q p c E;have n:=ae (c.same (f.o.alloc (Ht g.op g.name g.num a' A g.kids.length z)));clear c;go_wp2_with fail;refine IH.o g _ _ _ _ (by omega) (by omega) n.o (by omega) (by omega) ?_;rintro e w2 J rfl Z L;have o:=ae ((f.o.alloc _).tr L);clear L y x s q p;go_wp2_with fail;go_roundw
    case rel=>
     by_cases aH:(r:Int)<(J:Int)
     ·exact⟨k+1,J,by go_num,by omega,by simp;omega,by omega,o⟩
     ·exact⟨k+1,r,by go_num,by omega,by simp;omega,by omega,o⟩
    case measure=>simp[intOf];omega
   ·go_wp2_with fail;exact U.o _ _ (r+1) (by simp) (by omega) f.o
theorem y8 {t:Fm} {v:Value} (hv:FmR w v t) (h2:t.deep≤100) (q:∀e o (r:Nat),e=.returned (IP (r:Int))→r≤t.deep→Same w o→R e o):Calls Tryz.prog 135 #[v] w R:=by
 have x:=ae q;clear q;obtain⟨a,ka,kc,rfl,E,g,f,c⟩:=hv.open;have d:=sal w (Ht t.op t.name t.num a ka t.kids.length kc);have b:=ae d;have m:=ae (ag w (Ht t.op t.name t.num a ka t.kids.length kc));have y:Hid (∀i (D:i<t.kids.length),∃s off,ka=some ⟨s,off,none⟩∧KidC w s (off+i*5) t.kids[i]):=ae c;unfold maxLen at f;have h:=ae (hv.same d);clear hv d c m y;generalize j:t.op=t0 at b h⊢;generalize l:t.name=C at b h⊢;generalize k:t.num=B at b h⊢;clear j l k;generalize t.kids.length=A at b h g⊢;go_enter Tryz.func135,Tryz.ntmps135;go_wp2_with fail;refine vT _ t _ _ _ _ (Nat.le_refl _) h2 h.o (by omega) (by omega) ?_;rintro e z r rfl u p;have n:=ae (b.o.tr p);clear p;go_wp2_with fail;exact x.o _ _ r rfl u n.o
theorem Ec {t:Fm} {v:Value} (hv:FmR w v t) (hs:t.size≤2000) (Y:t.deep≤30) (C:∀e A,e=.returned (.bool true)→Same w A→R e A):Calls Tryz.prog 88 #[v] w R:=by
 have M:=ae C;clear C;obtain⟨a,ka,kc,rfl,Z,p,o,l⟩:=hv.open;have m:=sal w (Ht t.op t.name t.num a ka t.kids.length kc);have c:=ae m;have b:=ae (ag w (Ht t.op t.name t.num a ka t.kids.length kc));have N:Hid (∀i (X:i<t.kids.length),∃D off,ka=some ⟨D,off,none⟩∧KidC w D (off+i*5) t.kids[i]):=ae l;unfold maxLen at o;have n:=ae (hv.same m);obtain⟨j,h,g,f,d⟩:=xc5 b.o rfl rfl rfl rfl rfl;clear hv m l N b;generalize q:t.op=t0 at c n j h g f d⊢;generalize u:t.name=G at c n j h g f d⊢;generalize s:t.num=F at c n j h g f d⊢;generalize t.kids.length=E at c n p j h g f d⊢;clear q u s;go_enter Tryz.func88,Tryz.ntmps88;go_wp2_with fail;generalize w.alloc _=U at c n j h g f d⊢;refine Bf n.o hs ?_;rintro e T r rfl V k;have h_:=xs5 k j h g f d;clear j h g f d;obtain⟨j,h,g,f,d⟩:=h_;have x:=ae (n.o.same k);have z:=ae (c.o.tr k);have L:(r:Int)≤2000:=by omega
 clear k;go_wp2_with fail;refine y8 x.o (by omega) ?_;rintro e O H rfl J B;have I:(H:Int)≤30:=by omega
 have y:=ae (z.o.tr B);clear B;go_wp2_with fail;exact M.o _ _ rfl y.o
end
end Go.Proofs.YtojegnbejmeehaaGreatDoor
