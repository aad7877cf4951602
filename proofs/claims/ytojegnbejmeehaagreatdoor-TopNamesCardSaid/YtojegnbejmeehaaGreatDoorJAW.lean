/- Helpers of the proof of TopNames. -/
import Derived.Test.YtojegnbejmeehaaGreatDoorJAV
namespace Go.Proofs.YtojegnbejmeehaaGreatDoor
open Go.RowKit
set_option maxRecDepth 10000
set_option maxHeartbeats 16000000
set_option linter.all false
section
attribute [local irreducible] wpQuiet ax au aQ
variable {R:Ending→World→Prop} {w:World}
theorem BO {D:List Dl} {u:Value} {x:ByteArray} (g:DeclsAt w u D) (d:0<D.length) (h:D.length≤100000) (k:∀e f,e=.returned (IP (eo D x))→Same w f→R e f):
 Calls Tryz.prog 90 #[u,.string x] w R:=by
 obtain⟨a,c,rfl,h1,h2,l⟩:=g.open;obtain⟨b,off,rfl,j,i⟩:=l 0 d;exact py h h1 j i k
def fj (D:List Dl) (t:Fm):Int:=if t.op=GG then eo D t.name else 1
theorem yt {D:List Dl} {x:ByteArray} (h:0≤eo D x):0<D.length:=by
 cases D with
 |nil=>simp[eo]at h
 |cons d D=>simp
theorem Ap {D:List Dl} {u v:Value} {t:Fm} (d:DeclsAt w u D) (r:D.length≤100000) (q:GoodT t) (hv:FmR w v t) (h0:0≤fj D t) (p:∀e m,e=.returned (.tuple #[IP (fj D t),IU,IU])→Same w m→R e m):
 Calls Tryz.prog 141 #[u,v] w R:=by
 have f:=ae p;clear p;obtain⟨A,y,rfl,_,_,_⟩:=d.open;have B:=ae d
 cases q with
 |vr l hl'=>
  obtain⟨a,ka,kc,rfl,s,i⟩:=hv;have b:fj D (.leaf GG (enc l) 0)=eo D (enc l):=if_pos rfl;rw[b]at f h0;have h:=yt h0;have g:=sal w (Ht GG (enc l) 0 a ka 0 kc);have c:=ae g;have j:=ae (d.same g);clear g d b;go_enter Tryz.func141,Tryz.ntmps141;go_wp2_with fail;refine BO j.o h r ?_;rintro e x rfl o;have k:=ae (c.o.tr o);generalize eo D (enc l)=z at f h0⊢;clear o;go_wp2_with fail;exact f.o _ _ rfl k.o
 |nm n h1 h2=>
  obtain⟨a,ka,kc,rfl,s,i⟩:=hv;have b:fj D (.leaf GH GA n)=1:=if_neg (show¬(GH:ByteArray)=GG by decide);rw[b]at f;have c:=ae ((af (fun _=>True) w).alloc (Ht GH GA n a ka 0 kc));clear d b;go_enter Tryz.func141,Tryz.ntmps141;go_wp2_with fail;exact f.o _ _ rfl c.o
def BT (D:List Dl):Prop:=∀i (hi:i<D.length),eo (D.take i) D[i].name<0
theorem xd {D:List Dl} {u:Value} (Y:DeclsAt w u D) (hl:D.length≤100000) (ho:BT D) (hR:∀e l,e=.returned (.tuple (It 0 0))→Same w l→R e l):
 Calls Tryz.prog 56 #[u] w R:=by
 have HR:=ae hR;clear hR;obtain⟨ua,I,rfl,h1,h2,h3⟩:=Y.open;have HC:=ae h3;have HO:=ae ho;unfold maxLen at h2;clear Y h3 ho;go_enter Tryz.func56,Tryz.ntmps56;go_wp2_with fail
 go_loopw [8] (fun i wr=>∃k:Nat,i=.int .i64 (k:Int)∧k≤D.length∧Hid (Same w wr)) (fun i _=>D.length -(intOf i).toNat)
 case atStart=>exact⟨0,rfl,Nat.zero_le _,ae (af _ _)⟩
 case round=>
  obtain⟨k,rfl,hk,a⟩:=hrel;by_cases n:k<D.length
  ·obtain⟨b,off,rfl,hb,o⟩:=HC.o k n;obtain⟨G,F,E⟩:=o k n;have h_:=xs3 a.o G F E;clear G F E;obtain⟨G,F,E⟩:=h_;have ho:=HO.o k n;have HT:Hid (∀j (C:j<(D.take k).length),wr.cell? ⟨b,off+j*3,none⟩=some (.string (D.take k)[j].name)∧wr.cell? ⟨b,off+j*3+1,none⟩=some (.int .i64 (D.take k)[j].ord)∧wr.cell? ⟨b,off+j*3+2,none⟩=some (.int .i64 (D.take k)[j].spot)):=ae (fun j C=>by
    have U:j<D.length:=by rw[List.length_take]at C;omega
    obtain⟨B,L,J⟩:=o j U;rw[List.getElem_take];exact⟨ak a.o B trivial,ak a.o L trivial,ak a.o J trivial⟩)
   have O:(D.take k).length=k:=by rw[List.length_take];omega
   have v:b<wr.heap.size:=Nat.lt_of_lt_of_le hb a.o.size;have aH:k≤I:=by omega
   clear o;obtain⟨⟨nm,s,r⟩,Z⟩:∃d,D[k]=d:=⟨_,rfl⟩;rw[Z]at G F E ho;clear Z;have t:Same w (wr.alloc (In nm s r)):=a.o.alloc _;have X:=ag wr (In nm s r);have q:=xc1 X 0 rfl;have M:=sal wr (In nm s r);have c:=ae M;have p:wr.heap.size≤(wr.alloc (In nm s r)).heap.size:=M.size;have A:=ae t;clear t X M;go_wp2_with fail;clear G F E;generalize wr.alloc _=f at c A q p⊢;generalize wr.heap.size=bx at q v p⊢;have m:Same f f.drew:=al (af _ f);refine az (.take 0 (.take 1 (.take 2 (.take 3 (.take 4 (.one 5 (.take 6 .done))))))) (Same f) (by kernel_rfl) (by kernel_rfl) m ?_
   iterate 5 (first|(apply aF;rfl;rfl;go_simp)|(apply aD;rfl;rfl;intro l hS;have B:=ak hS q trivial;go_simp;exact rfl;go_simp))
   refine aP (ay rfl rfl fun K y=>?_);go_simp;have g:∀(H:Ending→World→Prop),(∀e l,e=.returned (IP (eo (D.take k) nm))→Same f.drew l→H e l)→Calls Tryz.prog 90 #[.slice (IQ b off) k I,.string nm] f.drew H:=fun H h=>by
    have :=py (w:=f.drew) (R:=H) (b:=b) (off:=off) (cap:=I) (D:=D.take k) (x:=nm) (by omega) (by omega) (Nat.lt_of_lt_of_le v p) (fun j C=>by
     obtain⟨B,L,J⟩:=HT.o j C;exact⟨ak (c.o.tr m) B trivial,ak (c.o.tr m) L trivial,ak (c.o.tr m) J trivial⟩) h
    rwa [O]at this
   refine g _ ?_;rintro e w2 rfl N;refine y (Same f) _ _ (m.tr N) (fun _ h=>h) ?_;clear y K
   iterate 1 (first|(apply aF;rfl;rfl;go_simp)|(apply aD;rfl;rfl;intro l hS;go_simp;exact rfl;go_simp))
   apply aW;go_simp;have V:=ae (A.o.tr (m.tr N));have T:¬(0:Int)≤eo (D.take k) nm:=by omega
   generalize eo (D.take k) nm=z at ho T⊢;clear N m g q;go_wp2_with fail;go_roundw
   case rel=>exact⟨k+1,by go_num,by omega,V⟩
   case measure=>simp[intOf];omega
  ·go_wp2_with fail;exact HR.o _ _ rfl a.o
end
section
attribute [local irreducible] wpQuiet ax au aQ
variable {R:Ending→World→Prop} {w:World}
theorem F0 (w:World):(Op.equalIn 10000 193 (Im 1 1) (Im 1 1)).run Tryz.prog w=.ok true w:=by kernel_rfl
theorem FZ (w:World):(Op.equalIn 10000 193 (Im 1 2) (Im 1 2)).run Tryz.prog w=.ok true w:=by kernel_rfl
theorem FY (w:World):(Op.equalIn 10000 193 (Im 2 2) (Im 2 2)).run Tryz.prog w=.ok true w:=by kernel_rfl
theorem FX (w:World):(Op.equalIn 10000 193 (Im 1 1) (Im 2 2)).run Tryz.prog w=.ok false w:=by kernel_rfl
attribute [local go_sem] F0 FZ FY FX
theorem yd {d:ByteArray} (ho:d=GK∨d=GR) (g:∀e f,e=.returned (Im 1 1)→Same w f→R e f):Calls Tryz.prog 142 #[.string d] w R:=by
 have h:=ae g;clear g;rcases ho with rfl|rfl
 ·skip
  go_enter Tryz.func142,Tryz.ntmps142;go_wp2_with fail;have a:=ag w (Io 1 1);obtain⟨c,b⟩:=xc2 a rfl rfl;refine bodyPost_ret (v:=(Im 1 1)) (by simp[results,Tryz.results142,go_sem,c,b]) rfl ?_;exact h.o _ _ rfl ((af _ _).alloc _)
 ·skip
  go_enter Tryz.func142,Tryz.ntmps142;go_wp2_with fail;have a:=ag w (Io 1 1);obtain⟨c,b⟩:=xc2 a rfl rfl;refine bodyPost_ret (v:=(Im 1 1)) (by simp[results,Tryz.results142,go_sem,c,b]) rfl ?_;exact h.o _ _ rfl ((af _ _).alloc _)
theorem D5 (c:∀e a,e=.returned (Im 1 2)→Same w a→R e a):Calls Tryz.prog 142 #[.string GN] w R:=by
 have g:=ae c;clear c;go_enter Tryz.func142,Tryz.ntmps142;go_wp2_with fail;have b:=ag w (Io 1 2);obtain⟨f,d⟩:=xc2 b rfl rfl;refine bodyPost_ret (v:=(Im 1 2)) (by simp[results,Tryz.results142,go_sem,f,d]) rfl ?_;exact g.o _ _ rfl ((af _ _).alloc _)
theorem yb {d:ByteArray} (ho:d=GE∨d=GQ) (g:∀e f,e=.returned (Im 2 2)→Same w f→R e f):Calls Tryz.prog 142 #[.string d] w R:=by
 have h:=ae g;clear g;rcases ho with rfl|rfl
 ·skip
  go_enter Tryz.func142,Tryz.ntmps142;go_wp2_with fail;have a:=ag w (Io 2 2);obtain⟨c,b⟩:=xc2 a rfl rfl;refine bodyPost_ret (v:=(Im 2 2)) (by simp[results,Tryz.results142,go_sem,c,b]) rfl ?_;exact h.o _ _ rfl ((af _ _).alloc _)
 ·skip
  go_enter Tryz.func142,Tryz.ntmps142;go_wp2_with fail;have a:=ag w (Io 2 2);obtain⟨c,b⟩:=xc2 a rfl rfl;refine bodyPost_ret (v:=(Im 2 2)) (by simp[results,Tryz.results142,go_sem,c,b]) rfl ?_;exact h.o _ _ rfl ((af _ _).alloc _)
def Gs (op:ByteArray) (x y:Int):Prop:=((op=GK∨op=GR)∧x=1∧y=1)∨(op=GN∧x=1∧y=2)∨(op=GE∧x=2∧y=2)∨(op=GQ∧x=1∧y=1)
theorem Ao {D:List Dl} {c u v:Value} {G:ByteArray} {t B:Fm} (hu:DeclsAt w u D) (hl:D.length≤100000) (ha:GoodT t) (hb:GoodT B) (hk:Gs G (fj D t) (fj D B)) (hv:FmR w v (.two G GA 0 t B)) (hR:∀e r,e=.returned (.tuple (It 0 0))→Same w r→R e r):
 Calls Tryz.prog 93 #[c,u,v] w R:=by
 have HR:=ae hR;clear hR;obtain⟨ua,uc,rfl,_,_,_⟩:=hu.open;obtain⟨o,ka,kc,rfl,_,ch,ce,n⟩:=hv.open;simp only[Fm.op,Fm.name,Fm.num,Fm.kids,List.length_cons,List.length_nil]at n ch⊢;unfold maxLen at ce;have HC:=ae n;have N:0≤fj D t∧0≤fj D B:=by
  rcases hk with⟨_,h1,h2⟩|⟨_,h1,h2⟩|⟨_,h1,h2⟩|⟨_,h1,h2⟩<;>omega
 have J:(w.alloc (Ht G GA 0 o ka 2 kc)).heap.size=w.heap.size+1:=by simp
 have H:=aw (ag w (Ht G GA 0 o ka 2 kc)) (Io 0 0);have L:=ag (w.alloc (Ht G GA 0 o ka 2 kc)) (Io 0 0);rw[J]at L;have kk:Same w ((w.alloc (Ht G GA 0 o ka 2 kc)).alloc (Io 0 0)):=((af _ w).alloc _).alloc _;have U:=ae H;have aL:=ae L;have Z:=ae kk;have HU:=ae hu;clear H L kk J n hv hu;go_enter Tryz.func93,Tryz.ntmps93;go_wp2_with fail;generalize(w.alloc (Ht G GA 0 o ka 2 kc)).alloc (Io 0 0)=w1 at U aL Z⊢
 go_loopw [18] (fun i wr=>∃(k:Nat) (x y:Int),i=.int .i64 (k:Int)∧k≤2∧(k=0∨x=fj D t)∧(k<2∨y=fj D B)∧Hid (Same w wr)∧Hid (wr.heap[w.heap.size]?=(Ih G GA 0 o ka 2 kc))∧Hid (wr.heap[w.heap.size+1]?=(IB x y))) (fun i _=>2 -(intOf i).toNat)
 case atStart=>exact⟨0,0,0,rfl,by omega,.inl rfl,.inl (by omega),Z,U,aL⟩
 case round=>
  obtain⟨k,x,y,rfl,fw,hx,L,p,V,s⟩:=hrel;clear U aL Z;by_cases A:k<2
  ·obtain⟨bl,off,rfl,a',F,E,_,_,_,c0,c1,c2,c3,c4,n⟩:=HC.o k A;have h_:=xs5 p.o c0 c1 c2 c3 c4;clear c0 c1 c2 c3 c4;obtain⟨c0,c1,c2,c3,c4⟩:=h_;have O:GoodT ([t,B][k]'A)∧0≤fj D ([t,B][k]'A):=by
    match k,A with
    |0,_=>exact⟨ha,N.1⟩
    |1,_=>exact⟨hb,N.2⟩
   obtain⟨a,M⟩:∃a,[t,B][k]'A=a:=⟨_,rfl⟩;rw[M]at c0 c1 c2 c4 n O;have I:=ae (n.same (p.o.alloc (Ht a.op a.name a.num a' F a.kids.length E)));have X:=ae (p.o.alloc (Ht a.op a.name a.num a' F a.kids.length E));have dE:=ae (aw V.o (Ht a.op a.name a.num a' F a.kids.length E));have fu:=ae (aw s.o (Ht a.op a.name a.num a' F a.kids.length E));clear n p V s;go_wp2_with fail;refine Ap (HU.o.same X.o) hl O.1 I.o O.2 ?_;rintro e C rfl b;have j:=ae (X.o.tr b);have dZ:=ae (b.at dE.o trivial);have q:=ae (b.at fu.o trivial);have cE:k=0∨k=1:=by omega
   clear b X dE fu I c0 c1 c2 c3 c4;obtain⟨z,H⟩:∃z,fj D a=z:=⟨_,rfl⟩;rw[H];obtain⟨g,f⟩:=xc2 q.o rfl rfl;obtain⟨f0,f1⟩:=xf2 q.o;rcases cE with rfl|rfl
   ·have dp:Hid (z=fj D t):=ae (by rw[←H,←M];rfl);clear H;go_wp2_with fail;have ky:=(af (·≠w.heap.size+1) C).but 0 (IP z);have Y:=ae (j.o.new (Nat.le_succ _) 0 (IP z));have T:=ae (ky.at dZ.o (by omega));have aH:Hid ((C.setCell ⟨w.heap.size+1,0,none⟩ (IP z)).heap[w.heap.size+1]?=(IB z y)):=ae (by rw[aj q.o];simp);go_roundw
    case rel=>exact⟨1,z,y,rfl,by omega,.inr dp.o,.inl (by omega),Y,T,aH⟩
    case measure=>simp[intOf]
   ·have cH:Hid (z=fj D B):=ae (by rw[←H,←M];rfl);clear H;have fd:Hid (x=fj D t):=ae (hx.resolve_left (by omega));clear hx L;go_wp2_with fail;have ky:=(af (·≠w.heap.size+1) C).but 1 (IP z);have Y:=ae (j.o.new (Nat.le_succ _) 1 (IP z));have T:=ae (ky.at dZ.o (by omega));have aH:Hid ((C.setCell ⟨w.heap.size+1,1,none⟩ (IP z)).heap[w.heap.size+1]?=(IB x z)):=ae (by rw[aj q.o];simp);go_roundw
    case rel=>exact⟨2,x,z,rfl,by omega,.inr fd.o,.inr cH.o,Y,T,aH⟩
    case measure=>simp[intOf]
  ·obtain rfl:k=2:=by omega
   have bL:x=fj D t:=by rcases hx with h|h;·omega
                        ·exact h
   have a8:y=fj D B:=by rcases L with h|h;·omega
                        ·exact h
   rw[←bL,←a8]at hk;clear hx L bL a8 N;rcases hk with⟨rfl|rfl,rfl,rfl⟩|⟨rfl,rfl,rfl⟩|⟨rfl,rfl,rfl⟩|⟨rfl,rfl,rfl⟩
   ·skip
    have a:Same wr wr.drew:=al (af _ wr);have l:=xc1 V.o 0 rfl;obtain⟨g,f⟩:=xc2 s.o rfl rfl;go_wp2_with fail;refine az (.take 0 (.take 1 (.take 2 (.one 3 (.take 4 (.take 5 .done)))))) (Same wr) (by kernel_rfl) (by kernel_rfl) a ?_
    iterate 3 (first|(apply aF;rfl;rfl;go_simp)|(apply aD;rfl;rfl;intro r m;obtain⟨q0,J,q2⟩:=xs3 m l g f;go_simp;exact rfl;go_simp))
    refine aP (ay rfl rfl fun K d=>?_);go_simp;refine yd (.inl rfl) ?_;rintro e C rfl b;refine d (Same wr) _ _ (a.tr b) (fun _ h=>h) ?_;clear d K
    iterate 2 (first|(apply aF;rfl;rfl;go_simp)|(apply aD;rfl;rfl;intro r m;go_simp;exact rfl;go_simp))
    apply aW;go_simp;have j:=ae (p.o.tr (a.tr b));replace l:=ak (a.tr b) l trivial;replace g:=ak (a.tr b) g trivial;replace f:=ak (a.tr b) f trivial;clear b a;go_wp2_with fail;exact HR.o _ _ rfl j.o
   ·skip
    have a:Same wr wr.drew:=al (af _ wr);have l:=xc1 V.o 0 rfl;obtain⟨g,f⟩:=xc2 s.o rfl rfl;go_wp2_with fail;refine az (.take 0 (.take 1 (.take 2 (.one 3 (.take 4 (.take 5 .done)))))) (Same wr) (by kernel_rfl) (by kernel_rfl) a ?_
    iterate 3 (first|(apply aF;rfl;rfl;go_simp)|(apply aD;rfl;rfl;intro r m;obtain⟨q0,J,q2⟩:=xs3 m l g f;go_simp;exact rfl;go_simp))
    refine aP (ay rfl rfl fun K d=>?_);go_simp;refine yd (.inr rfl) ?_;rintro e C rfl b;refine d (Same wr) _ _ (a.tr b) (fun _ h=>h) ?_;clear d K
    iterate 2 (first|(apply aF;rfl;rfl;go_simp)|(apply aD;rfl;rfl;intro r m;go_simp;exact rfl;go_simp))
    apply aW;go_simp;have j:=ae (p.o.tr (a.tr b));replace l:=ak (a.tr b) l trivial;replace g:=ak (a.tr b) g trivial;replace f:=ak (a.tr b) f trivial;clear b a;go_wp2_with fail;exact HR.o _ _ rfl j.o
   ·skip
    have a:Same wr wr.drew:=al (af _ wr);have l:=xc1 V.o 0 rfl;obtain⟨g,f⟩:=xc2 s.o rfl rfl;go_wp2_with fail;refine az (.take 0 (.take 1 (.take 2 (.one 3 (.take 4 (.take 5 .done)))))) (Same wr) (by kernel_rfl) (by kernel_rfl) a ?_
    iterate 3 (first|(apply aF;rfl;rfl;go_simp)|(apply aD;rfl;rfl;intro r m;obtain⟨q0,J,q2⟩:=xs3 m l g f;go_simp;exact rfl;go_simp))
    refine aP (ay rfl rfl fun K d=>?_);go_simp;refine D5 ?_;rintro e C rfl b;refine d (Same wr) _ _ (a.tr b) (fun _ h=>h) ?_;clear d K
    iterate 2 (first|(apply aF;rfl;rfl;go_simp)|(apply aD;rfl;rfl;intro r m;go_simp;exact rfl;go_simp))
    apply aW;go_simp;have j:=ae (p.o.tr (a.tr b));replace l:=ak (a.tr b) l trivial;replace g:=ak (a.tr b) g trivial;replace f:=ak (a.tr b) f trivial;clear b a;go_wp2_with fail;exact HR.o _ _ rfl j.o
   ·skip
    have a:Same wr wr.drew:=al (af _ wr);have l:=xc1 V.o 0 rfl;obtain⟨g,f⟩:=xc2 s.o rfl rfl;go_wp2_with fail;refine az (.take 0 (.take 1 (.take 2 (.one 3 (.take 4 (.take 5 .done)))))) (Same wr) (by kernel_rfl) (by kernel_rfl) a ?_
    iterate 3 (first|(apply aF;rfl;rfl;go_simp)|(apply aD;rfl;rfl;intro r m;obtain⟨q0,J,q2⟩:=xs3 m l g f;go_simp;exact rfl;go_simp))
    refine aP (ay rfl rfl fun K d=>?_);go_simp;refine yb (.inl rfl) ?_;rintro e C rfl b;refine d (Same wr) _ _ (a.tr b) (fun _ h=>h) ?_;clear d K
    iterate 2 (first|(apply aF;rfl;rfl;go_simp)|(apply aD;rfl;rfl;intro r m;go_simp;exact rfl;go_simp))
    apply aW;go_simp;have j:=ae (p.o.tr (a.tr b));replace l:=ak (a.tr b) l trivial;replace g:=ak (a.tr b) g trivial;replace f:=ak (a.tr b) f trivial;clear b a;go_wp2_with fail;exact HR.o _ _ rfl j.o
   ·skip
    have a:Same wr wr.drew:=al (af _ wr);have l:=xc1 V.o 0 rfl;obtain⟨g,f⟩:=xc2 s.o rfl rfl;go_wp2_with fail;refine az (.take 0 (.take 1 (.take 2 (.one 3 (.take 4 (.take 5 .done)))))) (Same wr) (by kernel_rfl) (by kernel_rfl) a ?_
    iterate 3 (first|(apply aF;rfl;rfl;go_simp)|(apply aD;rfl;rfl;intro r m;obtain⟨q0,J,q2⟩:=xs3 m l g f;go_simp;exact rfl;go_simp))
    refine aP (ay rfl rfl fun K d=>?_);go_simp;refine yb (.inr rfl) ?_;rintro e C rfl b;refine d (Same wr) _ _ (a.tr b) (fun _ h=>h) ?_;clear d K
    iterate 2 (first|(apply aF;rfl;rfl;go_simp)|(apply aD;rfl;rfl;intro r m;go_simp;exact rfl;go_simp))
    apply aW;go_simp;have j:=ae (p.o.tr (a.tr b));replace l:=ak (a.tr b) l trivial;replace g:=ak (a.tr b) g trivial;replace f:=ak (a.tr b) f trivial;clear b a;go_wp2_with fail;exact HR.o _ _ rfl j.o
end
section
attribute [local irreducible] wpQuiet ax au aQ
variable {R:Ending→World→Prop} {w:World}
def ScR (w:World) (u:Value) (D:List Dl):Prop:=DeclsAt w u D∧(D=[]→u=.slice none 0 0)∧D.length≤1000
theorem ScR.same {a:World} {u:Value} {D:List Dl} (h:ScR w u D) (k:Same w a):ScR a u D:=⟨h.1.same k,h.2⟩
theorem iT {D:List Dl} {u:Value} (s:ScR w u D) (B:∀e o z,e=.returned z→OwnDls o w.heap.size z D→Same w o→R e o):
 Calls Tryz.prog 94 #[u] w R:=by
 have C:=ae B;clear B;obtain⟨p,n,O⟩:=s;by_cases h0:D.length=0
 ·obtain rfl:D=[]:=List.eq_nil_of_length_eq_zero h0;rw[n rfl];go_enter Tryz.func94,Tryz.ntmps94;have H:(binOp .eql 23 IM IM).run Tryz.prog w=.ok (.bool true) w:=by
   simp[binOp,run_equal_slice_nil w 23 33 _ _ _ Tryz.underlying23]
  go_wp2_with fail;exact C.o _ _ _ rfl (OwnDls.nil _ _) (af _ _)
 ·have m:0<D.length:=by omega
  have l:=sal w (.cells #[] 33);have r:StrAt 3 w u (D.map Dl.cells):=by
   obtain⟨a,c,rfl,h1,h2,q⟩:=p.1;simp only[List.length_map]at *;refine⟨a,c,by simp,by simpa using h1,h2,?_⟩;rcases q with q|⟨b,off,v,e,L,rfl,J,I⟩
   ·exact .inl (by simpa using q)
   ·refine .inr ⟨b,off,v,e,L,rfl,J,fun i x hx j y h=>?_⟩;simp only[List.getElem?_map,Option.map_eq_some_iff]at hx;obtain⟨d,p,rfl⟩:=hx;obtain⟨G,F,E⟩:=I i (.string d.name,.int .i64 d.ord,.int .i64 d.spot) (by simp[p])
    match j,h with
    |0,h=>simp[Dl.cells]at h;subst h;exact G
    |1,h=>simp[Dl.cells]at h;subst h;exact F
    |2,h=>simp[Dl.cells]at h;subst h;exact E
  obtain⟨a,c,rfl,h1,h2,q⟩:=p.open;obtain⟨b,off,rfl,T,_⟩:=q 0 m;obtain⟨g,cap,o,t,f,A,_,_⟩:=fO (P:=Tryz.prog) (k:=3) (vs:=[]) (by decide) (w.alloc (.cells #[] 33)) 23 23 33 Tryz.underlying23 eI rfl (World.ownsRow_lit (base:=w.heap.size) (e:=33) (size:=3) w #[] 0 (Nat.le_refl _) (Nat.zero_le _) rfl) l.size (r.same l) (by rw[List.length_map];exact m) (fun x hx=>by obtain⟨d,_,rfl⟩:=List.mem_map.1 hx;rfl) (fun x hx u s=>by obtain⟨d,_,rfl⟩:=List.mem_map.1 hx;simp[Dl.cells]at s;rcases s with rfl|rfl|rfl<;>rfl) (by rw[List.length_map];omega) (by decide);rw[List.length_map,Nat.zero_add]at t f;have M:Hid (OwnDls o w.heap.size (.slice (IQ g 0) D.length cap) D):=ae ⟨by simpa using f,p.2⟩;have N:Hid (Same w o):=ae (l.trans A fun x hx _=>⟨trivial,by simp[Value.ownBlock];omega⟩);unfold maxLen at h2;clear q r p f A l n;go_enter Tryz.func94,Tryz.ntmps94;have H:(binOp .eql 23 (.slice (IQ b off) D.length c) IM).run Tryz.prog w=.ok (.bool false) w:=by
   simp[binOp,run_equal_slice_nil w 23 33 _ _ _ Tryz.underlying23]
  go_wp2_with (at_builtin;refine ap rfl _ _ _ rfl rfl rfl t ?_;clear t)
  exact C.o _ _ _ rfl M.o N.o
inductive WellF:List Dl→Fm→Prop where
 |bin (D:List Dl) (op:ByteArray) (a b:Fm) (ho:op=GL∨op=GO∨op=GF) (ha:WellF D a) (hb:WellF D b):WellF D (.two op GA 0 a b)
 |qu (D:List Dl) (op:ByteArray) (l:List Nat) (k:Fm) (ho:op=GB∨op=GC) (hl:NameR l) (hk:WellF (D++[⟨enc l,1,0⟩]) k):WellF D (.one op (enc l) 1 k)
 |isv (D:List Dl) (l:List Nat) (hl:NameR l) (h0:eo D (enc l)=0):WellF D (.leaf GI (enc l) 0)
 |rel (D:List Dl) (op:ByteArray) (a b:Fm) (ha:GoodT a) (hb:GoodT b) (hk:Gs op (fj D a) (fj D b)):WellF D (.two op GA 0 a b)
def xY (c:Value) (D:List Dl) (t:Fm):Prop:=
 ∀(w:World) (v u:Value) (R:Ending→World→Prop),FmR w v t→ScR w u D→(∀e w',e=.returned (.tuple (It 0 0))→Same w w'→R e w')→Calls Tryz.prog 58 #[c,u,v] w R
theorem se (c:Value) {D:List Dl} {t:Fm} (ht:WellF D t):D.length+t.deep≤200→xY c D t:=by
 induction ht with
 |bin D op a b ho _ _ iha ihb=>
  intro H w v u R hv B Z;have HR:=ae Z;clear Z;have fu:D.length+a.deep≤200:=by simp[Fm.deep]at H;omega
  have fd:D.length+b.deep≤200:=by simp[Fm.deep]at H;omega
  obtain⟨E,ka,kc,rfl,_,m,q,f⟩:=hv.open;simp only[Fm.op,Fm.name,Fm.num,Fm.kids]at f m⊢;unfold maxLen at q;obtain⟨ua,uc,rfl,_,_,_⟩:=B.1.open;have HC:Hid (∀i (hi:i<[a,b].length),∃O off,ka=some ⟨O,off,none⟩∧KidC w O (off+i*5) [a,b][i]):=ae f;have a8:Hid (∀k∈[a,b],xY c D k):=ae (fun k N=>by
   simp only[List.mem_cons,List.not_mem_nil,or_false]at N;rcases N with rfl|rfl
   ·exact iha fu
   ·exact ihb fd)
  have dp:Hid (∀w',Same w w'→ScR w' (.slice ua D.length uc) D):=ae (fun w' k=>B.same k);have ce:=ae (af (fun _=>True) w);clear f hv B iha ihb fu fd;generalize cE:[a,b]=J at HC a8 m⊢;clear cE;have dE:=ae ((af (fun _=>True) w).alloc (Ht op GA 0 E ka J.length kc));rcases ho with rfl|rfl|rfl
  all_goals
   go_enter Tryz.func58,Tryz.ntmps58;go_wp2_with fail
   go_loopw [9,65] (fun _ i wr=>∃k:Nat,i=.int .i64 (k:Int)∧k≤J.length∧Hid (Same w wr)) (fun _ i _=>J.length -(intOf i).toNat)
   case atStart=>exact⟨0,rfl,Nat.zero_le _,dE⟩
   case round=>
    obtain⟨k,rfl,N,C⟩:=hrel;by_cases X:k<J.length
    ·obtain⟨O,off,rfl,a',U,T,_,_,_,c0,c1,c2,c3,c4,f⟩:=HC.o k X;have h_:=xs5 C.o c0 c1 c2 c3 c4;clear c0 c1 c2 c3 c4;obtain⟨c0,c1,c2,c3,c4⟩:=h_;have G:=a8.o _ (List.getElem_mem X);generalize J[k]=o at c0 c1 c2 c3 c4 f G;have aH:=ae (f.same (C.o.alloc (Ht o.op o.name o.num a' U o.kids.length T)));have aL:=ae (C.o.alloc (Ht o.op o.name o.num a' U o.kids.length T));have HI:=ae G;clear f G;go_wp2_with fail;refine HI.o _ _ _ _ aH.o (dp.o _ aL.o) ?_;rintro e w2 rfl V;have I:=ae (aL.o.tr V);clear V c0 c1 c2 c3 c4;go_wp2_with fail;go_roundw
     case rel=>exact⟨k+1,by go_num,by omega,I⟩
     case measure=>simp[intOf];omega
    ·go_wp2_with fail;exact HR.o _ _ rfl (ce.o.tr C.o)
 |qu D op l k ho hl _ ihk=>
  intro H w v u R hv B Z;have HR:=ae Z;clear Z;have ch:(D++[(⟨enc l,1,0⟩:Dl)]).length+k.deep≤200:=by simp[Fm.deep]at H⊢;omega
  obtain⟨E,ka,kc,rfl,_,m,q,f⟩:=hv.open;simp only[Fm.op,Fm.name,Fm.num,Fm.kids]at f m⊢;unfold maxLen at q;obtain⟨ua,uc,rfl,_,_,_⟩:=B.1.open;have gH:Hid (∀i (hi:i<[k].length),∃O off,ka=some ⟨O,off,none⟩∧KidC w O (off+i*5) [k][i]):=ae f;have a8:Hid (∀k'∈[k],xY c (D++[(⟨enc l,1,0⟩:Dl)]) k'):=ae (fun k' N=>by
   simp only[List.mem_cons,List.not_mem_nil,or_false]at N;rw[N];exact ihk ch)
  have HU:=ae B;have IS:=hl.size;have IT:D.length+1≤1000:=by simp at ch;omega
  clear f hv B ihk ch H;generalize cE:[k]=J at gH a8 m⊢;clear cE;have r:=sal w (Ht op (enc l) 1 E ka J.length kc);have hz:=ag w (Ht op (enc l) 1 E ka J.length kc);have z1:=xc1 hz 1 rfl;have z2:=xc1 hz 2 rfl;have z4:=xc1 hz 4 rfl;have F:=ae r;clear r hz;rcases ho with rfl|rfl
  all_goals
   go_enter Tryz.func58,Tryz.ntmps58;go_wp2_with fail;generalize w.alloc _=n at F z1 z2 z4⊢;have o:Same n n.drew:=al (af _ n);refine az (.take 0 (.take 2 (.take 3 (.take 4 (.take 5 (.take 6 (.two 1 7 (.one 7 (.one 8 (.take 9 .done))) (.one 1 (.one 8 (.take 9 .done)))))))))) (Same n) (by kernel_rfl) (by kernel_rfl) o ?_
   iterate 6 (first|(apply aF;rfl;rfl;go_simp)|(apply aD;rfl;rfl;intro w' hS;obtain⟨q1,q2⟩:=xs2 hS z1 z2;go_simp;exact rfl;go_simp))
   refine rT ?_ ?_;refine ay rfl rfl fun K s=>?_;go_simp;refine iT (HU.o.same (F.o.tr o)) ?_;rintro e w5 u5 rfl p k5;refine s (Same n) _ _ (o.tr k5) (fun _ h=>h) ?_;clear s K;obtain⟨s5,c5,rfl⟩:=p.shape;have L:Same n w5:=o.tr k5;obtain⟨g,cap,w7,hr,z,Y,_,_⟩:=cF (P:=Tryz.prog) (k:=3) (by decide) w5 23 23 33 Tryz.underlying23 eI rfl p.1 k5.size [.string (enc l),.int .i64 1,.int .i64 0] rfl (by simp[Value.oneCell']) (by omega) (by decide);have HO:Hid (OwnDls w7 n.drew.heap.size (.slice (IQ g 0) (D.length+1) cap) (D++[(⟨enc l,1,0⟩:Dl)])):=ae ⟨by simpa [Dl.cells]using z,fun d M=>by
    rcases List.mem_append.1 M with M|M
    ·exact p.2 d M
    ·simp at M;subst M;exact⟨by show aK 1;unfold aK;omega,by show aK 0;unfold aK;omega,by show(enc l).size≤maxLen;unfold maxLen;omega⟩⟩
   have A:Same n w7:=L.trans Y fun y hy _=>⟨trivial,fun e=>by
    have :=(ah p.1 e).1;have h2:n.heap.size≤n.drew.heap.size:=o.size;omega⟩
   refine aP (ay rfl rfl fun K s=>?_);go_simp;refine s (Same n) _ _ (L.alloc _) (fun _ h=>h) ?_;clear s K;refine aP ?_;refine bZ _ _ _ rfl rfl rfl ?hs ?hx hr (Same n) A (fun _ h=>h) ?_
   case hs=>rfl
   case hx=>rfl
   clear hr z p k5 Y L;go_simp
   rotate_left
   refine ay rfl rfl fun K s=>?_;go_simp;have bL:Same n (n.drew.alloc (In (enc l) 1 0)):=o.alloc _;have gI:=ag n.drew (In (enc l) 1 0);refine s (Same n) _ _ bL (fun _ h=>h) ?_;clear s K;have IR:n.drew.heap.size=n.heap.size:=rfl;refine aP (ay rfl rfl fun K s=>?_);go_simp;refine iT (HU.o.same (F.o.tr bL)) ?_;rintro e w5 u5 rfl p k5;refine s (Same n) _ _ (bL.tr k5) (fun _ h=>h) ?_;clear s K;obtain⟨s5,c5,rfl⟩:=p.shape;have L:Same n w5:=bL.tr k5;have dZ:StrAt 3 w5 (.slice (IQ n.heap.size 0) 1 1) [(⟨enc l,1,0⟩:Dl).cells]:=⟨_,1,rfl,by simp,by unfold maxLen;omega,.inr ⟨_,0,_,_,_,rfl,k5.at gI trivial,fun i x hx j y hy=>by
    match i,hx with
    |0,hx=>
     simp only[List.getElem?_cons_zero,Option.some.injEq]at hx;subst hx
     simpa [Dl.cells]using hy⟩⟩
   obtain⟨g,cap,w7,hr,z,Y,_,_⟩:=fO (P:=Tryz.prog) (k:=3) (by decide) w5 23 23 33 Tryz.underlying23 eI rfl p.1 k5.size dZ (by simp) (fun x hx=>by simp at hx;subst hx;rfl) (fun x hx u B=>by simp at hx;subst hx;simp[Dl.cells]at B;rcases B with rfl|rfl|rfl<;>rfl) (by simp;omega) (by decide);simp only[List.length_cons,List.length_nil,Nat.zero_add]at hr z;have HO:Hid (OwnDls w7 n.heap.size (.slice (IQ g 0) (D.length+1) cap) (D++[(⟨enc l,1,0⟩:Dl)])):=ae ⟨aN (by simpa [Dl.cells]using z) (Nat.le_succ _),fun d M=>by
    rcases List.mem_append.1 M with M|M
    ·exact p.2 d M
    ·simp at M;subst M;exact⟨by show aK 1;unfold aK;omega,by show aK 0;unfold aK;omega,by show(enc l).size≤maxLen;unfold maxLen;omega⟩⟩
   have A:Same n w7:=L.trans Y fun y hy _=>⟨trivial,fun e=>by
    have h2:(n.alloc (In (enc l) 1 0)).heap.size=n.heap.size+1:=by simp
    have h1:n.heap.size+1≤y:=by rw[←h2];exact(ah p.1 e).1
    omega⟩
   refine aP ?_;refine bZ _ _ _ rfl rfl rfl ?hs ?hx hr (Same n) A (fun _ h=>h) ?_
   case hs=>rfl
   case hx=>rfl
   clear hr z p k5 Y L dZ;go_simp
   all_goals
    iterate 1 (first|(apply aF;rfl;rfl;go_simp)|(apply aD;rfl;rfl;intro w' hS;go_simp;exact rfl;go_simp))
    apply aW;go_simp;have ce:=ae (F.o.tr A);have HC:Hid (∀i (hi:i<J.length),∃O off,ka=some ⟨O,off,none⟩∧KidC w7 O (off+i*5) J[i]):=ae (fun i hi=>by
     obtain⟨O,off,e,N⟩:=gH.o i hi;exact⟨O,off,e,N.same ce.o⟩)
    have dp:Hid (∀w',Same w7 w'→ScR w' (.slice (IQ g 0) (D.length+1) cap) (D++[(⟨enc l,1,0⟩:Dl)])):=ae (fun w' k=>⟨HO.o.decls.same k,fun e=>by simp at e,by simp;omega⟩);have dE:=ae (af (fun _=>True) w7);replace z4:=ak A z4 trivial;clear A z1 z2;go_wp2_with fail
    go_loopw [9,65] (fun _ i wr=>∃k:Nat,i=.int .i64 (k:Int)∧k≤J.length∧Hid (Same w7 wr)) (fun _ i _=>J.length -(intOf i).toNat)
    case atStart=>exact⟨0,rfl,Nat.zero_le _,dE⟩
    case round=>
     obtain⟨k,rfl,N,C⟩:=hrel;by_cases X:k<J.length
     ·obtain⟨O,off,rfl,a',U,T,_,_,_,c0,c1,c2,c3,c4,f⟩:=HC.o k X;have h_:=xs5 C.o c0 c1 c2 c3 c4;clear c0 c1 c2 c3 c4;obtain⟨c0,c1,c2,c3,c4⟩:=h_;have G:=a8.o _ (List.getElem_mem X);generalize J[k]=o at c0 c1 c2 c3 c4 f G;have aH:=ae (f.same (C.o.alloc (Ht o.op o.name o.num a' U o.kids.length T)));have aL:=ae (C.o.alloc (Ht o.op o.name o.num a' U o.kids.length T));have HI:=ae G;clear f G;go_wp2_with fail;refine HI.o _ _ _ _ aH.o (dp.o _ aL.o) ?_;rintro e w2 rfl V;have I:=ae (aL.o.tr V);clear V c0 c1 c2 c3 c4;go_wp2_with fail;go_roundw
      case rel=>exact⟨k+1,by go_num,by omega,I⟩
      case measure=>simp[intOf];omega
     ·go_wp2_with fail;exact HR.o _ _ rfl (ce.o.tr C.o)
 |isv D l hl h0=>
  intro H w v u R hv B Z;have HR:=ae Z;clear Z;obtain⟨E,ka,kc,rfl,_,m,q,f⟩:=hv.open;simp only[Fm.op,Fm.name,Fm.num,Fm.kids,List.length_cons,List.length_nil]at f m⊢;unfold maxLen at q;obtain⟨ua,uc,rfl,_,_,_⟩:=B.1.open;have gJ:=yt (show 0≤eo D (enc l) by omega);have r:=sal w (Ht GI (enc l) 0 E ka 0 kc);have F:=ae r;have cH:=ae (B.1.same r);clear f hv B r;go_enter Tryz.func58,Tryz.ntmps58;go_wp2_with fail;refine BO cH.o gJ (by omega) ?_;rintro e w2 rfl V;rw[h0];have I:=ae (F.o.tr V);clear V;go_wp2_with fail;exact HR.o _ _ rfl I.o
 |rel D op a b ha hb N=>
  intro H w v u R hv B Z;have HR:=ae Z;clear Z;have HV:=ae hv;obtain⟨E,ka,kc,rfl,_,m,q,f⟩:=hv.open;simp only[Fm.op,Fm.name,Fm.num,Fm.kids,List.length_cons,List.length_nil]at f m⊢;unfold maxLen at q;obtain⟨ua,uc,rfl,_,_,_⟩:=B.1.open;have HU:=ae B.1;clear f hv B;have r:=sal w (Ht op GA 0 E ka 2 kc);have F:=ae r;have fw:=ae (HV.o.same r);have cH:=ae (HU.o.same r);have If:=ae N;clear r HV HU;simp only[Fm.op,Fm.name,Fm.num,Fm.kids,List.length_cons,List.length_nil]at fw;rcases N with⟨rfl|rfl,_,_⟩|⟨rfl,_,_⟩|⟨rfl,_,_⟩|⟨rfl,_,_⟩
  all_goals
   go_enter Tryz.func58,Tryz.ntmps58;go_wp2_with fail;refine Ao cH.o (by omega) ha hb If.o fw.o ?_;rintro e w2 rfl V;have I:=ae (F.o.tr V);clear V;go_wp2_with fail;exact HR.o _ _ rfl I.o
end
end Go.Proofs.YtojegnbejmeehaaGreatDoor
