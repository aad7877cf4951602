/- Helpers of the proof of TopNames. -/
import Derived.Carry
import Derived.Maps.Keyed
import Derived.Test.YtojegnbejmeehaaGreatDoorJAA
namespace Go.Proofs.YtojegnbejmeehaaGreatDoor
open Go.RowKit
set_option maxRecDepth 10000
set_option maxHeartbeats 16000000
set_option linter.all false
section
structure KeyT (P:Program) (kt:TypeId) {α:Type} [DecidableEq α] (enc:α→Value):Prop where
 find:∀(x:α) (w:World) (es:List MapEntry) (A:List (α×Value)),es.map (fun e=>(e.key,e.val))=A.map (fun p=>(enc p.1,p.2))→
  (Instr.findKey kt (enc x) es).run P w=.ok (((A.zipIdx).find? fun p=>decide (x=p.1.1)).map fun p=>(p.2,p.1.2)) w
 check:∀b x w,(Instr.checkKey b 10000 kt (enc x)).run P w=.ok () w
 stays:∀x w,(Instr.keyThatStays (enc x) (enc x)).run P w=.ok (enc x) w
def MapAt {α:Type} (enc:α→Value) (w:World) (m:Nat) (A:List (α×Value)):Prop:=
 ∃es clk,w.heap[m]?=some (.map es clk)∧es.toList.map (fun e=>(e.key,e.val))=A.map fun p=>(enc p.1,p.2)
section
variable {P:Program} {kt:TypeId} {α:Type} [DecidableEq α] {enc:α→Value}
theorem jA (a:∀(x y:α) w,(Op.equal kt (enc x) (enc y)).run P w=.ok (decide (x=y)) w) (x:α) (w:World):∀(b:List MapEntry) (A:List (α×Value)) (i:Nat),b.map (fun e=>(e.key,e.val))=A.map (fun p=>(enc p.1,p.2))→
 (Instr.findAsking kt (enc x) b i).run P w=.ok (((A.zipIdx i).find? fun p=>decide (x=p.1.1)).map fun p=>(p.2,p.1.2)) w
 | [],A,i,h=>by
  have :A=[]:=by simpa using h.symm
  subst this;simp[Instr.findAsking]
 |e::b,A,i,h=>by
  cases A with
  |nil=>simp at h
  |cons p A=>
   simp only[List.map_cons,List.cons.injEq,Prod.mk.injEq]at h;obtain⟨⟨h1,h2⟩,d⟩:=h;have c:=jA a x w b A (i+1) d;unfold Instr.findAsking;simp only[Sem.run_bind,h1,a,Result.andThen_ok];by_cases hx:x=p.1
   ·simp[hx,h2]
   ·simp[hx,c]
theorem ro (a:∀d,P.underlying kt=some d→∀(x:α) y,Instr.sameNow d (enc x) y=none) (c:∀(x y:α) w,(Op.equal kt (enc x) (enc y)).run P w=.ok (decide (x=y)) w) {d:TypeDesc} (f:P.underlying kt=some d)
 (x:α) (w:World) (b:List MapEntry) (A:List (α×Value)) (h:b.map (fun e=>(e.key,e.val))=A.map (fun p=>(enc p.1,p.2))):
 (Instr.findKey kt (enc x) b).run P w=.ok (((A.zipIdx).find? fun p=>decide (x=p.1.1)).map fun p=>(p.2,p.1.2)) w:=by
 unfold Instr.findKey;simp only[Sem.run_bind,run_underlying f,Result.andThen_ok]
 cases b with
 |nil=>
  have :A=[]:=by simpa using h.symm
  subst this;simp[Instr.findNow]
 |cons e b=>
  have :Instr.findNow d (enc x) (e::b) 0=none:=by
   unfold Instr.findNow;rw[a d f]
  simp only[this];exact jA c x w _ A 0 h
theorem nF (x:Int):∀(a:List MapEntry) (A:List (Int×Value)) (i:Nat),a.map (fun e=>(e.key,e.val))=A.map (fun p=>(Value.int .i64 p.1,p.2))→
 Instr.findNow (.int .i64) (IP x) a i=some (((A.zipIdx i).find? fun p=>decide (x=p.1.1)).map fun p=>(p.2,p.1.2))
 | [],A,i,h=>by
  have :A=[]:=by simpa using h.symm
  subst this;simp[Instr.findNow]
 |e::a,A,i,h=>by
  cases A with
  |nil=>simp at h
  |cons p A=>
   simp only[List.map_cons,List.cons.injEq,Prod.mk.injEq]at h;obtain⟨⟨h1,h2⟩,d⟩:=h;have b:=nF x a A (i+1) d;unfold Instr.findNow;rw[h1];by_cases hx:x=p.1
   ·simp[Instr.sameNow,hx,h2]
   ·have c:(x==p.1)=false:=by simpa using hx
    simp[Instr.sameNow,hx,c,b]
theorem E3 (a:P.underlying kt=some (.int .i64)):KeyT P kt (Value.int .i64)where
 find:=fun x w c A h=>by
  unfold Instr.findKey;simp only[Sem.run_bind,run_underlying a,Result.andThen_ok,nF x c A 0 h];rfl
 check:=fun b x w=>by
  show(Instr.checkKey b (9999+1) kt (IP x)).run P w=_
  unfold Instr.checkKey;simp[run_underlying a]
 stays:=fun x w=>by
  unfold Instr.keyThatStays;rw[if_pos]
  ·rfl
  ·show Instr.sameBits (9999+1) _ _=true
   simp[Instr.sameBits]
theorem jz (A:List (α×Value)) (x:α):∀i,((A.zipIdx i).find? fun p=>decide (x=p.1.1)).map (fun p=>p.1.2)=A.lookup x:=by
 induction A with
 |nil=>intro i;rfl
 |cons p A ih=>
  intro i;by_cases hx:x=p.1
  ·subst hx;simp[List.lookup]
  ·have h1:(x==p.1)=false:=by simpa using hx
   simp only[List.zipIdx_cons,List.find?_cons,hx,decide_false,List.lookup];rw[h1];exact ih (i+1)
theorem b8 (K:KeyT P kt enc) {t e:TypeId} {z:Value} (d:P.underlying t=some (.map kt e)) {w:World} {m:Nat} {A:List (α×Value)} (c:(zeroValue e).run P w=.ok z w)
 (f:MapAt enc w m A) (x:α):
 (Instr.lookup t (.map (some m)) (enc x) true).run P w=.ok (.tuple (Id ((A.lookup x).getD z) (A.lookup x).isSome)) w:=by
 obtain⟨h,i,h1,h2⟩:=f;have g:=K.find x w h.toList A h2;have a:=jz A x 0;unfold Instr.lookup;simp only[Sem.run_bind,run_underlying d,Result.andThen_ok,MapKept.run_getObj_map h1,K.check,Sem.run_pure,g]
 cases b:(A.zipIdx).find? fun p=>decide (x=p.1.1)with
 |none=>rw[b]at a;simp at a;simp[←a,c]
 |some p=>rw[b]at a;simp at a;simp[←a]
theorem aR (K:KeyT P kt enc) {t e:TypeId} (h:P.underlying t=some (.map kt e)) {w:World} {m:Nat} {A:List (α×Value)}
 (j:MapAt enc w m A) (x:α) (v:Value) (hx:A.lookup x=none):
 ∃b,(Instr.mapUpdate t (.map (some m)) (enc x) v).run P w=.ok () b∧MapAt enc b m (A++[(x,v)])∧Keeps (·≠m) w b:=by
 obtain⟨f,a,h1,h2⟩:=j;have g:=K.find x w f.toList A h2;have d:=jz A x 0;rw[hx]at d;have i:((A.zipIdx).find? fun p=>decide (x=p.1.1))=none:=by
  cases l:(A.zipIdx).find? fun p=>decide (x=p.1.1)with
  |none=>rfl
  |some p=>rw[l]at d;simp at d
 rw[i]at g;refine⟨ChangeMaps.setBlock w m (.map (f.push ⟨enc x,v,a⟩) (a+1)),?_,⟨f.push ⟨enc x,v,a⟩,a+1,?_,?_⟩,?_⟩
 ·unfold Instr.mapUpdate;simp[run_underlying h,MapKept.run_getObj_map h1,K.check,g,MapKept.run_setObj_map _ h1,Result.andThen,ChangeMaps.setBlock]
 ·have :=am h1;simp[ChangeMaps.setBlock,this]
 ·simp[h2]
 ·refine⟨rfl,rfl,rfl,by simp[ChangeMaps.setBlock],fun k n c=>?_⟩;simp[ChangeMaps.setBlock,Ne.symm c]
theorem oF (K:KeyT P kt enc) {t e:TypeId} (C:P.underlying t=some (.map kt e)) {w:World} {m:Nat} {A:List (α×Value)}
 (E:MapAt enc w m A) (x:α) (v:Value):
 ∃b A',(Instr.mapUpdate t (.map (some m)) (enc x) v).run P w=.ok () b∧MapAt enc b m A'∧(∀p∈A',p∈A∨p=(x,v))∧Keeps (·≠m) w b:=by
 by_cases hx:A.lookup x=none
 ·obtain⟨b,h1,h2,a⟩:=aR K C E x v hx;exact⟨b,_,h1,h2,fun p u=>by simpa using u,a⟩
 ·obtain⟨g,o,h1,h2⟩:=E;have G:=K.find x w g.toList A h2;have F:=jz A x 0;obtain⟨q,s⟩:∃q,((A.zipIdx).find? fun p=>decide (x=p.1.1))=some q:=by
   cases L:(A.zipIdx).find? fun p=>decide (x=p.1.1)with
   |none=>rw[L]at F;exact absurd F.symm hx
   |some q=>exact⟨q,rfl⟩
  rw[s]at G;have c:x=q.1.1:=by have :=List.find?_some s;simpa using this
  have r:q∈A.zipIdx:=List.mem_of_find?_eq_some s;obtain⟨⟨M,I⟩,i⟩:=q;simp only at c;subst c;have f:A[i]?=some (x,I):=by
   have :=List.mem_zipIdx_iff_getElem?.1 r
   simpa using this
  have J:i<A.length:=(List.getElem?_eq_some_iff.1 f).1;have B:∃j,g[i]?=some j∧j.key=enc x:=by
   have a:=congrArg (fun l=>l[i]?) h2;simp only[List.getElem?_map,f,Option.map_some,Array.getElem?_toList]at a
   cases H:g[i]? with
   |none=>rw[H]at a;cases a
   |some j=>rw[H]at a;simp at a;exact⟨j,rfl,a.1⟩
  obtain⟨j,d,z⟩:=B;refine⟨ChangeMaps.setBlock w m (.map (g.modify i fun e=>{e with key:=enc x,val:=v}) o),A.set i (x,v),?_,⟨g.modify i fun e=>{e with key:=enc x,val:=v},o,?_,?_⟩,?_,?_⟩
  ·unfold Instr.mapUpdate;simp[run_underlying C,MapKept.run_getObj_map h1,K.check,G,d,z,K.stays,MapKept.run_setObj_map _ h1,Result.andThen,ChangeMaps.setBlock]
  ·have :=am h1;simp[ChangeMaps.setBlock,this]
  ·apply List.ext_getElem?;intro n;have a:=congrArg (fun l=>l[n]?) h2;simp only[List.getElem?_map,Array.getElem?_toList]at a⊢;rw[Array.getElem?_modify,List.getElem?_set];by_cases D:i=n
   ·subst D;simp[d,J]
   ·simp[D];exact a
  ·intro p u;rcases List.mem_or_eq_of_mem_set u with h|h
   ·exact .inl h
   ·exact .inr h
  ·refine⟨rfl,rfl,rfl,by simp[ChangeMaps.setBlock],fun k N y=>?_⟩;simp[ChangeMaps.setBlock,Ne.symm y]
end
theorem wW {α:Type} [DecidableEq α] {A:List (α×Value)} {x:α} {v:Value} (h:A.lookup x=some v):(x,v)∈A:=by
 induction A with
 |nil=>cases h
 |cons p A ih=>
  obtain⟨y,u⟩:=p;by_cases e:x=y
  ·subst e;simp at h;subst h;simp
  ·have :(x==y)=false:=by simpa using e
   simp only[List.lookup,this]at h;exact List.mem_cons_of_mem _ (ih h)
theorem MapAt.keep {α:Type} {enc:α→Value} {S:Nat→Prop} {w b:World} {m:Nat} {A:List (α×Value)} (h:MapAt enc w m A) (k:Keeps S w b) (hs:S m):MapAt enc b m A:=by
 obtain⟨c,a,h1,h2⟩:=h;exact⟨c,a,k.at h1 hs,h2⟩
end
end Go.Proofs.YtojegnbejmeehaaGreatDoor
