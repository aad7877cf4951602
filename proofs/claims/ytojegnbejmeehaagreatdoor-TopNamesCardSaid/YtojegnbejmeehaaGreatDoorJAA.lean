/- Helpers of the proof of TopNames. -/
import Derived.WalkKit
import Derived.WalkSpells
import Derived.WalkLawsBesides
import Derived.Deep.QuietTactic
import Derived.BigQuiet
import Derived.KernelRfl
import Derived.Deep.AppendLies
namespace Go.Proofs.YtojegnbejmeehaaGreatDoor
open Go.RowKit
set_option maxRecDepth 10000
set_option maxHeartbeats 16000000
set_option linter.all false
def Hid (p:Prop):Prop:=p
theorem Hid.o {p:Prop} (h:Hid p):p:=h
structure K {α:Type} (a:α) where
instance {α:Type} {a:α}:CoeOut (K a) α:=⟨fun _=>a⟩
instance {α β:Type} {f:α→β}:CoeFun (K f) (fun _=>α→β):=⟨fun _=>f⟩
instance:Coe Int Value:=⟨.int .i64⟩
instance:Coe Nat Value:=⟨fun n=>.int .i64 n⟩
instance:Coe ByteArray Value:=⟨.string⟩
instance:Coe Bool Value:=⟨.bool⟩
def GA:K (⟨#[]⟩:ByteArray):=⟨⟩
def GB:K (⟨#[101,120]⟩:ByteArray):=⟨⟩
def GC:K (⟨#[97,108,108]⟩:ByteArray):=⟨⟩
def GD:K (⟨#[97,110,100]⟩:ByteArray):=⟨⟩
def GE:K (⟨#[115,117,98]⟩:ByteArray):=⟨⟩
def GF:K (⟨#[105,102,102]⟩:ByteArray):=⟨⟩
def GG:K (⟨#[118,97,114]⟩:ByteArray):=⟨⟩
def GH:K (⟨#[110,117,109]⟩:ByteArray):=⟨⟩
def GI:K (⟨#[105,115]⟩:ByteArray):=⟨⟩
def GJ:K (⟨#[110,111,116]⟩:ByteArray):=⟨⟩
def GK:K (⟨#[108,116]⟩:ByteArray):=⟨⟩
def GL:K (⟨#[105,109,112]⟩:ByteArray):=⟨⟩
def GM:K (⟨#[59]⟩:ByteArray):=⟨⟩
def GN:K (⟨#[105,110]⟩:ByteArray):=⟨⟩
def GO:K (⟨#[111,114]⟩:ByteArray):=⟨⟩
def GP:K (⟨#[115,105,110,103]⟩:ByteArray):=⟨⟩
def GQ:K (⟨#[101,113]⟩:ByteArray):=⟨⟩
def GR:K (⟨#[108,101]⟩:ByteArray):=⟨⟩
def GS:K (⟨#[120]⟩:ByteArray):=⟨⟩
def GT:K (⟨#[121]⟩:ByteArray):=⟨⟩
def GU:K (⟨#[116,114,117,101]⟩:ByteArray):=⟨⟩
def GV:K (⟨#[102,108,97,103]⟩:ByteArray):=⟨⟩
def GW:K (⟨#[58]⟩:ByteArray):=⟨⟩
def GX:K (⟨#[101,120,49]⟩:ByteArray):=⟨⟩
def GY:K (⟨#[60,61,62]⟩:ByteArray):=⟨⟩
def GZ:K (⟨#[61,62]⟩:ByteArray):=⟨⟩
def G0:K (⟨#[97,108,108,49]⟩:ByteArray):=⟨⟩
def G1:K (⟨#[60]⟩:ByteArray):=⟨⟩
def G2:K (⟨#[118,97,114,49]⟩:ByteArray):=⟨⟩
def G3:K (⟨#[99,97,108,108]⟩:ByteArray):=⟨⟩
def G4:K (⟨#[108,101,115,115]⟩:ByteArray):=⟨⟩
def G5:K (⟨#[40]⟩:ByteArray):=⟨⟩
def G6:K (⟨#[118,97,114,50]⟩:ByteArray):=⟨⟩
def G7:K (⟨#[124]⟩:ByteArray):=⟨⟩
def G8:K (⟨#[44]⟩:ByteArray):=⟨⟩
def G9:K (⟨#[109,105,110,117,115]⟩:ByteArray):=⟨⟩
def Ha:K (⟨#[117,110,105,111,110]⟩:ByteArray):=⟨⟩
def Hb:K (⟨#[105,110,116,101,114]⟩:ByteArray):=⟨⟩
def Hc:K (⟨#[61]⟩:ByteArray):=⟨⟩
def Hd:K (⟨#[60,61]⟩:ByteArray):=⟨⟩
def He:K (⟨#[118,97,114,48]⟩:ByteArray):=⟨⟩
def Hf:K (⟨#[112,114,101,100]⟩:ByteArray):=⟨⟩
def Hg:K (⟨#[110,111,116,105,110]⟩:ByteArray):=⟨⟩
def Hi:K (⟨#[102,97,108,115,101]⟩:ByteArray):=⟨⟩
def Hj:K (⟨#[112,108,117,115]⟩:ByteArray):=⟨⟩
def Hk:K (⟨#[110,111,110,101]⟩:ByteArray):=⟨⟩
def Hl:K (.cells #[.string ⟨#[]⟩,.int .i64 0,.int .i64 0,.int .i64 0,.int .i64 0,.slice none 0 0] 70:Obj):=⟨⟩
def Hm:K (.cells #[.int .i64 0,.int .i64 0,.int .i64 0,.slice none 0 0,.slice none 0 0] 37:Obj):=⟨⟩
def Hn:K (.cells #[.int .i64 0] 3:Obj):=⟨⟩
def Ho:K (.cells #[.string ⟨#[]⟩,.string ⟨#[]⟩,.int .i64 0,.int .i64 0,.slice none 0 0] 27:Obj):=⟨⟩
def Hr:K (.cells #[.int .i64 0,.string ⟨#[]⟩,.int .i64 0,.int .i64 0] 61:Obj):=⟨⟩
def Hs:K (.cells #[.int .i64 0,.bool false,.int .i64 0] 247:Obj):=⟨⟩
def Ht (x0 : ByteArray) (x1 : ByteArray) (x2 : Int) (x3 : Int) (x4 : Option Addr) (x4a : Nat) (x4b : Nat):K (.cells #[.string x0,.string x1,.int .i64 x2,.int .i64 x3,.slice x4 x4a x4b] 27:Obj):=⟨⟩
def Hu (x0 : ByteArray) (x1 : Int) (x2 : Int) (x3 : Int) (x4 : Int) (x5 : Option Addr) (x5a : Nat) (x5b : Nat):K (.cells #[.string x0,.int .i64 x1,.int .i64 x2,.int .i64 x3,.int .i64 x4,.slice x5 x5a x5b] 70:Obj):=⟨⟩
def Hv (x0 : Int) (x1 : ByteArray) (x2 : Int) (x3 : Int):K (.cells #[.int .i64 x0,.string x1,.int .i64 x2,.int .i64 x3] 61:Obj):=⟨⟩
def Hw (x0 : ByteArray) (x1 : ByteArray) (x2 : Int) (x3 : Int) (x4 : Option Addr) (x4a : Nat) (x4b : Nat):K (.agg #[.string x0,.string x1,.int .i64 x2,.int .i64 x3,.slice x4 x4a x4b]:Value):=⟨⟩
def Ia (x0 : Value) (x1 : Int):K (#[x0,.int .i64 x1]:Array Value):=⟨⟩
def Ib (x0 : ByteArray) (x1 : Int) (x2 : Int) (x3 : Int) (x4 : Int) (x5 : Option Addr) (x5a : Nat) (x5b : Nat):K (.agg #[.string x0,.int .i64 x1,.int .i64 x2,.int .i64 x3,.int .i64 x4,.slice x5 x5a x5b]:Value):=⟨⟩
def Ic (x0 : Int):K (.cells #[.int .i64 x0] 3:Obj):=⟨⟩
def Id (x0 : Value) (x1 : Bool):K (#[x0,.bool x1]:Array Value):=⟨⟩
def Ie (x0 : Int) (x1 : Int) (x2 : Int) (x3 : Option Addr) (x3a : Nat) (x3b : Nat) (x4 : Option Addr) (x4a : Nat) (x4b : Nat):K (.cells #[.int .i64 x0,.int .i64 x1,.int .i64 x2,.slice x3 x3a x3b,.slice x4 x4a x4b] 37:Obj):=⟨⟩
def Ig (x0 : Int) (x1 : ByteArray) (x2 : Int) (x3 : Int):K (.agg #[.int .i64 x0,.string x1,.int .i64 x2,.int .i64 x3]:Value):=⟨⟩
def Ih (x0 : ByteArray) (x1 : ByteArray) (x2 : Int) (x3 : Int) (x4 : Option Addr) (x4a : Nat) (x4b : Nat):K (some (.cells #[.string x0,.string x1,.int .i64 x2,.int .i64 x3,.slice x4 x4a x4b] 27):Option Obj):=⟨⟩
def Ii (x0 : Int) (x1 : Bool) (x2 : Int):K (.agg #[.int .i64 x0,.bool x1,.int .i64 x2]:Value):=⟨⟩
def Ij (x0 : Int) (x1 : Option Addr) (x1a : Nat) (x1b : Nat) (x2 : Option Addr) (x2a : Nat) (x2b : Nat):K (.cells #[.int .i64 x0,.slice x1 x1a x1b,.slice x2 x2a x2b] 166:Obj):=⟨⟩
def Ik (x0 : Option Addr) (x0a : Nat) (x0b : Nat) (x1 : Option Addr) (x1a : Nat) (x1b : Nat) (x2 : ByteArray) (x3 : ByteArray) (x4 : Int) (x5 : Int) (x6 : Option Addr) (x6a : Nat) (x6b : Nat):K (.cells #[.slice x0 x0a x0b,.slice x1 x1a x1b,.string x2,.string x3,.int .i64 x4,.int .i64 x5,.slice x6 x6a x6b] 29:Obj):=⟨⟩
def Il (x0 : Value) (x1 : Int) (x2 : Int):K (#[x0,.int .i64 x1,.int .i64 x2]:Array Value):=⟨⟩
def Im (x0 : Int) (x1 : Int):K (.agg #[.int .i64 x0,.int .i64 x1]:Value):=⟨⟩
def In (x0 : ByteArray) (x1 : Int) (x2 : Int):K (.cells #[.string x0,.int .i64 x1,.int .i64 x2] 33:Obj):=⟨⟩
def Io (x0 : Int) (x1 : Int):K (.cells #[.int .i64 x0,.int .i64 x1] 193:Obj):=⟨⟩
def Ip (x0 : Option Addr) (x0a : Nat) (x0b : Nat) (x1 : Option Addr) (x1a : Nat) (x1b : Nat) (x2 : ByteArray) (x3 : ByteArray) (x4 : Int) (x5 : Int) (x6 : Option Addr) (x6a : Nat) (x6b : Nat):K (.agg #[.slice x0 x0a x0b,.slice x1 x1a x1b,.string x2,.string x3,.int .i64 x4,.int .i64 x5,.slice x6 x6a x6b]:Value):=⟨⟩
def Iq (x0 : ByteArray) (x1 : Int) (x2 : Int) (x3 : Int) (x4 : Int) (x5 : Option Addr) (x5a : Nat) (x5b : Nat):K (some (.cells #[.string x0,.int .i64 x1,.int .i64 x2,.int .i64 x3,.int .i64 x4,.slice x5 x5a x5b] 70):Option Obj):=⟨⟩
def Ir (x0 : Value) (x1 : Int) (x2 : Int):K (.agg #[x0,.int .i64 x1,.int .i64 x2]:Value):=⟨⟩
def Is (x0 : Int) (x1 : ByteArray) (x2 : Int) (x3 : Int):K (some (.cells #[.int .i64 x0,.string x1,.int .i64 x2,.int .i64 x3] 61):Option Obj):=⟨⟩
def It (x0 : Int) (x1 : Int):K (#[.int .i64 x0,.int .i64 x1]:Array Value):=⟨⟩
def Iu (x0 : ByteArray):K (.cells #[.string x0] 9:Obj):=⟨⟩
def Iv (x0 : Option Addr) (x0a : Nat) (x0b : Nat):K (.cells #[.slice x0 x0a x0b] 204:Obj):=⟨⟩
def Iw (x0 : ByteArray) (x1 : ByteArray) (x2 : Int) (x3 : Int) (x4 : Option Addr) (x4a : Nat) (x4b : Nat) (x5 : ByteArray) (x6 : ByteArray) (x7 : Int) (x8 : Int) (x9 : Option Addr) (x9a : Nat) (x9b : Nat):K (.cells #[.string x0,.string x1,.int .i64 x2,.int .i64 x3,.slice x4 x4a x4b,.string x5,.string x6,.int .i64 x7,.int .i64 x8,.slice x9 x9a x9b] 27:Obj):=⟨⟩
def Ix (x0 : Int) (x1 : Bool) (x2 : Int):K (.cells #[.int .i64 x0,.bool x1,.int .i64 x2] 247:Obj):=⟨⟩
def Iy (x0 : Int) (x1 : Int) (x2 : Int):K (.agg #[.int .i64 x0,.int .i64 x1,.int .i64 x2]:Value):=⟨⟩
def Iz (x0 : Int) (x1 : Bool):K (#[.int .i64 x0,.bool x1]:Array Value):=⟨⟩
def IA (x0 : Int) (x1 : Int) (x2 : Int) (x3 : Option Addr) (x3a : Nat) (x3b : Nat) (x4 : Option Addr) (x4a : Nat) (x4b : Nat):K (.agg #[.int .i64 x0,.int .i64 x1,.int .i64 x2,.slice x3 x3a x3b,.slice x4 x4a x4b]:Value):=⟨⟩
def IB (x0 : Int) (x1 : Int):K (some (.cells #[.int .i64 x0,.int .i64 x1] 193):Option Obj):=⟨⟩
def IC (x0 : Int) (x1 : Option Addr) (x1a : Nat) (x1b : Nat) (x2 : Option Addr) (x2a : Nat) (x2b : Nat):K (some (.cells #[.int .i64 x0,.slice x1 x1a x1b,.slice x2 x2a x2b] 166):Option Obj):=⟨⟩
def ID (x0 : Int):K (some (.cells #[.int .i64 x0] 3):Option Obj):=⟨⟩
def IE (x0 : Value) (x1 : Int) (x2 : Int):K (.cells #[x0,.int .i64 x1,.int .i64 x2] 271:Obj):=⟨⟩
def IF (x0 : Option Addr) (x0a : Nat) (x0b : Nat) (x1 : Int) (x2 : Int) (x3 : Int):K (.cells #[.slice x0 x0a x0b,.int .i64 x1,.int .i64 x2,.int .i64 x3] 51:Obj):=⟨⟩
def IG (x0 : Int) (x1 : Int) (x2 : Int):K (.cells #[.int .i64 x0,.int .i64 x1,.int .i64 x2] 332:Obj):=⟨⟩
def II (x0 : Option Addr) (x0a : Nat) (x0b : Nat) (x1 : Option Addr) (x1a : Nat) (x1b : Nat) (x2 : ByteArray) (x3 : ByteArray) (x4 : Int) (x5 : Int) (x6 : Option Addr) (x6a : Nat) (x6b : Nat):K (some (.cells #[.slice x0 x0a x0b,.slice x1 x1a x1b,.string x2,.string x3,.int .i64 x4,.int .i64 x5,.slice x6 x6a x6b] 29):Option Obj):=⟨⟩
def IJ (x0 : ByteArray) (x1 : Option Addr) (x1a : Nat) (x1b : Nat) (x2 : ByteArray) (x3 : ByteArray) (x4 : Int) (x5 : Int) (x6 : Option Addr) (x6a : Nat) (x6b : Nat) (x7 : Int):K (.cells #[.string x0,.slice x1 x1a x1b,.string x2,.string x3,.int .i64 x4,.int .i64 x5,.slice x6 x6a x6b,.int .i64 x7] 55:Obj):=⟨⟩
def IK (x0 : ByteArray) (x1 : Int) (x2 : Int) (x3 : Int) (x4 : Int) (x5 : Option Addr) (x5a : Nat) (x5b : Nat) (x6 : ByteArray) (x7 : Int) (x8 : Int) (x9 : Int) (x10 : Int) (x11 : Option Addr) (x11a : Nat) (x11b : Nat):K (.cells #[.string x0,.int .i64 x1,.int .i64 x2,.int .i64 x3,.int .i64 x4,.slice x5 x5a x5b,.string x6,.int .i64 x7,.int .i64 x8,.int .i64 x9,.int .i64 x10,.slice x11 x11a x11b] 70:Obj):=⟨⟩
def IL (b:Nat):K (.pointer (some ⟨b,0,none⟩):Value):=⟨⟩
def IM:K (.slice none 0 0:Value):=⟨⟩
def IU:K (.int .i64 0:Value):=⟨⟩
def IP:K (Value.int .i64):=⟨⟩
def IQ (b i:Nat):K (some ⟨b,i,none⟩:Option Addr):=⟨⟩
theorem ae {p:Prop} (h:p):Hid p:=h
structure Keeps (S:Nat→Prop) (w w':World):Prop where
 os:w'.os=w.os
 tape:w'.tape=w.tape
 output:w'.output=w.output
 size:w.heap.size≤w'.heap.size
 block:∀k,k<w.heap.size→S k→w'.heap[k]?=w.heap[k]?
abbrev Same (w w':World):Prop:=Keeps (fun _=>True) w w'
theorem Keeps.refl (S:Nat→Prop) (w:World):Keeps S w w:=⟨rfl,rfl,rfl,Nat.le_refl _,fun _ _ _=>rfl⟩
def af:=@Keeps.refl
theorem Keeps.trans {S S' S'':Nat→Prop} {a b c:World} (h:Keeps S a b) (k:Keeps S' b c)
 (h1:∀x,x<a.heap.size→S'' x→S x∧S' x):Keeps S'' a c:=
 ⟨k.os.trans h.os,k.tape.trans h.tape,k.output.trans h.output,Nat.le_trans h.size k.size,
  fun x hx hs=>(k.block x (Nat.lt_of_lt_of_le hx h.size) (h1 x hx hs).2).trans (h.block x hx (h1 x hx hs).1)⟩
theorem Keeps.tr {S:Nat→Prop} {a b c:World} (h:Keeps S a b) (k:Keeps S b c):Keeps S a c:=
 h.trans k fun _ _ hs=>⟨hs,hs⟩
theorem Keeps.same_tr {S:Nat→Prop} {a b c:World} (h:Same a b) (k:Keeps S b c):Keeps S a c:=
 h.trans k fun _ _ hs=>⟨trivial,hs⟩
theorem Keeps.tr_same {S:Nat→Prop} {a b c:World} (h:Keeps S a b) (k:Same b c):Keeps S a c:=
 h.trans k fun _ _ hs=>⟨hs,trivial⟩
theorem Keeps.mono {S S':Nat→Prop} {w a:World} (h:Keeps S w a) (hs:∀x,x<w.heap.size→S' x→S x):Keeps S' w a:=
 ⟨h.os,h.tape,h.output,h.size,fun k b c=>h.block k b (hs k b c)⟩
theorem Keeps.drew {S:Nat→Prop} {a w:World} (h:Keeps S a w):Keeps S a w.drew:=⟨h.os,h.tape,h.output,h.size,h.block⟩
def al:=@Keeps.drew
theorem Keeps.drewN {S:Nat→Prop} {a w:World} (h:Keeps S a w) (n:Nat):Keeps S a (w.drewN n):=⟨h.os,h.tape,h.output,h.size,h.block⟩
theorem Keeps.alloc {S:Nat→Prop} {a w:World} (h:Keeps S a w) (o:Obj):Keeps S a (w.alloc o):=
 h.tr ⟨rfl,rfl,rfl,by simp,fun k b _=>Below.heap_alloc _ _ _ (by omega)⟩
theorem sal (w:World) (o:Obj):Same w (w.alloc o):=(af _ w).alloc o
theorem Keeps.setCell {S:Nat→Prop} {a w:World} (h:Keeps S a w) {p:Addr} (c:¬(p.block<a.heap.size∧S p.block)) (u:Value):Keeps S a (w.setCell p u):=
 ⟨h.os,h.tape,h.output,by have :=h.size;simpa [World.setCell]using this,
  fun k b hs=>(Below.heap_setCell _ _ _ _ (by rintro rfl;exact c ⟨b,hs⟩)).trans (h.block k b hs)⟩
theorem Keeps.grown {S:Nat→Prop} {a w d:World} {row:Option Nat} (h:Keeps S a w) (b:w.grownBy d row)
 (f:∀k,row=some k→¬(k<a.heap.size∧S k)):Keeps S a d:=
 ⟨b.os.trans h.os,b.tape.trans h.tape,b.output.trans h.output,Nat.le_trans h.size b.size,
  fun k c hs=>(b.block k (Nat.lt_of_lt_of_le c h.size) (fun e=>f k e.symm ⟨c,hs⟩)).trans (h.block k c hs)⟩
theorem Keeps.at {S:Nat→Prop} {w a:World} (h:Keeps S w a) {k:Nat} {o:Obj} (b:w.heap[k]?=some o) (hs:S k):a.heap[k]?=some o:=
 (h.block k (Array.getElem?_eq_some_iff.1 b).1 hs).trans b
def aM:=@Keeps.at
theorem am {w:World} {k:Nat} {o:Obj} (h:w.heap[k]?=some o):k<w.heap.size:=(Array.getElem?_eq_some_iff.1 h).1
theorem ai {w:World} {b:Nat} {cs:Array Value} {t:TypeId} {a:Nat×Nat} (h:w.heap[b]?=some (.cells cs t a)) (i:Nat):
 w.cell? ⟨b,i,none⟩=cs[i]?:=by simp[World.cell?,h]
theorem ao {w:World} {b:Nat} {cs:Array Value} {t:TypeId} (h:w.heap[b]?=some (.cells cs t (0,0))) (i:Nat):
 w.frozen? ⟨b,i,none⟩=false:=by simp[World.frozen?,h]
theorem aj {w:World} {b:Nat} {cs:Array Value} {t:TypeId} {a:Nat×Nat} (h:w.heap[b]?=some (.cells cs t a)) (i:Nat) (v:Value):
 (w.setCell ⟨b,i,none⟩ v).heap[b]?=some (.cells (cs.setIfInBounds i v) t a):=by
 simp[World.setCell,Array.getElem?_modify,h]
theorem aS {w:World} {b k:Nat} (h:k≠b) (i:Nat) (v:Value):(w.setCell ⟨b,i,none⟩ v).heap[k]?=w.heap[k]?:=
 Below.heap_setCell _ _ _ _ h
theorem ag (w:World) (o:Obj):(w.alloc o).heap[w.heap.size]?=some o:=heap_alloc_new w o
theorem aw {w:World} {k:Nat} {x:Obj} (h:w.heap[k]?=some x) (o:Obj):(w.alloc o).heap[k]?=some x:=
 (Below.heap_alloc _ _ _ (am h)).trans h
theorem Keeps.cell {S:Nat→Prop} {w a:World} (h:Keeps S w a) {p:Addr} {v:Value} (b:w.cell? p=some v) (hs:S p.block):a.cell? p=some v:=
 (World.cell?_of_block (w:=w) (h.block p.block (World.block_lt_of_cell? w p b) hs)).trans b
def ak:=@Keeps.cell
theorem xc1 {w:World} {b:Nat} {cs:Array Value} {t:TypeId} {fr:Nat×Nat} (h:w.heap[b]?=some (.cells cs t fr)) (i:Nat) {v:Value} (hv:cs[i]?=some v):w.cell? ⟨b,i,none⟩=some v:=(ai h i).trans hv
theorem xc2 {w:World} {b:Nat} {cs:Array Value} {t:TypeId} {fr:Nat×Nat} {v0 v1:Value} (h:w.heap[b]?=some (.cells cs t fr)) (h0:cs[0]?=some v0) (h1:cs[1]?=some v1):w.cell? ⟨b,0,none⟩=some v0∧w.cell? ⟨b,1,none⟩=some v1:=⟨xc1 h 0 h0,xc1 h 1 h1⟩
theorem xf2 {w:World} {b:Nat} {cs:Array Value} {t:TypeId} (h:w.heap[b]?=some (.cells cs t (0,0))):w.frozen? ⟨b,0,none⟩=false∧w.frozen? ⟨b,1,none⟩=false:=⟨ao h 0,ao h 1⟩
theorem xk2 {S:Nat→Prop} {w w':World} {p0 p1:Addr} {v0 v1:Value} (H:Keeps S w w') (h0:w.cell? p0=some v0) (h1:w.cell? p1=some v1) (s0:S p0.block) (s1:S p1.block):w'.cell? p0=some v0∧w'.cell? p1=some v1:=⟨H.cell h0 s0,H.cell h1 s1⟩
theorem xs2 {w w':World} {p0 p1:Addr} {v0 v1:Value} (H:Same w w') (h0:w.cell? p0=some v0) (h1:w.cell? p1=some v1):w'.cell? p0=some v0∧w'.cell? p1=some v1:=⟨H.cell h0 trivial,H.cell h1 trivial⟩
theorem xc3 {w:World} {b:Nat} {cs:Array Value} {t:TypeId} {fr:Nat×Nat} {v0 v1 v2:Value} (h:w.heap[b]?=some (.cells cs t fr)) (h0:cs[0]?=some v0) (h1:cs[1]?=some v1) (h2:cs[2]?=some v2):w.cell? ⟨b,0,none⟩=some v0∧w.cell? ⟨b,1,none⟩=some v1∧w.cell? ⟨b,2,none⟩=some v2:=⟨xc1 h 0 h0,xc1 h 1 h1,xc1 h 2 h2⟩
theorem xf3 {w:World} {b:Nat} {cs:Array Value} {t:TypeId} (h:w.heap[b]?=some (.cells cs t (0,0))):w.frozen? ⟨b,0,none⟩=false∧w.frozen? ⟨b,1,none⟩=false∧w.frozen? ⟨b,2,none⟩=false:=⟨ao h 0,ao h 1,ao h 2⟩
theorem xk3 {S:Nat→Prop} {w w':World} {p0 p1 p2:Addr} {v0 v1 v2:Value} (H:Keeps S w w') (h0:w.cell? p0=some v0) (h1:w.cell? p1=some v1) (h2:w.cell? p2=some v2) (s0:S p0.block) (s1:S p1.block) (s2:S p2.block):w'.cell? p0=some v0∧w'.cell? p1=some v1∧w'.cell? p2=some v2:=⟨H.cell h0 s0,H.cell h1 s1,H.cell h2 s2⟩
theorem xs3 {w w':World} {p0 p1 p2:Addr} {v0 v1 v2:Value} (H:Same w w') (h0:w.cell? p0=some v0) (h1:w.cell? p1=some v1) (h2:w.cell? p2=some v2):w'.cell? p0=some v0∧w'.cell? p1=some v1∧w'.cell? p2=some v2:=⟨H.cell h0 trivial,H.cell h1 trivial,H.cell h2 trivial⟩
theorem xc4 {w:World} {b:Nat} {cs:Array Value} {t:TypeId} {fr:Nat×Nat} {v0 v1 v2 v3:Value} (h:w.heap[b]?=some (.cells cs t fr)) (h0:cs[0]?=some v0) (h1:cs[1]?=some v1) (h2:cs[2]?=some v2) (h3:cs[3]?=some v3):w.cell? ⟨b,0,none⟩=some v0∧w.cell? ⟨b,1,none⟩=some v1∧w.cell? ⟨b,2,none⟩=some v2∧w.cell? ⟨b,3,none⟩=some v3:=⟨xc1 h 0 h0,xc1 h 1 h1,xc1 h 2 h2,xc1 h 3 h3⟩
theorem xf4 {w:World} {b:Nat} {cs:Array Value} {t:TypeId} (h:w.heap[b]?=some (.cells cs t (0,0))):w.frozen? ⟨b,0,none⟩=false∧w.frozen? ⟨b,1,none⟩=false∧w.frozen? ⟨b,2,none⟩=false∧w.frozen? ⟨b,3,none⟩=false:=⟨ao h 0,ao h 1,ao h 2,ao h 3⟩
theorem xk4 {S:Nat→Prop} {w w':World} {p0 p1 p2 p3:Addr} {v0 v1 v2 v3:Value} (H:Keeps S w w') (h0:w.cell? p0=some v0) (h1:w.cell? p1=some v1) (h2:w.cell? p2=some v2) (h3:w.cell? p3=some v3) (s0:S p0.block) (s1:S p1.block) (s2:S p2.block) (s3:S p3.block):w'.cell? p0=some v0∧w'.cell? p1=some v1∧w'.cell? p2=some v2∧w'.cell? p3=some v3:=⟨H.cell h0 s0,H.cell h1 s1,H.cell h2 s2,H.cell h3 s3⟩
theorem xs4 {w w':World} {p0 p1 p2 p3:Addr} {v0 v1 v2 v3:Value} (H:Same w w') (h0:w.cell? p0=some v0) (h1:w.cell? p1=some v1) (h2:w.cell? p2=some v2) (h3:w.cell? p3=some v3):w'.cell? p0=some v0∧w'.cell? p1=some v1∧w'.cell? p2=some v2∧w'.cell? p3=some v3:=⟨H.cell h0 trivial,H.cell h1 trivial,H.cell h2 trivial,H.cell h3 trivial⟩
theorem xc5 {w:World} {b:Nat} {cs:Array Value} {t:TypeId} {fr:Nat×Nat} {v0 v1 v2 v3 v4:Value} (h:w.heap[b]?=some (.cells cs t fr)) (h0:cs[0]?=some v0) (h1:cs[1]?=some v1) (h2:cs[2]?=some v2) (h3:cs[3]?=some v3) (h4:cs[4]?=some v4):w.cell? ⟨b,0,none⟩=some v0∧w.cell? ⟨b,1,none⟩=some v1∧w.cell? ⟨b,2,none⟩=some v2∧w.cell? ⟨b,3,none⟩=some v3∧w.cell? ⟨b,4,none⟩=some v4:=⟨xc1 h 0 h0,xc1 h 1 h1,xc1 h 2 h2,xc1 h 3 h3,xc1 h 4 h4⟩
theorem xf5 {w:World} {b:Nat} {cs:Array Value} {t:TypeId} (h:w.heap[b]?=some (.cells cs t (0,0))):w.frozen? ⟨b,0,none⟩=false∧w.frozen? ⟨b,1,none⟩=false∧w.frozen? ⟨b,2,none⟩=false∧w.frozen? ⟨b,3,none⟩=false∧w.frozen? ⟨b,4,none⟩=false:=⟨ao h 0,ao h 1,ao h 2,ao h 3,ao h 4⟩
theorem xk5 {S:Nat→Prop} {w w':World} {p0 p1 p2 p3 p4:Addr} {v0 v1 v2 v3 v4:Value} (H:Keeps S w w') (h0:w.cell? p0=some v0) (h1:w.cell? p1=some v1) (h2:w.cell? p2=some v2) (h3:w.cell? p3=some v3) (h4:w.cell? p4=some v4) (s0:S p0.block) (s1:S p1.block) (s2:S p2.block) (s3:S p3.block) (s4:S p4.block):w'.cell? p0=some v0∧w'.cell? p1=some v1∧w'.cell? p2=some v2∧w'.cell? p3=some v3∧w'.cell? p4=some v4:=⟨H.cell h0 s0,H.cell h1 s1,H.cell h2 s2,H.cell h3 s3,H.cell h4 s4⟩
theorem xs5 {w w':World} {p0 p1 p2 p3 p4:Addr} {v0 v1 v2 v3 v4:Value} (H:Same w w') (h0:w.cell? p0=some v0) (h1:w.cell? p1=some v1) (h2:w.cell? p2=some v2) (h3:w.cell? p3=some v3) (h4:w.cell? p4=some v4):w'.cell? p0=some v0∧w'.cell? p1=some v1∧w'.cell? p2=some v2∧w'.cell? p3=some v3∧w'.cell? p4=some v4:=⟨H.cell h0 trivial,H.cell h1 trivial,H.cell h2 trivial,H.cell h3 trivial,H.cell h4 trivial⟩
theorem xc6 {w:World} {b:Nat} {cs:Array Value} {t:TypeId} {fr:Nat×Nat} {v0 v1 v2 v3 v4 v5:Value} (h:w.heap[b]?=some (.cells cs t fr)) (h0:cs[0]?=some v0) (h1:cs[1]?=some v1) (h2:cs[2]?=some v2) (h3:cs[3]?=some v3) (h4:cs[4]?=some v4) (h5:cs[5]?=some v5):w.cell? ⟨b,0,none⟩=some v0∧w.cell? ⟨b,1,none⟩=some v1∧w.cell? ⟨b,2,none⟩=some v2∧w.cell? ⟨b,3,none⟩=some v3∧w.cell? ⟨b,4,none⟩=some v4∧w.cell? ⟨b,5,none⟩=some v5:=⟨xc1 h 0 h0,xc1 h 1 h1,xc1 h 2 h2,xc1 h 3 h3,xc1 h 4 h4,xc1 h 5 h5⟩
theorem xf6 {w:World} {b:Nat} {cs:Array Value} {t:TypeId} (h:w.heap[b]?=some (.cells cs t (0,0))):w.frozen? ⟨b,0,none⟩=false∧w.frozen? ⟨b,1,none⟩=false∧w.frozen? ⟨b,2,none⟩=false∧w.frozen? ⟨b,3,none⟩=false∧w.frozen? ⟨b,4,none⟩=false∧w.frozen? ⟨b,5,none⟩=false:=⟨ao h 0,ao h 1,ao h 2,ao h 3,ao h 4,ao h 5⟩
theorem xk6 {S:Nat→Prop} {w w':World} {p0 p1 p2 p3 p4 p5:Addr} {v0 v1 v2 v3 v4 v5:Value} (H:Keeps S w w') (h0:w.cell? p0=some v0) (h1:w.cell? p1=some v1) (h2:w.cell? p2=some v2) (h3:w.cell? p3=some v3) (h4:w.cell? p4=some v4) (h5:w.cell? p5=some v5) (s0:S p0.block) (s1:S p1.block) (s2:S p2.block) (s3:S p3.block) (s4:S p4.block) (s5:S p5.block):w'.cell? p0=some v0∧w'.cell? p1=some v1∧w'.cell? p2=some v2∧w'.cell? p3=some v3∧w'.cell? p4=some v4∧w'.cell? p5=some v5:=⟨H.cell h0 s0,H.cell h1 s1,H.cell h2 s2,H.cell h3 s3,H.cell h4 s4,H.cell h5 s5⟩
theorem xs6 {w w':World} {p0 p1 p2 p3 p4 p5:Addr} {v0 v1 v2 v3 v4 v5:Value} (H:Same w w') (h0:w.cell? p0=some v0) (h1:w.cell? p1=some v1) (h2:w.cell? p2=some v2) (h3:w.cell? p3=some v3) (h4:w.cell? p4=some v4) (h5:w.cell? p5=some v5):w'.cell? p0=some v0∧w'.cell? p1=some v1∧w'.cell? p2=some v2∧w'.cell? p3=some v3∧w'.cell? p4=some v4∧w'.cell? p5=some v5:=⟨H.cell h0 trivial,H.cell h1 trivial,H.cell h2 trivial,H.cell h3 trivial,H.cell h4 trivial,H.cell h5 trivial⟩
theorem xc7 {w:World} {b:Nat} {cs:Array Value} {t:TypeId} {fr:Nat×Nat} {v0 v1 v2 v3 v4 v5 v6:Value} (h:w.heap[b]?=some (.cells cs t fr)) (h0:cs[0]?=some v0) (h1:cs[1]?=some v1) (h2:cs[2]?=some v2) (h3:cs[3]?=some v3) (h4:cs[4]?=some v4) (h5:cs[5]?=some v5) (h6:cs[6]?=some v6):w.cell? ⟨b,0,none⟩=some v0∧w.cell? ⟨b,1,none⟩=some v1∧w.cell? ⟨b,2,none⟩=some v2∧w.cell? ⟨b,3,none⟩=some v3∧w.cell? ⟨b,4,none⟩=some v4∧w.cell? ⟨b,5,none⟩=some v5∧w.cell? ⟨b,6,none⟩=some v6:=⟨xc1 h 0 h0,xc1 h 1 h1,xc1 h 2 h2,xc1 h 3 h3,xc1 h 4 h4,xc1 h 5 h5,xc1 h 6 h6⟩
theorem xf7 {w:World} {b:Nat} {cs:Array Value} {t:TypeId} (h:w.heap[b]?=some (.cells cs t (0,0))):w.frozen? ⟨b,0,none⟩=false∧w.frozen? ⟨b,1,none⟩=false∧w.frozen? ⟨b,2,none⟩=false∧w.frozen? ⟨b,3,none⟩=false∧w.frozen? ⟨b,4,none⟩=false∧w.frozen? ⟨b,5,none⟩=false∧w.frozen? ⟨b,6,none⟩=false:=⟨ao h 0,ao h 1,ao h 2,ao h 3,ao h 4,ao h 5,ao h 6⟩
theorem xk7 {S:Nat→Prop} {w w':World} {p0 p1 p2 p3 p4 p5 p6:Addr} {v0 v1 v2 v3 v4 v5 v6:Value} (H:Keeps S w w') (h0:w.cell? p0=some v0) (h1:w.cell? p1=some v1) (h2:w.cell? p2=some v2) (h3:w.cell? p3=some v3) (h4:w.cell? p4=some v4) (h5:w.cell? p5=some v5) (h6:w.cell? p6=some v6) (s0:S p0.block) (s1:S p1.block) (s2:S p2.block) (s3:S p3.block) (s4:S p4.block) (s5:S p5.block) (s6:S p6.block):w'.cell? p0=some v0∧w'.cell? p1=some v1∧w'.cell? p2=some v2∧w'.cell? p3=some v3∧w'.cell? p4=some v4∧w'.cell? p5=some v5∧w'.cell? p6=some v6:=⟨H.cell h0 s0,H.cell h1 s1,H.cell h2 s2,H.cell h3 s3,H.cell h4 s4,H.cell h5 s5,H.cell h6 s6⟩
theorem xs7 {w w':World} {p0 p1 p2 p3 p4 p5 p6:Addr} {v0 v1 v2 v3 v4 v5 v6:Value} (H:Same w w') (h0:w.cell? p0=some v0) (h1:w.cell? p1=some v1) (h2:w.cell? p2=some v2) (h3:w.cell? p3=some v3) (h4:w.cell? p4=some v4) (h5:w.cell? p5=some v5) (h6:w.cell? p6=some v6):w'.cell? p0=some v0∧w'.cell? p1=some v1∧w'.cell? p2=some v2∧w'.cell? p3=some v3∧w'.cell? p4=some v4∧w'.cell? p5=some v5∧w'.cell? p6=some v6:=⟨H.cell h0 trivial,H.cell h1 trivial,H.cell h2 trivial,H.cell h3 trivial,H.cell h4 trivial,H.cell h5 trivial,H.cell h6 trivial⟩
theorem xc8 {w:World} {b:Nat} {cs:Array Value} {t:TypeId} {fr:Nat×Nat} {v0 v1 v2 v3 v4 v5 v6 v7:Value} (h:w.heap[b]?=some (.cells cs t fr)) (h0:cs[0]?=some v0) (h1:cs[1]?=some v1) (h2:cs[2]?=some v2) (h3:cs[3]?=some v3) (h4:cs[4]?=some v4) (h5:cs[5]?=some v5) (h6:cs[6]?=some v6) (h7:cs[7]?=some v7):w.cell? ⟨b,0,none⟩=some v0∧w.cell? ⟨b,1,none⟩=some v1∧w.cell? ⟨b,2,none⟩=some v2∧w.cell? ⟨b,3,none⟩=some v3∧w.cell? ⟨b,4,none⟩=some v4∧w.cell? ⟨b,5,none⟩=some v5∧w.cell? ⟨b,6,none⟩=some v6∧w.cell? ⟨b,7,none⟩=some v7:=⟨xc1 h 0 h0,xc1 h 1 h1,xc1 h 2 h2,xc1 h 3 h3,xc1 h 4 h4,xc1 h 5 h5,xc1 h 6 h6,xc1 h 7 h7⟩
theorem xf8 {w:World} {b:Nat} {cs:Array Value} {t:TypeId} (h:w.heap[b]?=some (.cells cs t (0,0))):w.frozen? ⟨b,0,none⟩=false∧w.frozen? ⟨b,1,none⟩=false∧w.frozen? ⟨b,2,none⟩=false∧w.frozen? ⟨b,3,none⟩=false∧w.frozen? ⟨b,4,none⟩=false∧w.frozen? ⟨b,5,none⟩=false∧w.frozen? ⟨b,6,none⟩=false∧w.frozen? ⟨b,7,none⟩=false:=⟨ao h 0,ao h 1,ao h 2,ao h 3,ao h 4,ao h 5,ao h 6,ao h 7⟩
theorem xk8 {S:Nat→Prop} {w w':World} {p0 p1 p2 p3 p4 p5 p6 p7:Addr} {v0 v1 v2 v3 v4 v5 v6 v7:Value} (H:Keeps S w w') (h0:w.cell? p0=some v0) (h1:w.cell? p1=some v1) (h2:w.cell? p2=some v2) (h3:w.cell? p3=some v3) (h4:w.cell? p4=some v4) (h5:w.cell? p5=some v5) (h6:w.cell? p6=some v6) (h7:w.cell? p7=some v7) (s0:S p0.block) (s1:S p1.block) (s2:S p2.block) (s3:S p3.block) (s4:S p4.block) (s5:S p5.block) (s6:S p6.block) (s7:S p7.block):w'.cell? p0=some v0∧w'.cell? p1=some v1∧w'.cell? p2=some v2∧w'.cell? p3=some v3∧w'.cell? p4=some v4∧w'.cell? p5=some v5∧w'.cell? p6=some v6∧w'.cell? p7=some v7:=⟨H.cell h0 s0,H.cell h1 s1,H.cell h2 s2,H.cell h3 s3,H.cell h4 s4,H.cell h5 s5,H.cell h6 s6,H.cell h7 s7⟩
theorem xs8 {w w':World} {p0 p1 p2 p3 p4 p5 p6 p7:Addr} {v0 v1 v2 v3 v4 v5 v6 v7:Value} (H:Same w w') (h0:w.cell? p0=some v0) (h1:w.cell? p1=some v1) (h2:w.cell? p2=some v2) (h3:w.cell? p3=some v3) (h4:w.cell? p4=some v4) (h5:w.cell? p5=some v5) (h6:w.cell? p6=some v6) (h7:w.cell? p7=some v7):w'.cell? p0=some v0∧w'.cell? p1=some v1∧w'.cell? p2=some v2∧w'.cell? p3=some v3∧w'.cell? p4=some v4∧w'.cell? p5=some v5∧w'.cell? p6=some v6∧w'.cell? p7=some v7:=⟨H.cell h0 trivial,H.cell h1 trivial,H.cell h2 trivial,H.cell h3 trivial,H.cell h4 trivial,H.cell h5 trivial,H.cell h6 trivial,H.cell h7 trivial⟩
def SliceAt (w:World) (v:Value) (xs:List Value):Prop:=
 ∃a c,v=.slice a xs.length c∧xs.length≤c∧c≤maxLen∧
  (xs=[]∨∃b off cur e fr,a=some ⟨b,off,none⟩∧w.heap[b]?=some (.cells cur e fr)∧∀i x,xs[i]?=some x→cur[off+i]?=some x)
def live:Value→Option Nat
 | .slice (some a) (_+1) _=>some a.block
 |_=>none
theorem SliceAt.keep {S:Nat→Prop} {w i:World} {v:Value} {d:List Value} (h:SliceAt w v d) (k:Keeps S w i) (hs:∀b,live v=some b→S b):SliceAt i v d:=by
 obtain⟨a,c,rfl,h1,h2,f⟩:=h;refine⟨a,c,rfl,h1,h2,?_⟩;rcases f with f|⟨b,off,g,e,m,rfl,l,j⟩
 ·exact .inl f
 ·cases d with
  |nil=>exact .inl rfl
  |cons x d=>exact .inr ⟨b,off,g,e,m,rfl,k.at l (hs b rfl),j⟩
theorem SliceAt.lt {w:World} {v:Value} {f:List Value} (h:SliceAt w v f):∀b,live v=some b→b<w.heap.size:=by
 obtain⟨a,c,rfl,h1,h2,i⟩:=h;intro b d;rcases i with rfl|⟨m,off,j,e,l,rfl,g,k⟩
 ·cases a<;>simp[live]at d
 ·cases f with
  |nil=>simp[live]at d
  |cons x f=>simp[live]at d;subst d;exact am g
theorem SliceAt.same {w b:World} {v:Value} {a:List Value} (h:SliceAt w v a) (k:Same w b):SliceAt b v a:=h.keep k fun _ _=>trivial
def aK (x:Int):Prop:=-9223372036854775808≤x∧x≤9223372036854775807
def IntsAt (w:World) (v:Value) (l:List Int):Prop:=SliceAt w v (l.map (Value.int .i64))∧∀x∈l,aK x
theorem IntsAt.keep {S:Nat→Prop} {w a:World} {v:Value} {l:List Int} (h:IntsAt w v l) (k:Keeps S w a) (hs:∀b,live v=some b→S b):IntsAt a v l:=⟨h.1.keep k hs,h.2⟩
theorem IntsAt.same {w a:World} {v:Value} {l:List Int} (h:IntsAt w v l) (k:Same w a):IntsAt a v l:=⟨h.1.same k,h.2⟩
theorem IntsAt.lt {w:World} {v:Value} {l:List Int} (h:IntsAt w v l):∀b,live v=some b→b<w.heap.size:=h.1.lt
theorem IntsAt.open {w:World} {v:Value} {l:List Int} (h:IntsAt w v l):∃a c,v=.slice a l.length c∧l.length≤c∧c≤maxLen∧
 (∀k (_:k<l.length),∃b off,a=some ⟨b,off,none⟩∧b<w.heap.size∧∀i (f:i<l.length),w.cell? ⟨b,off+i,none⟩=some (.int .i64 (l[i]))):=by
 obtain⟨⟨a,c,rfl,h1,h2,d⟩,o⟩:=h;simp only[List.length_map]at *;refine⟨a,c,rfl,h1,h2,fun k j=>?_⟩;rcases d with d|⟨b,off,n,e,p,rfl,g,m⟩
 ·simp at d;subst d;simp at j
 ·refine⟨b,off,rfl,am g,fun i f=>?_⟩;rw[ai g];exact m i _ (by simp[f])
theorem bi {P:Program} (w:World) (t r e:TypeId) {z:Value} {bytes:Nat} (u:P.underlying t=some (.slice e)) (B:(P.info? e).map (fun i=>(i.zero,i.size,i.bytes))=some (some z,1,bytes))
 (h:z.cells.size=1) {base:Nat} {v:Value} {n:Nat} {f:List Value} (c:w.ownsRow base e 1 v n f) (q:base≤w.heap.size) (x:Value) (hx:x.oneCell'=true) (y:n+1≤2199023255552) (p:bytes≤16):
 ∃g cap a,(Builtin.append_ #[t,t] r #[v,.slice (IQ w.heap.size 0) 1 1]).run P (w.alloc (.cells #[x] e))=.ok (.slice (IQ g 0) (n+1) cap) a∧
  a.ownsRow base e 1 (.slice (IQ g 0) (n+1) cap) (n+1) (f++[x])∧Keeps (fun b=>v.ownBlock≠some b) w a∧(v.ownBlock=some g∨w.heap.size≤g)∧g<a.heap.size:=by
 obtain⟨s,o,m,l,j⟩:=info_parts B;have D:(n+1)*bytes≤140737488355328:=Nat.le_trans (Nat.mul_le_mul y p) (by omega);obtain⟨g,cap,a,h1,h2,F,d,E⟩:=run_append_lies (P:=P) _ t r base e s z 1 bytes u o m l j h (by decide) v n f (c.alloc (.cells #[x] e))
  ⟨w.heap.size,0,none⟩ 1 1 [x] rfl (World.news_of_block (cs:=#[x]) (ag w (.cells #[x] e))) (by simp[hx]) (by decide) (by unfold maxLen;omega) D (by simp;omega) (w.heap.size+1) (by simp)
 refine⟨g,cap,a,h1,h2,((af _ w).alloc _).grown F (by intro k A C;exact C.2 A),?_,E⟩;rcases d with d|d
 ·exact .inl d
 ·exact .inr (by omega)
theorem ap {P:Program} {c:Array Oper} {b:List Oper} {o:Oper} {a:Act} {w f:World} {Q:Exit→Act→World→Prop} {v e r:Value} (d:o.guard=none) (s x:Operand) (t:TypeId)
 (ho:o.op=.call {callee:=.builtin .append,args:=#[s,x],argTypes:=#[t,t]}) (hs:a.eval s=v) (hx:a.eval x=e)
 (g:(Builtin.append_ #[t,t] o.type #[v,e]).run P w=.ok r f) (h:wpList P c Q b (a.put o.dst r) f):wpList P c Q (o::b) a w:=
 wpList_plain d fun K i=>by
  unfold Oper.wp execOp;simp only[ho,resolve,invoke,builtin,Sem.run_bind,Sem.run_pure,Result.andThen_ok,List.map_toArray,List.map_cons,List.map_nil,hs,hx,g];exact i _ _ h
theorem dt {w:World} {p:Addr} {v:Value} (h:w.cell? p=some v) (o:Obj):(w.alloc o).cell? p=some v:=
 ak ((af (fun _=>True) w).alloc o) h trivial
theorem mr (w:World) (cs:Array Value) (t:TypeId) (i:Nat):(w.alloc (.cells cs t)).cell? ⟨w.heap.size,i,none⟩=cs[i]?:=ai (ag w _) i
theorem be {a b:Bool} (h:a=b):Ending.returned (.bool a)=.returned (.bool b):=by rw[h]
theorem cQ {k:IntKind} {a b:Int} (h:a=b):Ending.returned (.int k a)=.returned (.int k b):=by rw[h]
end Go.Proofs.YtojegnbejmeehaaGreatDoor
