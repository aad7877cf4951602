/- Texts of this seat in one file, in their order: what stands between each pair of namespace and end is one of them. No condition. -/
import Derived.WalkKit
import Derived.WalkSpells
import Derived.WalkLawsBesides
import Derived.Deep.QuietTactic
import Derived.BigQuiet
import Derived.KernelRfl
import Derived.Deep.AppendLies
import Derived.OrdersHeld
import Derived.Still
import Derived.Deep.Quiet
import Derived.Tactics
import Derived.Tactics2
import Derived.Test.YtbmpnfibebiaeaaRows
import Derived.ProofKit
import Derived.OpenShut
import Derived.ShutString
import Derived.ChangeOld
import Derived.Below
import Derived.Deep.Slices
import Derived.Carry
import Derived.Maps.Keyed
import Derived.Test.YtbmpnfibebiaeaaChecked
import Derived.Laws.MakeOwn
import Derived.OwnWalk

/- General notions for the walks of this seat: what a call keeps of the memory. No condition. -/
namespace Go.Proofs.Ytbmpnfibebiaeaa
open Go.RowKit

theorem hide {p : Prop} (h : p) : Hid p := h

/-- What was there and lies in S is as it was. -/
structure Keeps (S : Nat → Prop) (w w' : World) : Prop where
  os : w'.os = w.os
  tape : w'.tape = w.tape
  output : w'.output = w.output
  size : w.heap.size ≤ w'.heap.size
  block : ∀ k, k < w.heap.size → S k → w'.heap[k]? = w.heap[k]?

/-- All that was there is as it was. -/
abbrev Same (w w' : World) : Prop := Keeps (fun _ => True) w w'

theorem Keeps.refl (S : Nat → Prop) (w : World) : Keeps S w w := ⟨rfl, rfl, rfl, Nat.le_refl _, fun _ _ _ => rfl⟩

theorem Keeps.trans {S S' S'' : Nat → Prop} {a b c : World} (h : Keeps S a b) (k : Keeps S' b c)
    (h1 : ∀ x, x < a.heap.size → S'' x → S x ∧ S' x) : Keeps S'' a c :=
  ⟨k.os.trans h.os, k.tape.trans h.tape, k.output.trans h.output, Nat.le_trans h.size k.size,
    fun x hx hs => (k.block x (Nat.lt_of_lt_of_le hx h.size) (h1 x hx hs).2).trans (h.block x hx (h1 x hx hs).1)⟩

theorem Keeps.tr {S : Nat → Prop} {a b c : World} (h : Keeps S a b) (k : Keeps S b c) : Keeps S a c :=
  h.trans k fun _ _ hs => ⟨hs, hs⟩

theorem Keeps.same_tr {S : Nat → Prop} {a b c : World} (h : Same a b) (k : Keeps S b c) : Keeps S a c :=
  h.trans k fun _ _ hs => ⟨trivial, hs⟩

theorem Keeps.tr_same {S : Nat → Prop} {a b c : World} (h : Keeps S a b) (k : Same b c) : Keeps S a c :=
  h.trans k fun _ _ hs => ⟨hs, trivial⟩

theorem Keeps.mono {S S' : Nat → Prop} {w w' : World} (h : Keeps S w w') (hs : ∀ x, x < w.heap.size → S' x → S x) : Keeps S' w w' :=
  ⟨h.os, h.tape, h.output, h.size, fun k hk hS => h.block k hk (hs k hk hS)⟩

theorem Keeps.drew {S : Nat → Prop} {a w : World} (h : Keeps S a w) : Keeps S a w.drew := ⟨h.os, h.tape, h.output, h.size, h.block⟩

theorem Keeps.drewN {S : Nat → Prop} {a w : World} (h : Keeps S a w) (n : Nat) : Keeps S a (w.drewN n) := ⟨h.os, h.tape, h.output, h.size, h.block⟩

theorem Keeps.alloc {S : Nat → Prop} {a w : World} (h : Keeps S a w) (o : Obj) : Keeps S a (w.alloc o) :=
  h.tr ⟨rfl, rfl, rfl, by simp, fun k hk _ => Below.heap_alloc _ _ _ (by omega)⟩

theorem Keeps.setCell {S : Nat → Prop} {a w : World} (h : Keeps S a w) {p : Addr} (hp : ¬ (p.block < a.heap.size ∧ S p.block)) (u : Value) : Keeps S a (w.setCell p u) :=
  ⟨h.os, h.tape, h.output, by have := h.size; simpa [World.setCell] using this,
    fun k hk hs => (Below.heap_setCell _ _ _ _ (by rintro rfl; exact hp ⟨hk, hs⟩)).trans (h.block k hk hs)⟩

theorem Keeps.grown {S : Nat → Prop} {a w w' : World} {row : Option Nat} (h : Keeps S a w) (hg : w.grownBy w' row)
    (hr : ∀ k, row = some k → ¬ (k < a.heap.size ∧ S k)) : Keeps S a w' :=
  ⟨hg.os.trans h.os, hg.tape.trans h.tape, hg.output.trans h.output, Nat.le_trans h.size hg.size,
    fun k hk hs => (hg.block k (Nat.lt_of_lt_of_le hk h.size) (fun e => hr k e.symm ⟨hk, hs⟩)).trans (h.block k hk hs)⟩

theorem Keeps.of_below {B : Nat} {w w' : World} (h : Below B w w') : Keeps (· < B) w w' :=
  ⟨h.os, h.tape, h.output, h.size, fun k _ hk => h.block k hk⟩

theorem Same.below {w w' : World} (h : Same w w') : Below w.heap.size w w' :=
  ⟨h.os, h.tape, h.output, h.size, fun k hk => h.block k hk trivial⟩

theorem Same.of_below {w w' : World} (h : Below w.heap.size w w') : Same w w' :=
  ⟨h.os, h.tape, h.output, h.size, fun k hk _ => h.block k hk⟩

theorem Keeps.at {S : Nat → Prop} {w w' : World} (h : Keeps S w w') {k : Nat} {o : Obj} (hk : w.heap[k]? = some o) (hs : S k) : w'.heap[k]? = some o :=
  (h.block k (Array.getElem?_eq_some_iff.1 hk).1 hs).trans hk

theorem heap_lt {w : World} {k : Nat} {o : Obj} (h : w.heap[k]? = some o) : k < w.heap.size := (Array.getElem?_eq_some_iff.1 h).1

/-- A cell of a block that is known. -/
theorem cell_at {w : World} {b : Nat} {cs : Array Value} {t : TypeId} {fr : Nat × Nat} (h : w.heap[b]? = some (.cells cs t fr)) (i : Nat) :
    w.cell? ⟨b, i, none⟩ = cs[i]? := by simp [World.cell?, h]

theorem free_at {w : World} {b : Nat} {cs : Array Value} {t : TypeId} (h : w.heap[b]? = some (.cells cs t (0, 0))) (i : Nat) :
    w.frozen? ⟨b, i, none⟩ = false := by simp [World.frozen?, h]

theorem heap_setCell_at {w : World} {b : Nat} {cs : Array Value} {t : TypeId} {fr : Nat × Nat} (h : w.heap[b]? = some (.cells cs t fr)) (i : Nat) (v : Value) :
    (w.setCell ⟨b, i, none⟩ v).heap[b]? = some (.cells (cs.setIfInBounds i v) t fr) := by
  simp [World.setCell, Array.getElem?_modify, h]

theorem heap_setCell_ne {w : World} {b k : Nat} (h : k ≠ b) (i : Nat) (v : Value) : (w.setCell ⟨b, i, none⟩ v).heap[k]? = w.heap[k]? :=
  Below.heap_setCell _ _ _ _ h

theorem heap_new (w : World) (o : Obj) : (w.alloc o).heap[w.heap.size]? = some o := heap_alloc_new w o

theorem heap_old {w : World} {k : Nat} {x : Obj} (h : w.heap[k]? = some x) (o : Obj) : (w.alloc o).heap[k]? = some x :=
  (Below.heap_alloc _ _ _ (heap_lt h)).trans h

theorem Keeps.cell {S : Nat → Prop} {w w' : World} (h : Keeps S w w') {p : Addr} {v : Value} (hp : w.cell? p = some v) (hs : S p.block) : w'.cell? p = some v :=
  (World.cell?_of_block (w := w) (h.block p.block (World.block_lt_of_cell? w p hp) hs)).trans hp

/-- The slice value v reads as the cells xs (one cell an element). -/
def SliceAt (w : World) (v : Value) (xs : List Value) : Prop :=
  ∃ a c, v = .slice a xs.length c ∧ xs.length ≤ c ∧ c ≤ maxLen ∧
    (xs = [] ∨ ∃ b off cur e fr, a = some ⟨b, off, none⟩ ∧ w.heap[b]? = some (.cells cur e fr) ∧ ∀ i x, xs[i]? = some x → cur[off + i]? = some x)

/-- The block of a slice that is not empty. -/
def live : Value → Option Nat
  | .slice (some a) (_ + 1) _ => some a.block
  | _ => none

theorem SliceAt.keep {S : Nat → Prop} {w w' : World} {v : Value} {xs : List Value} (h : SliceAt w v xs) (k : Keeps S w w') (hs : ∀ b, live v = some b → S b) : SliceAt w' v xs := by
  obtain ⟨a, c, rfl, h1, h2, h3⟩ := h
  refine ⟨a, c, rfl, h1, h2, ?_⟩
  rcases h3 with h3 | ⟨b, off, cur, e, fr, rfl, h4, h5⟩
  · exact .inl h3
  · cases xs with
    | nil => exact .inl rfl
    | cons x xs => exact .inr ⟨b, off, cur, e, fr, rfl, k.at h4 (hs b rfl), h5⟩

theorem SliceAt.lt {w : World} {v : Value} {xs : List Value} (h : SliceAt w v xs) : ∀ b, live v = some b → b < w.heap.size := by
  obtain ⟨a, c, rfl, h1, h2, h3⟩ := h
  intro b hb
  rcases h3 with rfl | ⟨b', off, cur, e, fr, rfl, h4, h5⟩
  · cases a <;> simp [live] at hb
  · cases xs with
    | nil => simp [live] at hb
    | cons x xs => simp [live] at hb; subst hb; exact heap_lt h4

theorem SliceAt.same {w w' : World} {v : Value} {xs : List Value} (h : SliceAt w v xs) (k : Same w w') : SliceAt w' v xs := h.keep k fun _ _ => trivial

def InI64 (x : Int) : Prop := -9223372036854775808 ≤ x ∧ x ≤ 9223372036854775807

/-- The slice value v reads as the ints l. -/
def IntsAt (w : World) (v : Value) (l : List Int) : Prop := SliceAt w v (l.map (Value.int .i64)) ∧ ∀ x ∈ l, InI64 x

theorem IntsAt.keep {S : Nat → Prop} {w w' : World} {v : Value} {l : List Int} (h : IntsAt w v l) (k : Keeps S w w') (hs : ∀ b, live v = some b → S b) : IntsAt w' v l := ⟨h.1.keep k hs, h.2⟩
theorem IntsAt.same {w w' : World} {v : Value} {l : List Int} (h : IntsAt w v l) (k : Same w w') : IntsAt w' v l := ⟨h.1.same k, h.2⟩

theorem IntsAt.lt {w : World} {v : Value} {l : List Int} (h : IntsAt w v l) : ∀ b, live v = some b → b < w.heap.size := h.1.lt

/-- A block whose cells are known is a slice. -/
theorem ints_of_block {w : World} {b : Nat} {cs : Array Value} {t : TypeId} {fr : Nat × Nat} (h : w.heap[b]? = some (.cells cs t fr)) (l : List Int) (e : cs.toList = l.map (Value.int .i64)) (hl : ∀ x ∈ l, InI64 x) {n c : Nat} (hn : n = l.length) (hc : n ≤ c) (hm : c ≤ maxLen) :
    IntsAt w (.slice (some ⟨b, 0, none⟩) n c) l := by
  subst hn
  refine ⟨⟨_, c, by simp, by simpa using hc, hm, .inr ⟨b, 0, cs, t, fr, rfl, h, fun i x hx => ?_⟩⟩, hl⟩
  rw [← e] at hx
  simpa using hx

/-- An IntsAt opened: the slice's address, its capacity; a cell for each index. -/
theorem IntsAt.open {w : World} {v : Value} {l : List Int} (h : IntsAt w v l) : ∃ a c, v = .slice a l.length c ∧ l.length ≤ c ∧ c ≤ maxLen ∧
    (∀ k (_ : k < l.length), ∃ b off, a = some ⟨b, off, none⟩ ∧ b < w.heap.size ∧ ∀ i (hi : i < l.length), w.cell? ⟨b, off + i, none⟩ = some (.int .i64 (l[i]))) := by
  obtain ⟨⟨a, c, rfl, h1, h2, h3⟩, h4⟩ := h
  simp only [List.length_map] at *
  refine ⟨a, c, rfl, h1, h2, fun k hk => ?_⟩
  rcases h3 with h3 | ⟨b, off, cur, e, fr, rfl, h5, h6⟩
  · simp at h3; subst h3; simp at hk
  · refine ⟨b, off, rfl, heap_lt h5, fun i hi => ?_⟩
    rw [cell_at h5]
    exact h6 i _ (by simp [hi])

/-- 's = append(s, x)', s the call's own, an element of one cell. -/
theorem append_one {P : Program} (w : World) (t ty e : TypeId) {z : Value} {bytes : Nat} (ht : P.underlying t = some (.slice e)) (hi : (P.info? e).map (fun i => (i.zero, i.size, i.bytes)) = some (some z, 1, bytes))
    (hzs : z.cells.size = 1) {base : Nat} {v : Value} {n : Nat} {xs : List Value} (hown : w.ownsRow base e 1 v n xs) (hbase : base ≤ w.heap.size) (x : Value) (hx : x.oneCell' = true) (hn : n + 1 ≤ 2199023255552) (hby : bytes ≤ 16) :
    ∃ g cap w', (Builtin.append_ #[t, t] ty #[v, .slice (some ⟨w.heap.size, 0, none⟩) 1 1]).run P (w.alloc (.cells #[x] e)) = .ok (.slice (some ⟨g, 0, none⟩) (n + 1) cap) w' ∧
      w'.ownsRow base e 1 (.slice (some ⟨g, 0, none⟩) (n + 1) cap) (n + 1) (xs ++ [x]) ∧ Keeps (fun b => v.ownBlock ≠ some b) w w' ∧ (v.ownBlock = some g ∨ w.heap.size ≤ g) ∧ g < w'.heap.size := by
  obtain ⟨i0, hi0, hz0, hz1, hz2⟩ := info_parts hi
  have hb : (n + 1) * bytes ≤ 140737488355328 := Nat.le_trans (Nat.mul_le_mul hn hby) (by omega)
  obtain ⟨g, cap, w', h1, h2, h3, h4, h5⟩ := run_append_lies (P := P) _ t ty base e i0 z 1 bytes ht hi0 hz0 hz1 hz2 hzs (by decide) v n xs (hown.alloc (.cells #[x] e))
    ⟨w.heap.size, 0, none⟩ 1 1 [x] rfl (World.news_of_block (cs := #[x]) (heap_new w (.cells #[x] e))) (by simp [hx]) (by decide) (by unfold maxLen; omega) hb (by simp; omega) (w.heap.size + 1) (by simp)
  refine ⟨g, cap, w', h1, h2, ((Keeps.refl _ w).alloc _).grown h3 (by intro k hk hh; exact hh.2 hk), ?_, h5⟩
  rcases h4 with h4 | h4
  · exact .inl h4
  · exact .inr (by omega)

/-- An append whose run is known. -/
theorem wpList_append_run {P : Program} {ops : Array Oper} {rest : List Oper} {o : Oper} {a : Act} {w w' : World} {Q : Exit → Act → World → Prop} {v xv r : Value} (hgd : o.guard = none) (s x : Operand) (t : TypeId)
    (ho : o.op = .call { callee := .builtin .append, args := #[s, x], argTypes := #[t, t] }) (hs : a.eval s = v) (hx : a.eval x = xv)
    (hr : (Builtin.append_ #[t, t] o.type #[v, xv]).run P w = .ok r w') (h : wpList P ops Q rest (a.put o.dst r) w') : wpList P ops Q (o :: rest) a w :=
  wpList_plain hgd fun K hK => by
    unfold Oper.wp execOp
    simp only [ho, resolve, invoke, builtin, Sem.run_bind, Sem.run_pure, Result.andThen_ok, List.map_toArray, List.map_cons, List.map_nil, hs, hx, hr]
    exact hK _ _ h

theorem cell_alloc {w : World} {p : Addr} {v : Value} (h : w.cell? p = some v) (o : Obj) : (w.alloc o).cell? p = some v :=
  Keeps.cell ((Keeps.refl (fun _ => True) w).alloc o) h trivial

theorem cell_new (w : World) (cs : Array Value) (t : TypeId) (i : Nat) : (w.alloc (.cells cs t)).cell? ⟨w.heap.size, i, none⟩ = cs[i]? := cell_at (heap_new w _) i

theorem ret_bool {a b : Bool} (h : a = b) : Ending.returned (.bool a) = .returned (.bool b) := by rw [h]
theorem ret_int {k : IntKind} {a b : Int} (h : a = b) : Ending.returned (.int k a) = .returned (.int k b) := by rw [h]

end Go.Proofs.Ytbmpnfibebiaeaa

/- A region that draws its order, walked once in an order that we name: what only reads is taken as soon as it may come, what calls or writes when nothing else may come. -/
namespace Go.Proofs.Ytbmpnfibebiaeaa

section
variable {P : Program} {ops : Array Oper} {Q : Exit → Act → World → Prop}

/-- An operation in state a yields v in this world, and leaves it. -/
def yieldsNow (v : Value) (w : World) : Result Next → Prop
  | .ok (.value u) w' => w' = w ∧ u = v
  | _ => False

/-- The walk in the order named: (i, true): number i reads only; (i, false): number i is the only one that may come. -/
def wpHO (P : Program) (ops : Array Oper) (Q : Exit → Act → World → Prop) : List (Nat × Bool) → (World → Prop) → Act → World → Prop
  | [], _, a, w => Q .normal a w
  | (i, true) :: r, S, a, w => ∃ o v, ops[i]? = some o ∧
      ((Region.wanted o (yielded ops a.tmps) = true ∧ ∀ w', S w' → yieldsNow v w' ((execOp a.eval o).run P w')) ∨ (Region.wanted o (yielded ops a.tmps) = false ∧ v = undef)) ∧
      wpHO P ops Q r S (a.put o.dst v) w
  | (i, false) :: r, S, a, w => ∀ K : Act → World → Prop, (∀ (S' : World → Prop) a' w', S' w' → (∀ x, S' x → S x) → wpHO P ops Q r S' a' w' → K a' w') → wpOp P ops Q i K a w

/-- The Bool that the order must meet. -/
def ordB (ops : Array Oper) : List (Nat × Bool) → Array Bool → Bool
  | [], listed => (Region.ready .any ops listed).isEmpty
  | (i, true) :: r, listed => (Region.ready .any ops listed).contains i && Region.free .any ops listed i && ordB ops r (listed.setIfInBounds i true)
  | (i, false) :: r, listed => (Region.ready .any ops listed == [i]) && ordB ops r (listed.setIfInBounds i true)

theorem wpAnyH_weak {S S' : World → Prop} (hS : ∀ x, S' x → S x) : ∀ (fuel : Nat) (listed : Array Bool) (a : Act) (w : World), wpAnyH P .any ops Q S' fuel listed a w → wpAnyH P .any ops Q S fuel listed a w
  | 0, _, _, _, h => h
  | fuel + 1, _, _, _, h => ⟨h.1, fun i hi => wpOp_mono (fun a' w' h' => ⟨hS _ h'.1, wpAnyH_weak hS fuel _ a' w' h'.2⟩) (h.2 i hi)⟩

theorem wpAnyH_ord (hs : Region.noSelect ops = true) (hQ : ∀ c d v a w, Q (.panic c) (Act.put a d v) w → Q (.panic c) a w) :
    ∀ (π : List (Nat × Bool)) (listed : Array Bool) (S : World → Prop) (a : Act) (w : World), ordB ops π listed = true → S w → wpHO P ops Q π S a w → wpAnyH P .any ops Q S π.length listed a w
  | [], listed, S, a, w, hB, _, h => ⟨by simpa [ordB] using hB, h⟩
  | (i, true) :: r, listed, S, a, w, hB, hS, h => by
    obtain ⟨o, v, ho, hy, h⟩ := h
    simp only [ordB, Bool.and_eq_true] at hB
    obtain ⟨⟨hr, hf⟩, hB'⟩ := hB
    refine wpAnyH_take ho hs hf hr (fun c a w => hQ c _ _ a w) ?_ hS (wpAnyH_ord hs hQ r _ S _ w hB' hS h)
    rcases hy with ⟨h1, h2⟩ | h1
    · refine .inl ⟨h1, fun w' hw' => ?_⟩
      have := h2 w' hw'
      unfold yieldsNow at this
      split at this
      · obtain ⟨rfl, rfl⟩ := this; assumption
      · exact this.elim
    · exact .inr h1
  | (i, false) :: r, listed, S, a, w, hB, hS, h => by
    simp only [ordB, Bool.and_eq_true, beq_iff_eq] at hB
    obtain ⟨hr, hB'⟩ := hB
    refine wpAnyH_all hr (by simp) fun j hj => ?_
    simp only [List.mem_singleton] at hj
    subst hj
    exact h _ fun S' a' w' h1 h2 h3 => ⟨h2 _ h1, wpAnyH_weak h2 _ _ _ _ (wpAnyH_ord hs hQ r _ S' a' w' hB' h1 h3)⟩

/-- Q, but never at a panic. -/
def NP (Q : Exit → Act → World → Prop) : Exit → Act → World → Prop
  | .panic _, _, _ => False
  | e, a, w => Q e a w

theorem NP.imp {Q : Exit → Act → World → Prop} : ∀ (e : Exit) (a : Act) (w : World), NP Q e a w → Q e a w := fun e a w h => by
  cases e <;> first | exact h | exact (h : False).elim

/-- A region that draws its order, by an order of our own. It must not panic. -/
theorem wp_region_ord {id : Nat} {a : Act} {w : World} (π : List (Nat × Bool)) (S : World → Prop) (hm : P.follows .mixedOrders = true)
    (hB : (Region.noSelect ops && (π.length == ops.size) && ordB ops π (Array.replicate ops.size false)) = true) (hS : S w.drew) (h : wpHO P ops (NP Q) π S a w.drew) : (Code.region id ops true).wp P Q a w := by
  refine Code.wp_mono NP.imp ?_
  simp only [Bool.and_eq_true, beq_iff_eq] at hB
  obtain ⟨⟨h1, h2⟩, h3⟩ := hB
  refine wp_region_held (S := S) hm ?_
  rw [← h2]
  rw [← h2] at h3
  exact wpAnyH_ord h1 (fun c d v a w h => h) π _ S a _ h3 hS h

theorem ho_done {S : World → Prop} {a : Act} {w : World} (h : Q .normal a w) : wpHO P ops (NP Q) [] S a w := h

theorem ho_take {i : Nat} {r : List (Nat × Bool)} {S : World → Prop} {a : Act} {w : World} {o : Oper} {v : Value} (ho : ops[i]? = some o) (hw : Region.wanted o (yielded ops a.tmps) = true)
    (hv : ∀ w', S w' → yieldsNow v w' ((execOp a.eval o).run P w')) (h : wpHO P ops Q r S (a.put o.dst v) w) : wpHO P ops Q ((i, true) :: r) S a w := ⟨o, v, ho, .inl ⟨hw, hv⟩, h⟩

theorem ho_pass {i : Nat} {r : List (Nat × Bool)} {S : World → Prop} {a : Act} {w : World} {o : Oper} (ho : ops[i]? = some o) (hw : Region.wanted o (yielded ops a.tmps) = false)
    (h : wpHO P ops Q r S (a.put o.dst undef) w) : wpHO P ops Q ((i, true) :: r) S a w := ⟨o, _, ho, .inr ⟨hw, rfl⟩, h⟩

theorem ho_pass' {i : Nat} {r : List (Nat × Bool)} {S : World → Prop} {a : Act} {w : World} {o : Oper} (ho : ops[i]? = some o) (hw : Region.wanted o (yielded ops a.tmps) = false) (hS : S w)
    (h : wpHO P ops Q r S (a.put o.dst undef) w) : wpHO P ops Q ((i, false) :: r) S a w := fun K hK => by
  unfold wpOp
  simp only [ho, hw]
  exact hK S _ _ hS (fun _ h => h) h

theorem ho_do {i : Nat} {r : List (Nat × Bool)} {S : World → Prop} {a : Act} {w : World} {o : Oper} (ho : ops[i]? = some o) (hw : Region.wanted o (yielded ops a.tmps) = true)
    (h : ∀ K : Act → World → Prop, (∀ (S' : World → Prop) a' w', S' w' → (∀ x, S' x → S x) → wpHO P ops Q r S' a' w' → K a' w') → o.wp P a w K Q) : wpHO P ops Q ((i, false) :: r) S a w := fun K hK => by
  unfold wpOp
  simp only [ho, hw, if_true]
  exact .inl (h K hK)

end
/-- A region that draws its order, whose operations only read or call what only makes memory: walked once, in the order of the text. -/
theorem wp_region_same {P : Program} {id : Nat} {Q : Exit → Act → World → Prop} {a : Act} {w : World} {l : List Oper} (hm : P.follows .mixedOrders = true) (hB : Region.lexB .any l.toArray = true)
    (h : wpQuiet P l.toArray (fun w' => Same w w') (fun a' => ∀ w', Same w w' → Q .normal a' w') l a) : (Code.region id l.toArray true).wp P Q a w :=
  wp_region_quiet (C := fun w' => Same w w') hm hB (Keeps.drew (Keeps.refl _ w)) (by simpa using h)

theorem quiet_do {P : Program} {o : Oper} {a : Act} {C : World → Prop} {K : Act → Prop} {v : Value} {E : Prop} {y : Nat → Option Bool} (hw : Region.wanted o y = true) (h : ∀ w', C w' → o.quietAt P a C w' v) (hk : K (a.put o.dst v)) :
    if Region.wanted o y then o.quiet P a C K else E := by
  rw [hw, if_pos rfl]; exact ⟨v, h, hk⟩

theorem quiet_skip {P : Program} {o : Oper} {a : Act} {C : World → Prop} {K : Act → Prop} {E : Prop} {y : Nat → Option Bool} (hw : Region.wanted o y = false) (hk : E) :
    if Region.wanted o y then o.quiet P a C K else E := by
  rw [hw]; exact hk

attribute [go_sem] yieldsNow
end Go.Proofs.Ytbmpnfibebiaeaa

/- As Ord, but at a step two operations may come: each is walked. -/
namespace Go.Proofs.Ytbmpnfibebiaeaa

/-- How a region is walked: an operation that reads is taken; one alone comes up; one of two comes up. -/
inductive Plan where
  | done
  | take (i : Nat) (r : Plan)
  | one (i : Nat) (r : Plan)
  | two (i j : Nat) (r s : Plan)

def Plan.len : Plan → Nat
  | .done => 0
  | .take _ r => r.len + 1
  | .one _ r => r.len + 1
  | .two _ _ r _ => r.len + 1

section
variable {P : Program} {ops : Array Oper} {Q : Exit → Act → World → Prop}

/-- An operation comes up: what it does, and the rest behind it. -/
def wpUp (P : Program) (ops : Array Oper) (Q : Exit → Act → World → Prop) (i : Nat) (N : (World → Prop) → Act → World → Prop) (S : World → Prop) (a : Act) (w : World) : Prop :=
  ∀ K : Act → World → Prop, (∀ (S' : World → Prop) a' w', S' w' → (∀ x, S' x → S x) → N S' a' w' → K a' w') → wpOp P ops Q i K a w

def wpPlan (P : Program) (ops : Array Oper) (Q : Exit → Act → World → Prop) : Plan → (World → Prop) → Act → World → Prop
  | .done, _, a, w => Q .normal a w
  | .take i r, S, a, w => ∃ o v, ops[i]? = some o ∧
      ((Region.wanted o (yielded ops a.tmps) = true ∧ ∀ w', S w' → yieldsNow v w' ((execOp a.eval o).run P w')) ∨ (Region.wanted o (yielded ops a.tmps) = false ∧ v = undef)) ∧
      wpPlan P ops Q r S (a.put o.dst v) w
  | .one i r, S, a, w => wpUp P ops Q i (wpPlan P ops Q r) S a w
  | .two i j r s, S, a, w => wpUp P ops Q i (wpPlan P ops Q r) S a w ∧ wpUp P ops Q j (wpPlan P ops Q s) S a w

def planB (ops : Array Oper) : Plan → Array Bool → Bool
  | .done, listed => (Region.ready .any ops listed).isEmpty
  | .take i r, listed => (Region.ready .any ops listed).contains i && Region.free .any ops listed i && planB ops r (listed.setIfInBounds i true)
  | .one i r, listed => (Region.ready .any ops listed == [i]) && planB ops r (listed.setIfInBounds i true)
  | .two i j r s, listed => (Region.ready .any ops listed == [i, j]) && (r.len == s.len) && planB ops r (listed.setIfInBounds i true) && planB ops s (listed.setIfInBounds j true)

theorem wpAnyH_plan (hs : Region.noSelect ops = true) (hQ : ∀ c d v a w, Q (.panic c) (Act.put a d v) w → Q (.panic c) a w) :
    ∀ (π : Plan) (listed : Array Bool) (S : World → Prop) (a : Act) (w : World), planB ops π listed = true → S w → wpPlan P ops Q π S a w → wpAnyH P .any ops Q S π.len listed a w
  | .done, listed, S, a, w, hB, _, h => ⟨by simpa [planB] using hB, h⟩
  | .take i r, listed, S, a, w, hB, hS, h => by
    obtain ⟨o, v, ho, hy, h⟩ := h
    simp only [planB, Bool.and_eq_true] at hB
    obtain ⟨⟨hr, hf⟩, hB'⟩ := hB
    refine wpAnyH_take ho hs hf hr (fun c a w => hQ c _ _ a w) ?_ hS (wpAnyH_plan hs hQ r _ S _ w hB' hS h)
    rcases hy with ⟨h1, h2⟩ | h1
    · refine .inl ⟨h1, fun w' hw' => ?_⟩
      have := h2 w' hw'
      unfold yieldsNow at this
      split at this
      · obtain ⟨rfl, rfl⟩ := this; assumption
      · exact this.elim
    · exact .inr h1
  | .one i r, listed, S, a, w, hB, hS, h => by
    simp only [planB, Bool.and_eq_true, beq_iff_eq] at hB
    obtain ⟨hr, hB'⟩ := hB
    refine wpAnyH_all hr (by simp) fun j hj => ?_
    simp only [List.mem_singleton] at hj
    subst hj
    exact h _ fun S' a' w' h1 h2 h3 => ⟨h2 _ h1, wpAnyH_weak h2 _ _ _ _ (wpAnyH_plan hs hQ r _ S' a' w' hB' h1 h3)⟩
  | .two i k r s, listed, S, a, w, hB, hS, h => by
    simp only [planB, Bool.and_eq_true, beq_iff_eq] at hB
    obtain ⟨⟨⟨hr, hl⟩, hB1⟩, hB2⟩ := hB
    refine wpAnyH_all hr (by simp) fun j hj => ?_
    rcases List.mem_cons.1 hj with rfl | hj
    · exact h.1 _ fun S' a' w' h1 h2 h3 => ⟨h2 _ h1, wpAnyH_weak h2 _ _ _ _ (wpAnyH_plan hs hQ r _ S' a' w' hB1 h1 h3)⟩
    · simp only [List.mem_singleton] at hj
      subst hj
      refine h.2 _ fun S' a' w' h1 h2 h3 => ⟨h2 _ h1, ?_⟩
      show wpAnyH P .any ops Q S r.len _ _ _
      rw [hl]
      exact wpAnyH_weak h2 _ _ _ _ (wpAnyH_plan hs hQ s _ S' a' w' hB2 h1 h3)

/-- A region that draws its order, by a plan. It must not panic. -/
theorem wp_region_plan {id : Nat} {a : Act} {w : World} (π : Plan) (S : World → Prop) (hm : P.follows .mixedOrders = true)
    (hB : (Region.noSelect ops && (π.len == ops.size) && planB ops π (Array.replicate ops.size false)) = true) (hS : S w.drew) (h : wpPlan P ops (NP Q) π S a w.drew) : (Code.region id ops true).wp P Q a w := by
  refine Code.wp_mono NP.imp ?_
  simp only [Bool.and_eq_true, beq_iff_eq] at hB
  obtain ⟨⟨h1, h2⟩, h3⟩ := hB
  refine wp_region_held (S := S) hm ?_
  rw [← h2]
  rw [← h2] at h3
  exact wpAnyH_plan h1 (fun c d v a w h => h) π _ S a _ h3 hS h

theorem pl_done {S : World → Prop} {a : Act} {w : World} (h : Q .normal a w) : wpPlan P ops (NP Q) .done S a w := h

theorem pl_take {i : Nat} {r : Plan} {S : World → Prop} {a : Act} {w : World} {o : Oper} {v : Value} (ho : ops[i]? = some o) (hw : Region.wanted o (yielded ops a.tmps) = true)
    (hv : ∀ w', S w' → yieldsNow v w' ((execOp a.eval o).run P w')) (h : wpPlan P ops Q r S (a.put o.dst v) w) : wpPlan P ops Q (.take i r) S a w := ⟨o, v, ho, .inl ⟨hw, hv⟩, h⟩

theorem pl_pass {i : Nat} {r : Plan} {S : World → Prop} {a : Act} {w : World} {o : Oper} (ho : ops[i]? = some o) (hw : Region.wanted o (yielded ops a.tmps) = false)
    (h : wpPlan P ops Q r S (a.put o.dst undef) w) : wpPlan P ops Q (.take i r) S a w := ⟨o, _, ho, .inr ⟨hw, rfl⟩, h⟩

theorem up_do {i : Nat} {N : (World → Prop) → Act → World → Prop} {S : World → Prop} {a : Act} {w : World} {o : Oper} (ho : ops[i]? = some o) (hw : Region.wanted o (yielded ops a.tmps) = true)
    (h : ∀ K : Act → World → Prop, (∀ (S' : World → Prop) a' w', S' w' → (∀ x, S' x → S x) → N S' a' w' → K a' w') → o.wp P a w K Q) : wpUp P ops Q i N S a w := fun K hK => by
  unfold wpOp
  simp only [ho, hw, if_true]
  exact .inl (h K hK)

theorem pl_one {i : Nat} {r : Plan} {S : World → Prop} {a : Act} {w : World} (h : wpUp P ops Q i (wpPlan P ops Q r) S a w) : wpPlan P ops Q (.one i r) S a w := h
theorem pl_two {i j : Nat} {r s : Plan} {S : World → Prop} {a : Act} {w : World} (h : wpUp P ops Q i (wpPlan P ops Q r) S a w) (h' : wpUp P ops Q j (wpPlan P ops Q s) S a w) : wpPlan P ops Q (.two i j r s) S a w := ⟨h, h'⟩

/-- An append whose run is known. -/
theorem up_append {i : Nat} {N : (World → Prop) → Act → World → Prop} {S : World → Prop} {a : Act} {w w' : World} {o : Oper} {v xv r : Value} (s x : Operand) (t : TypeId) (ho : ops[i]? = some o) (hw : Region.wanted o (yielded ops a.tmps) = true)
    (hop : o.op = .call { callee := .builtin .append, args := #[s, x], argTypes := #[t, t] }) (hs : a.eval s = v) (hx : a.eval x = xv)
    (hr : (Builtin.append_ #[t, t] o.type #[v, xv]).run P w = .ok r w') (S' : World → Prop) (hS' : S' w') (hle : ∀ x, S' x → S x) (h : N S' (a.put o.dst r) w') : wpUp P ops Q i N S a w :=
  up_do ho hw fun K hK => by
    unfold Oper.wp execOp
    simp only [hop, resolve, invoke, builtin, Sem.run_bind, Sem.run_pure, Result.andThen_ok, List.map_toArray, List.map_cons, List.map_nil, hs, hx, hr]
    exact hK S' _ _ hS' hle h

end
end Go.Proofs.Ytbmpnfibebiaeaa

/- As Ord2, where the last operation (a store that waits for all others) need not keep what the reads lean on. -/
namespace Go.Proofs.Ytbmpnfibebiaeaa

section
variable {P : Program} {ops : Array Oper} {Q : Exit → Act → World → Prop} {md : Region.Mode} {S : World → Prop} {z : Nat}

/-- As the kit's wpAnyH, but behind operation z nothing is asked of the world. -/
def wpAnyZ (P : Program) (md : Region.Mode) (ops : Array Oper) (Q : Exit → Act → World → Prop) (S : World → Prop) (z : Nat) : Nat → Array Bool → Act → World → Prop
  | 0, listed, a, w => Region.ready md ops listed = [] ∧ Q .normal a w
  | fuel + 1, listed, a, w =>
    (Region.ready md ops listed = [] → Q .normal a w) ∧
    ∀ i ∈ Region.ready md ops listed, wpOp P ops Q i (fun a' w' => (i ≠ z → S w') ∧ wpAnyZ P md ops Q S z fuel (listed.setIfInBounds i true) a' w') a w

theorem wpAny_of_z : ∀ (fuel : Nat) (listed : Array Bool) (a : Act) (w : World), wpAnyZ P md ops Q S z fuel listed a w → wpAny P md ops Q fuel listed a w
  | 0, _, _, _, h => h
  | fuel + 1, _, _, _, h => ⟨h.1, fun i hi => wpOp_mono (fun a' w' h' => wpAny_of_z fuel _ a' w' h'.2) (h.2 i hi)⟩

/-- What is listed was free to come. -/
def Closed (md : Region.Mode) (ops : Array Oper) (listed : Array Bool) : Prop :=
  ∀ j oj, ops[j]? = some oj → listed.getD j false = true → ∀ e ∈ oj.after, Region.binds md e = true → listed.getD e.on false = true

theorem Closed.start (n : Nat) : Closed md ops (Array.replicate n false) := fun j oj _ hl => by
  rw [Array.getD_eq_getD_getElem?, Array.getElem?_replicate] at hl
  split at hl <;> simp at hl

theorem Closed.set {listed : Array Bool} (h : Closed md ops listed) {i : Nat} (hi : i ∈ Region.ready md ops listed) : Closed md ops (listed.setIfInBounds i true) := by
  intro j oj hj hl e he hb
  obtain ⟨h0, o, ho, hall⟩ := mem_ready.1 hi
  by_cases e1 : i = j
  · subst e1
    rw [ho] at hj; obtain rfl := Option.some.inj hj
    exact getD_set_true (hall e he hb)
  · rw [getD_set_ne false e1] at hl
    exact getD_set_true (h j oj hj hl e he hb)

def edgeB (md : Region.Mode) (ops : Array Oper) (j i : Nat) : Bool :=
  match ops[j]? with
  | some o => o.after.any fun e => Region.binds md e && (e.on == i)
  | none => false

/-- What z waits for, in some steps. -/
def behind (md : Region.Mode) (ops : Array Oper) (z : Nat) : Nat → List Nat
  | 0 => [z]
  | n + 1 => (List.range ops.size).filter fun i => (behind md ops z n).contains i || (behind md ops z n).any fun j => edgeB md ops j i

theorem behind_listed {listed : Array Bool} (hc : Closed md ops listed) (hz : z ∈ Region.ready md ops listed) : ∀ n, ∀ i ∈ behind md ops z n, i = z ∨ listed.getD i false = true
  | 0, i, hi => by simp [behind] at hi; exact .inl hi
  | n + 1, i, hi => by
    have ih := behind_listed hc hz n
    unfold behind at hi
    obtain ⟨_, hi2⟩ := List.mem_filter.1 hi
    rw [Bool.or_eq_true] at hi2
    rcases hi2 with hi2 | hi2
    · exact ih i (by simpa using hi2)
    · obtain ⟨j, hj, hji⟩ := List.any_eq_true.1 hi2
      unfold edgeB at hji
      split at hji
      · rename_i o ho
        obtain ⟨k, hk, hb⟩ := Array.any_eq_true.1 hji
        have he := Array.getElem_mem hk
        generalize o.after[k] = e at hb he
        rw [Bool.and_eq_true, beq_iff_eq] at hb
        obtain ⟨hb1, rfl⟩ := hb
        right
        rcases ih j hj with rfl | hl
        · obtain ⟨_, o', ho', hall⟩ := mem_ready.1 hz
          rw [ho] at ho'; obtain rfl := Option.some.inj ho'
          exact hall e he hb1
        · exact hc j o ho hl e he hb1
      · cases hji

/-- z waits for all others. -/
def lastB (md : Region.Mode) (ops : Array Oper) (z : Nat) : Bool := (List.range ops.size).all fun i => (behind md ops z 8).contains i

theorem last_listed {listed : Array Bool} (hB : lastB md ops z = true) (hc : Closed md ops listed) (hz : z ∈ Region.ready md ops listed) {i : Nat} (hi : i < ops.size) (hne : i ≠ z) : listed.getD i false = true := by
  have := List.all_eq_true.1 hB i (List.mem_range.2 hi)
  exact (behind_listed hc hz 8 i (by simpa using this)).resolve_left hne

theorem wpAnyZ_first {i : Nat} {oi : Oper} {v : Value} (hB : lastB md ops z = true) (hi : ops[i]? = some oi) (hsel : ∀ (j : Nat) (o : Oper) cs b, ops[j]? = some o → o.op ≠ .select cs b) (hiz : i ≠ z)
    (hQ : ∀ c a w, Q (.panic c) (a.put oi.dst v) w → Q (.panic c) a w) :
    ∀ (fuel : Nat) (listed : Array Bool) (a : Act) (w : World), Closed md ops listed →
      (∀ j oj, ops[j]? = some oj → j ≠ i → listed.getD j true = false → (∀ e ∈ oj.after, Region.binds md e = true → e.on ≠ i) → oi.apart ops oj = true) →
      i ∈ Region.ready md ops listed → YieldsIf P ops S oi v a → S w →
      wpAnyZ P md ops Q S z fuel (listed.setIfInBounds i true) (a.put oi.dst v) w → wpAnyZ P md ops Q S z (fuel + 1) listed a w := by
  intro fuel
  induction fuel with
  | zero =>
    intro listed a w _ _ hr hy hS H
    refine ⟨fun h => (by rw [h] at hr; cases hr), fun j hj => ?_⟩
    by_cases hji : j = i
    · subst hji; exact hy.wpOp hi hS ⟨fun _ => hS, H⟩
    · have := ready_mono hj hji
      rw [H.1] at this
      cases this
  | succ fuel ih =>
    intro listed a w hc hfree hr hy hS H
    refine ⟨fun h => (by rw [h] at hr; cases hr), fun j hj => ?_⟩
    by_cases hji : j = i
    · subst hji; exact hy.wpOp hi hS ⟨fun _ => hS, H⟩
    · have hjz : j ≠ z := by
        rintro rfl
        have h1 := last_listed hB hc hj (Array.getElem?_eq_some_iff.1 hi).1 hiz
        have h0 := (mem_ready.1 hr).1
        rcases Nat.lt_or_ge i listed.size with h' | h'
        · simp [h'] at h0 h1; rw [h0] at h1; cases h1
        · simp [Array.getElem?_eq_none h'] at h1
      have h1 := H.2 j (ready_mono hj hji)
      obtain ⟨hjun, oj, hoj, hall⟩ := mem_ready.1 hj
      have hnot : ∀ e ∈ oj.after, Region.binds md e = true → e.on ≠ i := fun e he hb heq => by
        have h1 := hall e he hb
        have h0 := (mem_ready.1 hr).1
        rw [heq] at h1
        rcases Nat.lt_or_ge i listed.size with h' | h'
        · simp [h'] at h0 h1; rw [h0] at h1; cases h1
        · simp [Array.getElem?_eq_none h'] at h1
      have h2 := wpOp_putIf hoj (hfree j oj hoj hji hjun hnot) (fun cs b => hsel i oi cs b hi) (fun cs b => hsel j oj cs b hoj) hQ hy h1
      have hfree' : ∀ k ok, ops[k]? = some ok → k ≠ i → (listed.setIfInBounds j true).getD k true = false →
          (∀ e ∈ ok.after, Region.binds md e = true → e.on ≠ i) → oi.apart ops ok = true := fun k ok hk hki hun hno => by
        refine hfree k ok hk hki ?_ hno
        by_cases hjk : j = k
        · subst hjk; exact hjun
        · rw [getD_set_ne true hjk] at hun; exact hun
      refine wpOp_mono (fun a' w' h3 => ⟨fun _ => h3.2.1 hjz, ih (listed.setIfInBounds j true) a' w' (hc.set hj) hfree' (ready_mono hr (Ne.symm hji)) h3.1 (h3.2.1 hjz) ?_⟩) h2
      rw [Array.setIfInBounds_comm _ _ hji]
      exact h3.2.2

theorem wpAnyZ_weak {S S' : World → Prop} (hS : ∀ x, S' x → S x) : ∀ (fuel : Nat) (listed : Array Bool) (a : Act) (w : World), wpAnyZ P .any ops Q S' z fuel listed a w → wpAnyZ P .any ops Q S z fuel listed a w
  | 0, _, _, _, h => h
  | fuel + 1, _, _, _, h => ⟨h.1, fun i hi => wpOp_mono (fun a' w' h' => ⟨fun hz => hS _ (h'.1 hz), wpAnyZ_weak hS fuel _ a' w' h'.2⟩) (h.2 i hi)⟩

/-- How a region is walked: as Plan; or z comes last. -/
inductive PlanZ where
  | done
  | last
  | take (i : Nat) (r : PlanZ)
  | one (i : Nat) (r : PlanZ)
  | two (i j : Nat) (r s : PlanZ)

def PlanZ.len : PlanZ → Nat
  | .done => 0
  | .last => 1
  | .take _ r => r.len + 1
  | .one _ r => r.len + 1
  | .two _ _ r _ => r.len + 1

def wpPlanZ (P : Program) (ops : Array Oper) (Q : Exit → Act → World → Prop) (z : Nat) : PlanZ → (World → Prop) → Act → World → Prop
  | .done, _, a, w => Q .normal a w
  | .last, _, a, w => ∀ K : Act → World → Prop, (∀ a' w', Q .normal a' w' → K a' w') → wpOp P ops Q z K a w
  | .take i r, S, a, w => ∃ o v, ops[i]? = some o ∧
      ((Region.wanted o (yielded ops a.tmps) = true ∧ ∀ w', S w' → yieldsNow v w' ((execOp a.eval o).run P w')) ∨ (Region.wanted o (yielded ops a.tmps) = false ∧ v = undef)) ∧
      wpPlanZ P ops Q z r S (a.put o.dst v) w
  | .one i r, S, a, w => wpUp P ops Q i (wpPlanZ P ops Q z r) S a w
  | .two i j r s, S, a, w => wpUp P ops Q i (wpPlanZ P ops Q z r) S a w ∧ wpUp P ops Q j (wpPlanZ P ops Q z s) S a w

def planZB (ops : Array Oper) (z : Nat) : PlanZ → Array Bool → Bool
  | .done, listed => (Region.ready .any ops listed).isEmpty
  | .last, listed => (Region.ready .any ops listed == [z]) && (Region.ready .any ops (listed.setIfInBounds z true)).isEmpty
  | .take i r, listed => (Region.ready .any ops listed).contains i && !(i == z) && Region.free .any ops listed i && planZB ops z r (listed.setIfInBounds i true)
  | .one i r, listed => (Region.ready .any ops listed == [i]) && planZB ops z r (listed.setIfInBounds i true)
  | .two i j r s, listed => (Region.ready .any ops listed == [i, j]) && (r.len == s.len) && planZB ops z r (listed.setIfInBounds i true) && planZB ops z s (listed.setIfInBounds j true)

theorem wpAnyZ_plan (hL : lastB .any ops z = true) (hs : Region.noSelect ops = true) (hQ : ∀ c d v a w, Q (.panic c) (Act.put a d v) w → Q (.panic c) a w) :
    ∀ (π : PlanZ) (listed : Array Bool) (S : World → Prop) (a : Act) (w : World), Closed .any ops listed → planZB ops z π listed = true → S w → wpPlanZ P ops Q z π S a w → wpAnyZ P .any ops Q S z π.len listed a w
  | .done, listed, S, a, w, _, hB, _, h => ⟨by simpa [planZB] using hB, h⟩
  | .last, listed, S, a, w, hc, hB, hS, h => by
    simp only [planZB, Bool.and_eq_true, beq_iff_eq] at hB
    obtain ⟨hr, hB'⟩ := hB
    refine ⟨fun h0 => (by rw [h0] at hr; cases hr), fun j hj => ?_⟩
    rw [hr] at hj
    simp only [List.mem_singleton] at hj
    subst hj
    exact h _ fun a' w' h3 => ⟨fun hne => absurd rfl hne, by simpa using hB', h3⟩
  | .take i r, listed, S, a, w, hc, hB, hS, h => by
    obtain ⟨o, v, ho, hy, h⟩ := h
    simp only [planZB, Bool.and_eq_true] at hB
    obtain ⟨⟨⟨hr, hiz⟩, hf⟩, hB'⟩ := hB
    have hri : i ∈ Region.ready .any ops listed := by simpa using hr
    refine wpAnyZ_first hL ho (Region.noSelect_spec hs) (by simpa using hiz) (fun c a w => hQ c _ _ a w) _ _ _ _ hc (Region.free_spec ho hf) hri ?_ hS (wpAnyZ_plan hL hs hQ r _ S _ w (hc.set hri) hB' hS h)
    rcases hy with ⟨h1, h2⟩ | h1
    · refine .inl ⟨h1, fun w' hw' => ?_⟩
      have := h2 w' hw'
      unfold yieldsNow at this
      split at this
      · obtain ⟨rfl, rfl⟩ := this; assumption
      · exact this.elim
    · exact .inr h1
  | .one i r, listed, S, a, w, hc, hB, hS, h => by
    simp only [planZB, Bool.and_eq_true, beq_iff_eq] at hB
    obtain ⟨hr, hB'⟩ := hB
    refine ⟨fun h0 => (by rw [h0] at hr; cases hr), fun j hj => ?_⟩
    have hcj := hc.set hj
    rw [hr] at hj
    simp only [List.mem_singleton] at hj
    subst hj
    exact h _ fun S' a' w' h1 h2 h3 => ⟨fun _ => h2 _ h1, wpAnyZ_weak h2 _ _ _ _ (wpAnyZ_plan hL hs hQ r _ S' a' w' hcj hB' h1 h3)⟩
  | .two i k r s, listed, S, a, w, hc, hB, hS, h => by
    simp only [planZB, Bool.and_eq_true, beq_iff_eq] at hB
    obtain ⟨⟨⟨hr, hl⟩, hB1⟩, hB2⟩ := hB
    refine ⟨fun h0 => (by rw [h0] at hr; cases hr), fun j hj => ?_⟩
    have hcj := hc.set hj
    rw [hr] at hj
    simp only [List.mem_cons, List.not_mem_nil, or_false] at hj
    rcases hj with rfl | rfl
    · exact h.1 _ fun S' a' w' h1 h2 h3 => ⟨fun _ => h2 _ h1, wpAnyZ_weak h2 _ _ _ _ (wpAnyZ_plan hL hs hQ r _ S' a' w' hcj hB1 h1 h3)⟩
    · refine h.2 _ fun S' a' w' h1 h2 h3 => ⟨fun _ => h2 _ h1, wpAnyZ_weak h2 _ _ _ _ ?_⟩
      show wpAnyZ P .any ops Q S' z r.len _ a' w'
      rw [hl]
      exact wpAnyZ_plan hL hs hQ s _ S' a' w' hcj hB2 h1 h3

/-- A region that draws its order, by a plan, operation z last. It must not panic. -/
theorem wp_region_planz {id : Nat} {a : Act} {w : World} (z : Nat) (π : PlanZ) (S : World → Prop) (hm : P.follows .mixedOrders = true)
    (hB : (Region.noSelect ops && (π.len == ops.size) && lastB .any ops z && planZB ops z π (Array.replicate ops.size false)) = true) (hS : S w.drew) (h : wpPlanZ P ops (NP Q) z π S a w.drew) : (Code.region id ops true).wp P Q a w := by
  refine Code.wp_mono NP.imp ?_
  simp only [Bool.and_eq_true, beq_iff_eq] at hB
  obtain ⟨⟨⟨h1, h2⟩, h4⟩, h3⟩ := hB
  refine wp_region_any hm (wpAny_of_z (S := S) (z := z) _ _ _ _ ?_)
  have := wpAnyZ_plan h4 h1 (fun c d v a w h => h) π (Array.replicate ops.size false) S a w.drew (Closed.start _) h3 hS h
  rw [h2] at this
  exact this

theorem pz_done {S : World → Prop} {a : Act} {w : World} (h : Q .normal a w) : wpPlanZ P ops (NP Q) z .done S a w := h

theorem pz_take {i : Nat} {r : PlanZ} {S : World → Prop} {a : Act} {w : World} {o : Oper} {v : Value} (ho : ops[i]? = some o) (hw : Region.wanted o (yielded ops a.tmps) = true)
    (hv : ∀ w', S w' → yieldsNow v w' ((execOp a.eval o).run P w')) (h : wpPlanZ P ops Q z r S (a.put o.dst v) w) : wpPlanZ P ops Q z (.take i r) S a w := ⟨o, v, ho, .inl ⟨hw, hv⟩, h⟩

theorem pz_pass {i : Nat} {r : PlanZ} {S : World → Prop} {a : Act} {w : World} {o : Oper} (ho : ops[i]? = some o) (hw : Region.wanted o (yielded ops a.tmps) = false)
    (h : wpPlanZ P ops Q z r S (a.put o.dst undef) w) : wpPlanZ P ops Q z (.take i r) S a w := ⟨o, _, ho, .inr ⟨hw, rfl⟩, h⟩

theorem pz_one {i : Nat} {r : PlanZ} {S : World → Prop} {a : Act} {w : World} (h : wpUp P ops Q i (wpPlanZ P ops Q z r) S a w) : wpPlanZ P ops Q z (.one i r) S a w := h

theorem pz_two {i j : Nat} {r s : PlanZ} {S : World → Prop} {a : Act} {w : World} (h : wpUp P ops Q i (wpPlanZ P ops Q z r) S a w) (h' : wpUp P ops Q j (wpPlanZ P ops Q z s) S a w) : wpPlanZ P ops Q z (.two i j r s) S a w := ⟨h, h'⟩

/-- The last one is carried out. -/
theorem pz_last {S : World → Prop} {a : Act} {w : World} {o : Oper} (ho : ops[z]? = some o) (hw : Region.wanted o (yielded ops a.tmps) = true)
    (h : ∀ K : Act → World → Prop, (∀ a' w', Q .normal a' w' → K a' w') → o.wp P a w K Q) : wpPlanZ P ops Q z .last S a w := fun K hK => by
  unfold wpOp
  simp only [ho, hw, if_true]
  exact .inl (h K hK)

end
end Go.Proofs.Ytbmpnfibebiaeaa

/- What an argument that reads as data gives the walks: a slice of ints, of slices of ints, of bools. -/
namespace Go.Proofs.Ytbmpnfibebiaeaa
open Go.ChangeShapes Go.WideShapes Go.ChangeAt Go.RowKit Go.Deep

theorem own : ownKnob Try.prog.godebug = none := by kernel_rfl
theorem laidOut : laidOutB Try.prog = true := by kernel_rfl

section
variable {H : Type} {enc : TypeId × Value → H} {P : Program} {w : World} {base : Nat} {held : Bool}

/-- A slice whose elements are one cell each: its elements' values, each of which reads. -/
theorem slice_of_trod {t e : TypeId} {fuel : Nat} {cs : List Value} {x : DataW H × List MemPlace} (ht : P.underlying t = some (.slice e)) (hc : P.cellsOf e = 1)
    (h : DataW.trod enc P w base (fun _ => true) held fuel t cs = some x) :
    ∃ v vs, cs = [v] ∧ SliceAt w v vs ∧ ∀ y ∈ vs, ∃ n D, DataW.trod enc P w base (fun _ => true) held n e [y] = some D := by
  rcases open_slice1 ht hc h with ⟨rfl, _⟩ | ⟨a, len, cap, m, n, V, D, Pl, rfl, hb, hl, hm, hmm, hx, hV⟩
  · exact ⟨_, [], rfl, ⟨none, 0, rfl, Nat.le_refl _, Nat.zero_le _, .inl rfl⟩, by simp⟩
  · simp only [if_true] at hmm
    subst hmm
    refine ⟨_, (List.range len).map V, rfl, ⟨some a, m, by simp, by simpa using hl, hm, ?_⟩, ?_⟩
    · by_cases h0 : len = 0
      · subst h0; exact .inl rfl
      · right
        have h1 := (hV 0 (by omega)).1
        obtain ⟨b, off, spot⟩ := a
        have hs : spot = none := by simpa [Addr.add] using World.cell?_spot h1
        subst hs
        have hcell : ∀ i, i < len → w.cell? ⟨b, off + i, none⟩ = some (V i) := fun i hi => by
          have := (hV i (by omega)).1
          unfold Addr.add at this
          split at this
          · rename_i h0; subst h0; exact this
          · exact this
        have h2 := hcell 0 (by omega)
        unfold World.cell? at h2
        split at h2
        · rename_i cur ee fr hh
          refine ⟨b, off, cur, ee, fr, rfl, hh, fun i y hy => ?_⟩
          simp only [List.getElem?_map, Option.map_eq_some_iff] at hy
          obtain ⟨j, hj, rfl⟩ := hy
          have hj' := List.getElem?_eq_some_iff.1 hj
          obtain ⟨hj1, hj2⟩ := hj'
          simp only [List.length_range] at hj1
          simp only [List.getElem_range] at hj2
          subst hj2
          have := hcell i hj1
          rw [cell_at hh] at this
          exact this
        · cases h2
    · intro y hy
      simp only [List.mem_map, List.mem_range] at hy
      obtain ⟨i, hi, rfl⟩ := hy
      exact ⟨n, _, (hV i (by omega)).2⟩

/-- Each of the values is an int. -/
theorem ints_of_reads {e : TypeId} {vs : List Value} (he : P.underlying e = some (.int .i64)) (h : ∀ y ∈ vs, ∃ n D, DataW.trod enc P w base (fun _ => true) held n e [y] = some D) :
    ∃ l : List Int, vs = l.map (Value.int .i64) ∧ ∀ x ∈ l, InI64 x := by
  induction vs with
  | nil => exact ⟨[], rfl, by simp⟩
  | cons y ys ih =>
    obtain ⟨l, rfl, hl⟩ := ih fun z hz => h z (by simp [hz])
    obtain ⟨n, D, hD⟩ := h y (by simp)
    obtain ⟨a, e1, _, wa⟩ := DataW.trod_int he hD
    simp only [List.cons.injEq, and_true] at e1
    subst e1
    refine ⟨a :: l, rfl, ?_⟩
    intro x hx
    rcases List.mem_cons.1 hx with rfl | hx
    · have := bounds_i64 wa
      exact this
    · exact hl x hx

theorem ints_of_trod {t e : TypeId} {fuel : Nat} {cs : List Value} {x : DataW H × List MemPlace} (ht : P.underlying t = some (.slice e)) (he : P.underlying e = some (.int .i64)) (hc : P.cellsOf e = 1)
    (h : DataW.trod enc P w base (fun _ => true) held fuel t cs = some x) : ∃ v l, cs = [v] ∧ IntsAt w v l := by
  obtain ⟨v, vs, rfl, h1, h2⟩ := slice_of_trod ht hc h
  obtain ⟨l, rfl, hl⟩ := ints_of_reads he h2
  exact ⟨v, l, rfl, h1, hl⟩

end
end Go.Proofs.Ytbmpnfibebiaeaa

/- The plain notions of chapter 16: nodes, lists of nodes, what a node gives a letter. No program in sight. -/
namespace Go.Proofs.Ytbmpnfibebiaeaa

/-- A node: a value, or a track and two nodes' numbers. -/
inductive Nd where
  | leaf (v : Int)
  | fork (t lo hi : Nat)
  deriving DecidableEq

/-- The track of number i is greater than t (or it is a leaf). -/
def Under (L : List Nd) (i t : Nat) : Prop := i < L.length ∧ ∀ u lo hi, L[i]? = some (.fork u lo hi) → t < u

/-- May this node stand as number i? -/
def NdOk (T : Nat) (L : List Nd) (i : Nat) : Nd → Prop
  | .leaf v => 0 ≤ v ∧ v ≤ 1099511627776
  | .fork t lo hi => t < T ∧ lo < i ∧ hi < i ∧ lo ≠ hi ∧ Under L lo t ∧ Under L hi t

/-- A store's nodes: each may be, none is there twice. -/
structure WF (T : Nat) (L : List Nd) : Prop where
  six : T ≤ 6
  ok : ∀ i n, L[i]? = some n → NdOk T L i n
  nodup : L.Nodup

theorem WF.nil {T : Nat} (h : T ≤ 6) : WF T [] := ⟨h, by simp, by simp⟩

theorem Under.snoc {L : List Nd} {i t : Nat} (n : Nd) (h : Under L i t) : Under (L ++ [n]) i t := by
  refine ⟨by have := h.1; simp; omega, fun u lo hi e => h.2 u lo hi ?_⟩
  rwa [List.getElem?_append_left h.1] at e

theorem NdOk.snoc {T : Nat} {L : List Nd} {i : Nat} {n : Nd} (m : Nd) (h : NdOk T L i n) : NdOk T (L ++ [m]) i n := by
  cases n with
  | leaf v => exact h
  | fork t lo hi => obtain ⟨a, b, c, d, e, f⟩ := h; exact ⟨a, b, c, d, e.snoc m, f.snoc m⟩

theorem WF.snoc {T : Nat} {L : List Nd} {n : Nd} (h : WF T L) (hn : NdOk T L L.length n) (hm : n ∉ L) : WF T (L ++ [n]) := by
  refine ⟨h.six, fun i m hi => ?_, ?_⟩
  · by_cases hlt : i < L.length
    · rw [List.getElem?_append_left hlt] at hi
      exact (h.ok i m hi).snoc n
    · have : i = L.length := by
        have := (List.getElem?_eq_some_iff.1 hi).1
        simp at this; omega
      subst this
      simp at hi
      subst hi
      exact hn.snoc n
  · rw [List.nodup_append]
    refine ⟨h.nodup, by simp, ?_⟩
    intro a ha b hb e
    simp at hb
    subst hb; subst e
    exact hm ha

/-- The number of a node; it is put behind, if it is not there. -/
def idOf (L : List Nd) (n : Nd) : List Nd × Nat := if n ∈ L then (L, L.idxOf n) else (L ++ [n], L.length)

theorem idOf_mem {L : List Nd} {n : Nd} (h : n ∈ L) : idOf L n = (L, L.idxOf n) := if_pos h
theorem idOf_new {L : List Nd} {n : Nd} (h : n ∉ L) : idOf L n = (L ++ [n], L.length) := if_neg h

theorem idOf_get {L : List Nd} {n : Nd} : (idOf L n).1[(idOf L n).2]? = some n := by
  by_cases h : n ∈ L
  · rw [idOf_mem h]
    have := List.idxOf_lt_length_of_mem h
    simp [List.getElem?_eq_getElem this]
  · rw [idOf_new h]; simp

theorem idOf_lt {L : List Nd} {n : Nd} : (idOf L n).2 < (idOf L n).1.length := (List.getElem?_eq_some_iff.1 idOf_get).1

theorem idOf_wf {T : Nat} {L : List Nd} {n : Nd} (h : WF T L) (hn : NdOk T L L.length n) : WF T (idOf L n).1 := by
  by_cases hm : n ∈ L
  · rw [idOf_mem hm]; exact h
  · rw [idOf_new hm]; exact h.snoc hn hm

theorem idOf_len {L : List Nd} {n : Nd} : L.length ≤ (idOf L n).1.length ∧ (idOf L n).1.length ≤ L.length + 1 := by
  by_cases hm : n ∈ L
  · rw [idOf_mem hm]; simp
  · rw [idOf_new hm]; simp

theorem idOf_prefix {L : List Nd} {n : Nd} : L <+: (idOf L n).1 := by
  by_cases hm : n ∈ L
  · rw [idOf_mem hm]; exact List.prefix_rfl
  · rw [idOf_new hm]; exact List.prefix_append _ _

/-- What node i gives letter c. -/
def ev (L : List Nd) (c : Nat) : Nat → Nat → Int
  | 0, _ => -1
  | f + 1, i => match L[i]? with
    | some (.leaf v) => v
    | some (.fork t lo hi) => ev L c f (if c.testBit t then hi else lo)
    | none => -1

theorem ev_stable {T : Nat} {L : List Nd} (h : WF T L) (c : Nat) : ∀ (f g i : Nat), i < f → i < g → ev L c f i = ev L c g i
  | 0, _, _, h1, _ => absurd h1 (Nat.not_lt_zero _)
  | _, 0, _, _, h2 => absurd h2 (Nat.not_lt_zero _)
  | f + 1, g + 1, i, h1, h2 => by
    unfold ev
    cases hi : L[i]? with
    | none => rfl
    | some n => cases n with
      | leaf v => rfl
      | fork t lo hi' =>
        have ok := h.ok i _ hi
        have h3 : (if c.testBit t then hi' else lo) < i := by split; exact ok.2.2.1; exact ok.2.1
        exact ev_stable h c f g _ (by omega) (by omega)

/-- What node i gives letter c. -/
def val (L : List Nd) (i c : Nat) : Int := ev L c (i + 1) i

theorem val_leaf {L : List Nd} {i c : Nat} {v : Int} (hi : L[i]? = some (.leaf v)) : val L i c = v := by
  unfold val ev; rw [hi]

theorem val_fork {T : Nat} {L : List Nd} (h : WF T L) {i c t lo hi : Nat} (hn : L[i]? = some (.fork t lo hi)) : val L i c = val L (if c.testBit t then hi else lo) c := by
  conv => lhs; unfold val ev
  rw [hn]
  have ok := h.ok i _ hn
  have h3 : (if c.testBit t then hi else lo) < i := by split; exact ok.2.2.1; exact ok.2.1
  exact ev_stable h c _ _ _ h3 (by omega)

end Go.Proofs.Ytbmpnfibebiaeaa

/- A map of the call's own, whose keys' equality is known: what a lookup answers, what an update leaves. -/
namespace Go.Proofs.Ytbmpnfibebiaeaa
open Go.RowKit

/-- What the laws ask of a key's type: α's members as values; the search, the hash, the key that stays go through. -/
structure KeyT (P : Program) (kt : TypeId) {α : Type} [DecidableEq α] (enc : α → Value) : Prop where
  find : ∀ (x : α) (w : World) (es : List MapEntry) (A : List (α × Value)), es.map (fun e => (e.key, e.val)) = A.map (fun p => (enc p.1, p.2)) →
    (Instr.findKey kt (enc x) es).run P w = .ok (((A.zipIdx).find? fun p => decide (x = p.1.1)).map fun p => (p.2, p.1.2)) w
  check : ∀ b x w, (Instr.checkKey b 10000 kt (enc x)).run P w = .ok () w
  stays : ∀ x w, (Instr.keyThatStays (enc x) (enc x)).run P w = .ok (enc x) w

/-- The map at block m holds these pairs. -/
def MapAt {α : Type} (enc : α → Value) (w : World) (m : Nat) (A : List (α × Value)) : Prop :=
  ∃ es clk, w.heap[m]? = some (.map es clk) ∧ es.toList.map (fun e => (e.key, e.val)) = A.map fun p => (enc p.1, p.2)

section
variable {P : Program} {kt : TypeId} {α : Type} [DecidableEq α] {enc : α → Value}

theorem findAsking_run (heq : ∀ (x y : α) w, (Op.equal kt (enc x) (enc y)).run P w = .ok (decide (x = y)) w) (x : α) (w : World) : ∀ (es : List MapEntry) (A : List (α × Value)) (i : Nat), es.map (fun e => (e.key, e.val)) = A.map (fun p => (enc p.1, p.2)) →
    (Instr.findAsking kt (enc x) es i).run P w = .ok (((A.zipIdx i).find? fun p => decide (x = p.1.1)).map fun p => (p.2, p.1.2)) w
  | [], A, i, h => by
    have : A = [] := by simpa using h.symm
    subst this
    simp [Instr.findAsking]
  | e :: es, A, i, h => by
    cases A with
    | nil => simp at h
    | cons p A =>
      simp only [List.map_cons, List.cons.injEq, Prod.mk.injEq] at h
      obtain ⟨⟨h1, h2⟩, h3⟩ := h
      have ih := findAsking_run heq x w es A (i + 1) h3
      unfold Instr.findAsking
      simp only [Sem.run_bind, h1, heq, Result.andThen_ok]
      by_cases hx : x = p.1
      · simp [hx, h2]
      · simp [hx, ih]

/-- A key type whose equality is asked of the model. -/
theorem find_slow (hslow : ∀ d, P.underlying kt = some d → ∀ (x : α) y, Instr.sameNow d (enc x) y = none) (heq : ∀ (x y : α) w, (Op.equal kt (enc x) (enc y)).run P w = .ok (decide (x = y)) w) {d : TypeDesc} (hd : P.underlying kt = some d)
    (x : α) (w : World) (es : List MapEntry) (A : List (α × Value)) (h : es.map (fun e => (e.key, e.val)) = A.map (fun p => (enc p.1, p.2))) :
    (Instr.findKey kt (enc x) es).run P w = .ok (((A.zipIdx).find? fun p => decide (x = p.1.1)).map fun p => (p.2, p.1.2)) w := by
  unfold Instr.findKey
  simp only [Sem.run_bind, run_underlying hd, Result.andThen_ok]
  cases es with
  | nil =>
    have : A = [] := by simpa using h.symm
    subst this
    simp [Instr.findNow]
  | cons e es =>
    have : Instr.findNow d (enc x) (e :: es) 0 = none := by
      unfold Instr.findNow
      rw [hslow d hd]
    simp only [this]
    exact findAsking_run heq x w _ A 0 h

theorem findNow_int (x : Int) : ∀ (es : List MapEntry) (A : List (Int × Value)) (i : Nat), es.map (fun e => (e.key, e.val)) = A.map (fun p => (Value.int .i64 p.1, p.2)) →
    Instr.findNow (.int .i64) (.int .i64 x) es i = some (((A.zipIdx i).find? fun p => decide (x = p.1.1)).map fun p => (p.2, p.1.2))
  | [], A, i, h => by
    have : A = [] := by simpa using h.symm
    subst this
    simp [Instr.findNow]
  | e :: es, A, i, h => by
    cases A with
    | nil => simp at h
    | cons p A =>
      simp only [List.map_cons, List.cons.injEq, Prod.mk.injEq] at h
      obtain ⟨⟨h1, h2⟩, h3⟩ := h
      have ih := findNow_int x es A (i + 1) h3
      unfold Instr.findNow
      rw [h1]
      by_cases hx : x = p.1
      · simp [Instr.sameNow, hx, h2]
      · have hb : (x == p.1) = false := by simpa using hx
        simp [Instr.sameNow, hx, hb, ih]

/-- Ints as keys. -/
theorem intKeys (hk : P.underlying kt = some (.int .i64)) : KeyT P kt (Value.int .i64) where
  find := fun x w es A h => by
    unfold Instr.findKey
    simp only [Sem.run_bind, run_underlying hk, Result.andThen_ok, findNow_int x es A 0 h]
    rfl
  check := fun b x w => by
    show (Instr.checkKey b (9999 + 1) kt (.int .i64 x)).run P w = _
    unfold Instr.checkKey
    simp [run_underlying hk]
  stays := fun x w => by
    unfold Instr.keyThatStays
    rw [if_pos]
    · rfl
    · show Instr.sameBits (9999 + 1) _ _ = true
      simp [Instr.sameBits]

theorem find_zipIdx (A : List (α × Value)) (x : α) : ∀ i, ((A.zipIdx i).find? fun p => decide (x = p.1.1)).map (fun p => p.1.2) = A.lookup x := by
  induction A with
  | nil => intro i; rfl
  | cons p A ih =>
    intro i
    by_cases hx : x = p.1
    · subst hx; simp [List.lookup]
    · have h1 : (x == p.1) = false := by simpa using hx
      simp only [List.zipIdx_cons, List.find?_cons, hx, decide_false, List.lookup]
      rw [h1]
      exact ih (i + 1)

/-- 'v, ok := m[k]'. -/
theorem run_lookup_at (K : KeyT P kt enc) {t e : TypeId} {z : Value} (ht : P.underlying t = some (.map kt e)) {w : World} {m : Nat} {A : List (α × Value)} (hz : (zeroValue e).run P w = .ok z w)
    (hm : MapAt enc w m A) (x : α) :
    (Instr.lookup t (.map (some m)) (enc x) true).run P w = .ok (.tuple #[(A.lookup x).getD z, .bool (A.lookup x).isSome]) w := by
  obtain ⟨es, clk, h1, h2⟩ := hm
  have hf := K.find x w es.toList A h2
  have hl := find_zipIdx A x 0
  unfold Instr.lookup
  simp only [Sem.run_bind, run_underlying ht, Result.andThen_ok, MapKept.run_getObj_map h1, K.check, Sem.run_pure, hf]
  cases hc : (A.zipIdx).find? fun p => decide (x = p.1.1) with
  | none => rw [hc] at hl; simp at hl; simp [← hl, hz]
  | some p => rw [hc] at hl; simp at hl; simp [← hl]

/-- 'm[k] = v', the key not there yet. -/
theorem run_update_new (K : KeyT P kt enc) {t e : TypeId} (ht : P.underlying t = some (.map kt e)) {w : World} {m : Nat} {A : List (α × Value)}
    (hm : MapAt enc w m A) (x : α) (v : Value) (hx : A.lookup x = none) :
    ∃ w', (Instr.mapUpdate t (.map (some m)) (enc x) v).run P w = .ok () w' ∧ MapAt enc w' m (A ++ [(x, v)]) ∧ Keeps (· ≠ m) w w' := by
  obtain ⟨es, clk, h1, h2⟩ := hm
  have hf := K.find x w es.toList A h2
  have hl := find_zipIdx A x 0
  rw [hx] at hl
  have hn : ((A.zipIdx).find? fun p => decide (x = p.1.1)) = none := by
    cases hc : (A.zipIdx).find? fun p => decide (x = p.1.1) with
    | none => rfl
    | some p => rw [hc] at hl; simp at hl
  rw [hn] at hf
  refine ⟨ChangeMaps.setBlock w m (.map (es.push ⟨enc x, v, clk⟩) (clk + 1)), ?_, ⟨es.push ⟨enc x, v, clk⟩, clk + 1, ?_, ?_⟩, ?_⟩
  · unfold Instr.mapUpdate
    simp [run_underlying ht, MapKept.run_getObj_map h1, K.check, hf, MapKept.run_setObj_map _ h1, Result.andThen, ChangeMaps.setBlock]
  · have := heap_lt h1
    simp [ChangeMaps.setBlock, this]
  · simp [h2]
  · refine ⟨rfl, rfl, rfl, by simp [ChangeMaps.setBlock], fun k hk hne => ?_⟩
    simp [ChangeMaps.setBlock, Ne.symm hne]

/-- 'm[k] = v', whether the key is there or not. -/
theorem run_update_any (K : KeyT P kt enc) {t e : TypeId} (ht : P.underlying t = some (.map kt e)) {w : World} {m : Nat} {A : List (α × Value)}
    (hm : MapAt enc w m A) (x : α) (v : Value) :
    ∃ w' A', (Instr.mapUpdate t (.map (some m)) (enc x) v).run P w = .ok () w' ∧ MapAt enc w' m A' ∧ (∀ p ∈ A', p ∈ A ∨ p = (x, v)) ∧ Keeps (· ≠ m) w w' := by
  by_cases hx : A.lookup x = none
  · obtain ⟨w', h1, h2, h3⟩ := run_update_new K ht hm x v hx
    exact ⟨w', _, h1, h2, fun p hp => by simpa using hp, h3⟩
  · obtain ⟨es, clk, h1, h2⟩ := hm
    have hf := K.find x w es.toList A h2
    have hl := find_zipIdx A x 0
    obtain ⟨q, hq⟩ : ∃ q, ((A.zipIdx).find? fun p => decide (x = p.1.1)) = some q := by
      cases hc : (A.zipIdx).find? fun p => decide (x = p.1.1) with
      | none => rw [hc] at hl; exact absurd hl.symm hx
      | some q => exact ⟨q, rfl⟩
    rw [hq] at hf
    have hqx : x = q.1.1 := by have := List.find?_some hq; simpa using this
    have hqm : q ∈ A.zipIdx := List.mem_of_find?_eq_some hq
    obtain ⟨⟨qx, qv⟩, i⟩ := q
    simp only at hqx
    subst hqx
    have hAi : A[i]? = some (x, qv) := by
      have := List.mem_zipIdx_iff_getElem?.1 hqm
      simpa using this
    have hi : i < A.length := (List.getElem?_eq_some_iff.1 hAi).1
    have hei : ∃ e0, es[i]? = some e0 ∧ e0.key = enc x := by
      have h3 := congrArg (fun l => l[i]?) h2
      simp only [List.getElem?_map, hAi, Option.map_some, Array.getElem?_toList] at h3
      cases he : es[i]? with
      | none => rw [he] at h3; cases h3
      | some e0 => rw [he] at h3; simp at h3; exact ⟨e0, rfl, h3.1⟩
    obtain ⟨e0, he0, hk0⟩ := hei
    refine ⟨ChangeMaps.setBlock w m (.map (es.modify i fun e => { e with key := enc x, val := v }) clk), A.set i (x, v), ?_, ⟨es.modify i fun e => { e with key := enc x, val := v }, clk, ?_, ?_⟩, ?_, ?_⟩
    · unfold Instr.mapUpdate
      simp [run_underlying ht, MapKept.run_getObj_map h1, K.check, hf, he0, hk0, K.stays, MapKept.run_setObj_map _ h1, Result.andThen, ChangeMaps.setBlock]
    · have := heap_lt h1
      simp [ChangeMaps.setBlock, this]
    · apply List.ext_getElem?
      intro n
      have h3 := congrArg (fun l => l[n]?) h2
      simp only [List.getElem?_map, Array.getElem?_toList] at h3 ⊢
      rw [Array.getElem?_modify, List.getElem?_set]
      by_cases hn : i = n
      · subst hn; simp [he0, hi]
      · simp [hn]; exact h3
    · intro p hp
      rcases List.mem_or_eq_of_mem_set hp with h | h
      · exact .inl h
      · exact .inr h
    · refine ⟨rfl, rfl, rfl, by simp [ChangeMaps.setBlock], fun k hk hne => ?_⟩
      simp [ChangeMaps.setBlock, Ne.symm hne]

end

theorem lookup_mem {α : Type} [DecidableEq α] {A : List (α × Value)} {x : α} {v : Value} (h : A.lookup x = some v) : (x, v) ∈ A := by
  induction A with
  | nil => cases h
  | cons p A ih =>
    obtain ⟨y, u⟩ := p
    by_cases e : x = y
    · subst e; simp at h; subst h; simp
    · have : (x == y) = false := by simpa using e
      simp only [List.lookup, this] at h
      exact List.mem_cons_of_mem _ (ih h)

theorem MapAt.keep {α : Type} {enc : α → Value} {S : Nat → Prop} {w w' : World} {m : Nat} {A : List (α × Value)} (h : MapAt enc w m A) (k : Keeps S w w') (hs : S m) : MapAt enc w' m A := by
  obtain ⟨es, clk, h1, h2⟩ := h
  exact ⟨es, clk, k.at h1 hs, h2⟩

end Go.Proofs.Ytbmpnfibebiaeaa

/- A Store in memory, and the walks of bdd's small functions. -/
namespace Go.Proofs.Ytbmpnfibebiaeaa
open Go.RowKit

/-- A node as a value of the interface. -/
def Nd.val : Nd → Value
  | .leaf v => .iface 98 (.agg #[.int .i64 v])
  | .fork t lo hi => .iface 101 (.agg #[.int .i64 t, .int .i64 lo, .int .i64 hi])

theorem info_leaf : (Try.prog.info? 98).map (·.comparable) = some true := by kernel_rfl
theorem info_fork : (Try.prog.info? 101).map (·.comparable) = some true := by kernel_rfl

/-- Two interface values of one type. -/
theorem equal_iface {P : Program} {kt t : TypeId} {ms : Array (String × TypeId)} {x y : Value} {w : World} (hk : P.underlying kt = some (.interface ms)) (hc : (P.info? t).map (·.comparable) = some true) :
    (Op.equal kt (.iface t x) (.iface t y)).run P w = (Op.equalIn 9999 t x y).run P w := by
  obtain ⟨i, hi, hi2⟩ := Option.map_eq_some_iff.1 hc
  show (Op.equalIn (9999 + 1) kt (.iface t x) (.iface t y)).run P w = _
  conv => lhs; unfold Op.equalIn
  simp [run_underlying hk, typeInfo, hi, hi2]

theorem unequal_iface {P : Program} {kt t u : TypeId} {ms : Array (String × TypeId)} {x y : Value} {w : World} (hk : P.underlying kt = some (.interface ms)) (hc : t ≠ u) :
    (Op.equal kt (.iface t x) (.iface u y)).run P w = .ok false w := by
  show (Op.equalIn (9999 + 1) kt (.iface t x) (.iface u y)).run P w = _
  unfold Op.equalIn
  simp [run_underlying hk, hc]

theorem nodeEq (x y : Nd) (w : World) : (Op.equal 94 x.val y.val).run Try.prog w = .ok (decide (x = y)) w := by
  cases x with
  | leaf v => cases y with
    | leaf u =>
      refine (equal_iface Try.underlying94 info_leaf).trans ?_
      simp [go_sem]
      by_cases h : v = u <;> simp [h]
    | fork t lo hi => rw [show Op.equal 94 (Nd.leaf v).val (Nd.fork t lo hi).val = Op.equal 94 (.iface 98 _) (.iface 101 _) from rfl, unequal_iface Try.underlying94 (by decide)]; simp
  | fork t lo hi => cases y with
    | leaf u => rw [show Op.equal 94 (Nd.fork t lo hi).val (Nd.leaf u).val = Op.equal 94 (.iface 101 _) (.iface 98 _) from rfl, unequal_iface Try.underlying94 (by decide)]; simp
    | fork t' lo' hi' =>
      refine (equal_iface Try.underlying94 info_fork).trans ?_
      simp [go_sem]
      by_cases h1 : t = t' <;> by_cases h2 : lo = lo' <;> by_cases h3 : hi = hi' <;> simp [h1, h2, h3, Int.ofNat_inj]

theorem nodeKeys : KeyT Try.prog 94 Nd.val where
  find := find_slow (fun d _ x y => by cases x <;> cases d <;> rfl) nodeEq Try.underlying94
  check := fun b x w => by cases x <;> (cases b <;> kernel_rfl)
  stays := fun x w => by
    unfold Instr.keyThatStays
    rw [if_pos]
    · rfl
    · cases x
      · show Instr.sameBits (9998 + 1 + 1) (.iface _ (.agg _)) (.iface _ (.agg _)) = true
        simp [Instr.sameBits]
      · show Instr.sameBits (9998 + 1 + 1) (.iface _ (.agg _)) (.iface _ (.agg _)) = true
        simp [Instr.sameBits]

/-- The pairs of a store's map. -/
def idPairs (L : List Nd) : List (Nd × Value) := L.zipIdx.map fun p => (p.1, .int .i64 (p.2 : Int))

theorem lookup_zip (n : Nd) : ∀ (L : List Nd) (i : Nat), ((L.zipIdx i).map fun p => (p.1, Value.int .i64 (p.2 : Int))).lookup n = if n ∈ L then some (.int .i64 ((i + L.idxOf n : Nat) : Int)) else none
  | [], _ => by simp
  | x :: L, i => by
    by_cases h : n = x
    · subst h; simp
    · have h1 : (n == x) = false := by simpa using h
      have h2 : (x == n) = false := by simpa using fun e => h e.symm
      simp only [List.zipIdx_cons, List.map_cons, List.lookup, h1, lookup_zip n L (i + 1), List.mem_cons, h, false_or, List.idxOf_cons, h2]
      simp [Nat.add_assoc, Nat.add_comm 1]

theorem lookup_idPairs (n : Nd) (L : List Nd) : (idPairs L).lookup n = if n ∈ L then some (.int .i64 ((L.idxOf n : Nat) : Int)) else none := by
  have := lookup_zip n L 0
  simpa [idPairs] using this

theorem idPairs_snoc (L : List Nd) (n : Nd) : idPairs (L ++ [n]) = idPairs L ++ [(n, .int .i64 (L.length : Int))] := by
  simp [idPairs, List.zipIdx_append]

/-- The Store at block a: its tracks, its nodes. -/
structure StoreAt (w : World) (a : Nat) (T : Nat) (L : List Nd) : Prop where
  wf : WF T L
  st : ∃ v m, w.heap[a]? = some (.cells #[.int .i64 T, v, .map (some m)] 82 (0, 0)) ∧ w.ownsRow 0 94 1 v L.length (L.map Nd.val) ∧ MapAt Nd.val w m (idPairs L)

/-- The blocks that the Store at block a is made of. -/
def Foot (w : World) (a b : Nat) : Prop := b = a ∨ ∃ t v m, w.heap[a]? = some (.cells #[t, v, .map (some m)] 82 (0, 0)) ∧ (b = m ∨ v.ownBlock = some b)

/-- The Store at block a may have grown; nothing else that was there has turned. -/
structure Grew (a : Nat) (w w' : World) : Prop where
  keeps : Keeps (fun b => ¬ Foot w a b) w w'
  foot : ∀ b, Foot w' a b → Foot w a b ∨ w.heap.size ≤ b

theorem Grew.refl (a : Nat) (w : World) : Grew a w w := ⟨Keeps.refl _ _, fun _ h => .inl h⟩

theorem Grew.trans {a : Nat} {w w1 w2 : World} (h : Grew a w w1) (k : Grew a w1 w2) : Grew a w w2 :=
  ⟨h.keeps.trans k.keeps fun x hx hn => ⟨hn, fun hf => (h.foot x hf).elim hn (by omega)⟩,
    fun b hb => (k.foot b hb).elim (fun h1 => h.foot b h1) fun h1 => .inr (Nat.le_trans h.keeps.size h1)⟩

theorem foot_same {a : Nat} {w w' : World} (h : w'.heap[a]? = w.heap[a]?) (b : Nat) : Foot w' a b ↔ Foot w a b := by
  unfold Foot; rw [h]

theorem Grew.of_same {a : Nat} {w w' : World} {o : Obj} (h : w.heap[a]? = some o) (k : Same w w') : Grew a w w' :=
  ⟨k.mono fun _ _ _ => trivial, fun b hb => .inl ((foot_same ((k.at h trivial).trans h.symm) b).1 hb)⟩

/-- What lies below every block of the Store is kept. -/
theorem Grew.below {a B : Nat} {w w' : World} (h : Grew a w w') (hf : ∀ b, Foot w a b → B ≤ b) : Keeps (· < B) w w' :=
  h.keeps.mono fun x _ hx hn => by have := hf x hn; omega

theorem Grew.footB {a B : Nat} {w w' : World} (h : Grew a w w') (hf : ∀ b, Foot w a b → B ≤ b) (hB : B ≤ w.heap.size) : ∀ b, Foot w' a b → B ≤ b :=
  fun b hb => (h.foot b hb).elim (hf b) fun h1 => Nat.le_trans hB h1

/-- Of a Store's blocks: none holds cells of another type. -/
theorem not_foot {w : World} {a b T : Nat} {L : List Nd} {cs : Array Value} {t : TypeId} {fr : Nat × Nat} (h : StoreAt w a T L) (hb : w.heap[b]? = some (.cells cs t fr)) (h1 : t ≠ 82) (h2 : t ≠ 94) : ¬ Foot w a b := by
  obtain ⟨v, m, e1, e2, es, clk, e3, _⟩ := h.st
  rintro (rfl | ⟨t', v', m', e4, e5⟩)
  · rw [e1] at hb; simp at hb; exact h1 hb.2.1.symm
  · rw [e1] at e4
    simp only [Option.some.injEq, Obj.cells.injEq, Array.mk.injEq, List.cons.injEq, Value.map.injEq] at e4
    obtain ⟨⟨_, rfl, rfl, _⟩, _⟩ := e4
    rcases e5 with rfl | e5
    · rw [e3] at hb; cases hb
    · rcases e2.2 with ⟨rfl, _⟩ | ⟨g, cap, cur, rfl, _, hg, _⟩
      · simp [Value.ownBlock] at e5
      · simp [Value.ownBlock] at e5
        subst e5
        rw [hg] at hb; simp at hb; exact h2 hb.2.1.symm

theorem StoreAt.same {w w' : World} {a T : Nat} {L : List Nd} (h : StoreAt w a T L) (k : Same w w') : StoreAt w' a T L := by
  obtain ⟨v, m, e1, e2, e3⟩ := h.st
  refine ⟨h.wf, v, m, k.at e1 trivial, ?_, e3.keep k trivial⟩
  refine ⟨e2.1, ?_⟩
  rcases e2.2 with e4 | ⟨g, cap, cur, rfl, hb, hg, rest⟩
  · exact .inl e4
  · exact .inr ⟨g, cap, cur, rfl, hb, k.at hg trivial, rest⟩

/-- A Store keeps when its own blocks are kept. -/
theorem StoreAt.keep {S : Nat → Prop} {w w' : World} {a T : Nat} {L : List Nd} (h : StoreAt w a T L) (k : Keeps S w w') (hs : ∀ b, Foot w a b → S b) : StoreAt w' a T L := by
  obtain ⟨v, m, e1, e2, e3⟩ := h.st
  refine ⟨h.wf, v, m, k.at e1 (hs _ (.inl rfl)), ?_, e3.keep k (hs _ (.inr ⟨_, _, _, e1, .inl rfl⟩))⟩
  refine ⟨e2.1, ?_⟩
  rcases e2.2 with e4 | ⟨g, cap, cur, rfl, hb, hg, rest⟩
  · exact .inl e4
  · exact .inr ⟨g, cap, cur, rfl, hb, k.at hg (hs _ (.inr ⟨_, _, _, e1, .inr rfl⟩)), rest⟩

variable {R : Ending → World → Prop} {w : World} {a T : Nat} {L : List Nd}

theorem storeLen (h : StoreAt w a T L) (hR : ∀ e, e = .returned (.int .i64 (L.length : Int)) → R e w) : Calls Try.prog 66 #[.pointer (some ⟨a, 0, none⟩)] w R := by
  have HR := hide hR
  clear hR
  obtain ⟨v, m, e1, e2, e3⟩ := h.st
  have c1 : w.cell? ⟨a, 1, none⟩ = some v := cell_at e1 1
  rcases e2.2 with ⟨rfl, h0⟩ | ⟨g, cap, cur, rfl, _⟩
  · rw [h0] at HR
    clear e1 e2 e3 h h0
    go_enter Try.func66, Try.ntmps66
    go_wp2_with fail
    exact HR.out _ rfl
  · clear e1 e2 e3 h
    go_enter Try.func66, Try.ntmps66
    go_wp2_with fail
    exact HR.out _ rfl

theorem storeTracks (h : StoreAt w a T L) (hR : ∀ e, e = .returned (.int .i64 (T : Int)) → R e w) : Calls Try.prog 38 #[.pointer (some ⟨a, 0, none⟩)] w R := by
  have HR := hide hR
  clear hR
  obtain ⟨v, m, e1, _⟩ := h.st
  have c1 : w.cell? ⟨a, 0, none⟩ = some (.int .i64 T) := cell_at e1 0
  clear e1 h
  go_enter Try.func38, Try.ntmps38
  go_wp2_with fail
  exact HR.out _ rfl

theorem storeIs (h : StoreAt w a T L) (i : Int) (hR : ∀ e, e = .returned (.bool (decide (0 ≤ i) && decide (i < L.length))) → R e w) :
    Calls Try.prog 59 #[.pointer (some ⟨a, 0, none⟩), .int .i64 i] w R := by
  have HR := hide hR
  clear hR
  by_cases h0 : 0 ≤ i
  · go_enter Try.func59, Try.ntmps59
    go_wp2_with fail
    refine storeLen h ?_; rintro e rfl
    go_wp2_with fail
    exact HR.out _ (ret_bool (by simp [h0]))
  · go_enter Try.func59, Try.ntmps59
    go_wp2_with fail
    exact HR.out _ (ret_bool (by simp; omega))

theorem isValue (i : Int) (hR : ∀ e, e = .returned (.bool (decide (0 ≤ i) && decide (i ≤ 1099511627776))) → R e w) :
    Calls Try.prog 55 #[.int .i64 i] w R := by
  have HR := hide hR
  clear hR
  by_cases h0 : 0 ≤ i
  · go_enter Try.func55, Try.ntmps55
    go_wp2_with fail
    exact HR.out _ (ret_bool (by simp [h0]))
  · go_enter Try.func55, Try.ntmps55
    go_wp2_with fail
    exact HR.out _ (ret_bool (by simp; omega))

end Go.Proofs.Ytbmpnfibebiaeaa

/- The walks of bdd.New, id, Leaf, Mk, below, Track, Kids. -/
namespace Go.Proofs.Ytbmpnfibebiaeaa
open Go.RowKit

variable {R : Ending → World → Prop} {w : World} {a T : Nat} {L : List Nd}

theorem node_info : (Try.prog.info? 94).map (fun i => (i.zero, i.size, i.bytes)) = some (some .nilIface, 1, 16) := by kernel_rfl
theorem int_zero (w : World) : (zeroValue 3).run Try.prog w = .ok (.int .i64 0) w := by kernel_rfl

theorem Nd.val_oneCell (n : Nd) : n.val.oneCell' = true := by cases n <;> rfl

set_option maxHeartbeats 1000000 in
theorem storeId (h : StoreAt w a T L) (n : Nd) (hn : NdOk T L L.length n) (hb : L.length < 1099511627776)
    (hR : ∀ e w', e = .returned (.int .i64 ((idOf L n).2 : Nat)) → StoreAt w' a T (idOf L n).1 → Grew a w w' → R e w') :
    Calls Try.prog 67 #[.pointer (some ⟨a, 0, none⟩), n.val] w R := by
  have HR := hide hR
  clear hR
  obtain ⟨v, m, e1, e2, e3⟩ := h.st
  have c2 : w.cell? ⟨a, 2, none⟩ = some (.map (some m)) := cell_at e1 2
  have hl := run_lookup_at nodeKeys Try.underlying80 (int_zero w) e3 n
  rw [lookup_idPairs] at hl
  by_cases hm : n ∈ L
  · rw [if_pos hm] at hl
    simp only [Option.getD_some, Option.isSome_some] at hl
    rw [idOf_mem hm] at HR
    have H := hide h
    clear e1 e2 e3 h hn
    go_enter Try.func67, Try.ntmps67
    go_wp2_with fail
    exact HR.out _ _ rfl H.out (Grew.refl _ _)
  · rw [if_neg hm] at hl
    simp only [Option.getD_none, Option.isSome_none] at hl
    rw [idOf_new hm] at HR
    obtain ⟨sa, cap, hv⟩ : ∃ sa cap, v = .slice sa L.length cap := by
      rcases e2.2 with ⟨h1, h2⟩ | ⟨g, cap, cur, h1, _⟩
      · exact ⟨none, 0, by rw [h1, h2]⟩
      · exact ⟨_, cap, h1⟩
    subst hv
    have c1 : w.cell? ⟨a, 1, none⟩ = some (.slice sa L.length cap) := cell_at e1 1
    obtain ⟨g, cap1, w1, hr, hown, kal, hg, _⟩ := append_one (P := Try.prog) w 79 79 94 Try.underlying79 node_info rfl e2 (Nat.zero_le _) n.val n.val_oneCell (by omega) (by decide)
    have hav : (Value.slice sa L.length cap).ownBlock ≠ some a := by
      intro hx
      rcases e2.2 with ⟨h1, _⟩ | ⟨g, cap', cur, h1, _, hg, _⟩
      · rw [h1] at hx; simp [Value.ownBlock] at hx
      · rw [h1] at hx; simp [Value.ownBlock] at hx; subst hx; rw [e1] at hg; simp at hg
    have f1 := kal.at e1 hav
    have g1 : w1.cell? ⟨a, 1, none⟩ = some (.slice sa L.length cap) := cell_at f1 1
    have g2 : w1.cell? ⟨a, 2, none⟩ = some (.map (some m)) := cell_at f1 2
    have z1 : w1.frozen? ⟨a, 1, none⟩ = false := free_at f1 1
    obtain ⟨es, clk, e4, e5⟩ := e3
    have hmv : (Value.slice sa L.length cap).ownBlock ≠ some m := by
      intro hx
      rcases e2.2 with ⟨h1, _⟩ | ⟨g, cap', cur, h1, _, hg, _⟩
      · rw [h1] at hx; simp [Value.ownBlock] at hx
      · rw [h1] at hx; simp [Value.ownBlock] at hx; subst hx; rw [e4] at hg; cases hg
    have hma : m ≠ a := by rintro rfl; rw [e1] at e4; cases e4
    have m2 : MapAt Nd.val (w1.setCell ⟨a, 1, none⟩ (.slice (some ⟨g, 0, none⟩) (L.length + 1) cap1)) m (idPairs L) := ⟨es, clk, (heap_setCell_ne hma 1 _).trans (kal.at e4 hmv), e5⟩
    obtain ⟨w2, hr2, m3, k3⟩ := run_update_new nodeKeys Try.underlying80 m2 n (.int .i64 (L.length : Int)) (by rw [lookup_idPairs, if_neg hm])
    have s2 := k3.at (heap_setCell_at f1 1 (.slice (some ⟨g, 0, none⟩) (L.length + 1) cap1)) (Ne.symm hma)
    have HF : Hid (StoreAt w2 a T (L ++ [n]) ∧ Grew a w w2) := by
      obtain ⟨hown1, hown2⟩ := hown
      rcases hown2 with ⟨h1, _⟩ | ⟨g', cap', cur, h1, _, hgg, hrest⟩
      · simp at h1
      · simp only [Value.slice.injEq, Option.some.injEq, Addr.mk.injEq, and_true, true_and] at h1
        obtain ⟨rfl, rfl⟩ := h1
        have hga : g ≠ a := by rintro rfl; rw [f1] at hgg; simp at hgg
        have hgm : g ≠ m := by
          rintro rfl
          have := kal.at e4 hmv
          rw [this] at hgg; cases hgg
        have hgg2 := k3.at ((heap_setCell_ne hga 1 (.slice (some ⟨g, 0, none⟩) (L.length + 1) cap1)).trans hgg) hgm
        refine ⟨⟨h.wf.snoc hn hm, _, m, by simpa using s2, ⟨by simp, .inr ⟨g, cap1, cur, by simp, Nat.zero_le _, hgg2, by simpa using hrest⟩⟩, by rw [idPairs_snoc]; exact m3⟩, ?_, ?_⟩
        · refine (kal.trans (S' := fun b => b ≠ a ∧ b ≠ m) ((Keeps.setCell (Keeps.refl _ _) (by simp) _).trans k3 fun x _ hx => ⟨hx, hx.2⟩) fun x hx hnf => ?_)
          have q1 : x ≠ a := fun e => hnf (.inl e)
          have q2 : x ≠ m := fun e => hnf (.inr ⟨_, _, _, e1, .inl e⟩)
          have q3 : (Value.slice sa L.length cap).ownBlock ≠ some x := fun e => hnf (.inr ⟨_, _, _, e1, .inr e⟩)
          exact ⟨q3, q1, q2⟩
        · intro b hb
          rcases hb with rfl | ⟨t', v', m', e6, e7⟩
          · exact .inl (.inl rfl)
          · rw [s2] at e6
            simp at e6
            obtain ⟨_, rfl, rfl⟩ := e6
            rcases e7 with rfl | e7
            · exact .inl (.inr ⟨_, _, _, e1, .inl rfl⟩)
            · simp [Value.ownBlock] at e7
              subst e7
              rcases hg with hg | hg
              · exact .inl (.inr ⟨_, _, _, e1, .inr hg⟩)
              · exact .inr hg
    have HM := hide hm
    clear h e1 e2 e4 e5 hown kal hav hmv m2 m3 k3 f1 s2 hn hm hb hma hg
    cases n
    all_goals
      simp only [Nd.val] at hl hr hr2 ⊢
      go_enter Try.func67, Try.ntmps67
      go_wp2_with (at_builtin; refine wpList_append_run rfl _ _ _ rfl rfl rfl hr ?_; clear hr)
      exact HR.out _ _ rfl HF.out.1 HF.out.2


theorem assert_fork (x : Value) (w : World) : (Instr.typeAssert (.iface 101 x) 94 101 true).run Try.prog w = .ok (.tuple #[x, .bool true]) w := by kernel_rfl
theorem assert_leaf (x : Value) (w : World) : (Instr.typeAssert (.iface 98 x) 94 101 true).run Try.prog w = .ok (.tuple #[.agg #[.int .i64 0, .int .i64 0, .int .i64 0], .bool false]) w := by kernel_rfl
attribute [go_sem] assert_fork assert_leaf

/-- A node of a Store in memory. -/
theorem StoreAt.node (h : StoreAt w a T L) : ∃ sa cap, w.cell? ⟨a, 1, none⟩ = some (.slice sa L.length cap) ∧ w.cell? ⟨a, 0, none⟩ = some (.int .i64 T) ∧ L.length ≤ cap ∧ cap ≤ maxLen ∧
    ∀ k (_ : k < L.length), ∃ g, sa = some ⟨g, 0, none⟩ ∧ ∀ i n, L[i]? = some n → w.cell? ⟨g, i, none⟩ = some n.val := by
  obtain ⟨v, m, e1, e2, e3⟩ := h.st
  rcases e2.2 with ⟨rfl, h0⟩ | ⟨g, cap, cur, rfl, _, hg, h1, h2, h3, h4⟩
  · refine ⟨none, 0, ?_, cell_at e1 0, by omega, by unfold maxLen; omega, fun k hk => by omega⟩
    rw [h0]; exact cell_at e1 1
  · refine ⟨_, cap, cell_at e1 1, cell_at e1 0, h1, h2, fun k hk => ⟨g, rfl, fun i n hn => ?_⟩⟩
    rw [cell_at hg]
    rw [Nat.mul_one] at h4
    have hi := (List.getElem?_eq_some_iff.1 hn).1
    have : (cur.toList.take L.length)[i]? = some n.val := by rw [h4]; simp [hn]
    rw [List.getElem?_take, if_pos hi] at this
    simpa using this

/-- Below a track: the program's own test. -/
def underB (L : List Nd) (i t : Int) : Bool :=
  decide (0 ≤ i) && decide (i < L.length) && (match L[i.toNat]? with | some (.fork u _ _) => decide (t < u) | _ => true)

theorem underB_iff {i t : Nat} : underB L i t = true ↔ Under L i t := by
  unfold underB Under
  by_cases h : i < L.length
  · simp only [h, Bool.and_eq_true, decide_eq_true_eq, Int.toNat_natCast, true_and]
    obtain ⟨n, hn⟩ : ∃ n, L[i]? = some n := ⟨_, List.getElem?_eq_getElem h⟩
    rw [hn]
    cases n with
    | leaf v => simp; omega
    | fork u lo hi => simp; omega
  · simp [h]

theorem storeBelow (h : StoreAt w a T L) (i t : Int) (hR : ∀ e w', e = .returned (.bool (underB L i t)) → Same w w' → R e w') :
    Calls Try.prog 68 #[.pointer (some ⟨a, 0, none⟩), .int .i64 i, .int .i64 t] w R := by
  have HR := hide hR
  clear hR
  by_cases hi : 0 ≤ i ∧ i < L.length
  · obtain ⟨k, rfl⟩ := Int.eq_ofNat_of_zero_le hi.1
    have hk : k < L.length := by omega
    obtain ⟨sa, cap, c1, c0, b1, b2, hn⟩ := h.node
    obtain ⟨g, rfl, hq⟩ := hn k hk
    obtain ⟨n, hnk⟩ : ∃ n, L[k]? = some n := ⟨_, List.getElem?_eq_getElem hk⟩
    have cn := hq k n hnk
    unfold maxLen at b2
    have H := hide h
    have hu : underB L k t = (match L[k]? with | some (.fork u _ _) => decide (t < (u : Int)) | _ => true) := by unfold underB; rw [Int.toNat_natCast]; simp [hk]
    rw [hnk] at hu
    clear h hn hq hnk
    cases n with
    | leaf v =>
      simp only [Nd.val] at cn
      simp only [] at hu
      rw [hu] at HR
      clear hu
      go_enter Try.func68, Try.ntmps68
      go_wp2_with fail
      refine storeIs H.out _ ?_; rintro e rfl
      rw [show (decide (0 ≤ (k : Int)) && decide ((k : Int) < L.length)) = true by simp; omega]
      go_wp2_with fail
      exact HR.out _ _ rfl ((Keeps.refl _ _).alloc _)
    | fork u lo hi =>
      simp only [Nd.val] at cn
      simp only [] at hu
      rw [hu] at HR
      clear hu
      go_enter Try.func68, Try.ntmps68
      go_wp2_with fail
      refine storeIs H.out _ ?_; rintro e rfl
      rw [show (decide (0 ≤ (k : Int)) && decide ((k : Int) < L.length)) = true by simp; omega]
      go_wp2_with fail
      exact HR.out _ _ rfl ((Keeps.refl _ _).alloc _)
  · go_enter Try.func68, Try.ntmps68
    go_wp2_with fail
    refine storeIs h _ ?_; rintro e rfl
    rw [show (decide (0 ≤ i) && decide (i < L.length)) = false by simp; omega]
    go_wp2_with fail
    refine HR.out _ _ (ret_bool ?_) (Keeps.refl _ _)
    unfold underB; simp; omega

end Go.Proofs.Ytbmpnfibebiaeaa

/- The walks of bdd.New, Leaf, Mk, Track, Kids. -/
namespace Go.Proofs.Ytbmpnfibebiaeaa
open Go.RowKit

variable {R : Ending → World → Prop} {w : World} {a T : Nat} {L : List Nd}

/-- bdd.New, where there may be one. -/
theorem storeNew (t : Int) (h0 : 0 ≤ t) (h6 : t ≤ 6) (hR : ∀ e w' b, e = .returned (.pointer (some ⟨b, 0, none⟩)) → StoreAt w' b t.toNat [] → Same w w' → (∀ x, Foot w' b x → w.heap.size ≤ x) → R e w') :
    Calls Try.prog 41 #[.int .i64 t] w R := by
  have HR := hide hR
  clear hR
  have hmm := @run_makeMap Try.prog
  obtain ⟨T, rfl⟩ := Int.eq_ofNat_of_zero_le h0
  go_enter Try.func41, Try.ntmps41
  go_wp2_with fail
  have e1 := heap_new (w.alloc (.map #[] 0)) (.cells #[.int .i64 T, .slice none 0 0, .map (some w.heap.size)] 82)
  have e2 := heap_old (heap_new w (.map #[] 0)) (.cells #[.int .i64 T, .slice none 0 0, .map (some w.heap.size)] 82)
  have es : (w.alloc (.map #[] 0)).heap.size = w.heap.size + 1 := by simp
  rw [es] at e1
  refine HR.out _ _ (w.heap.size + 1) (by simp) ⟨WF.nil (by omega), _, _, e1, World.ownsRow_nil _ _ _ _, _, _, e2, rfl⟩ (((Keeps.refl _ _).alloc _).alloc _) ?_
  rintro x (rfl | ⟨t', v', m', e4, e5⟩)
  · omega
  · rw [e1] at e4
    simp at e4
    obtain ⟨_, rfl, rfl⟩ := e4
    rcases e5 with rfl | e5
    · omega
    · simp [Value.ownBlock] at e5

/-- bdd.New, where there may be none. -/
theorem storeNewNot (t : Int) (h : t < 0 ∨ 6 < t) (hR : ∀ e, e = .returned (.pointer none) → R e w) :
    Calls Try.prog 41 #[.int .i64 t] w R := by
  have HR := hide hR
  clear hR
  rcases h with h | h
  all_goals
    go_enter Try.func41, Try.ntmps41
    go_wp2_with fail
    exact HR.out _ rfl

/-- Leaf. -/
def leafA (L : List Nd) (v : Int) : List Nd × Int :=
  if 0 ≤ v ∧ v ≤ 1099511627776 then ((idOf L (.leaf v)).1, ((idOf L (.leaf v)).2 : Int)) else (L, -1)

theorem storeLeaf (h : StoreAt w a T L) (v : Int) (hb : L.length < 1099511627776)
    (hR : ∀ e w', e = .returned (.int .i64 (leafA L v).2) → StoreAt w' a T (leafA L v).1 → Grew a w w' → R e w') :
    Calls Try.prog 62 #[.pointer (some ⟨a, 0, none⟩), .int .i64 v] w R := by
  have HR := hide hR
  clear hR
  by_cases hv : 0 ≤ v ∧ v ≤ 1099511627776
  · have e : leafA L v = ((idOf L (.leaf v)).1, ((idOf L (.leaf v)).2 : Int)) := if_pos hv
    rw [e] at HR
    clear e
    go_enter Try.func62, Try.ntmps62
    go_wp2_with fail
    refine isValue v ?_; rintro e rfl
    rw [show (decide (0 ≤ v) && decide (v ≤ 1099511627776)) = true by simp [hv]]
    go_wp2_with fail
    refine storeId h (.leaf v) hv hb ?_; rintro e w1 rfl s1 g1
    go_wp2_with fail
    exact HR.out _ _ rfl s1 g1
  · have e : leafA L v = (L, -1) := if_neg hv
    rw [e] at HR
    clear e
    have H := hide hv
    clear hv
    go_enter Try.func62, Try.ntmps62
    go_wp2_with fail
    refine isValue v ?_; rintro e rfl
    rw [show (decide (0 ≤ v) && decide (v ≤ 1099511627776)) = false by have := H.out; simp; omega]
    go_wp2_with fail
    exact HR.out _ _ rfl h (Grew.refl _ _)

/-- Mk. -/
def mkA (T : Nat) (L : List Nd) (t lo hi : Int) : List Nd × Int :=
  if t < 0 ∨ T ≤ t ∨ underB L lo t = false ∨ underB L hi t = false then (L, -1)
  else if lo = hi then (L, lo) else ((idOf L (.fork t.toNat lo.toNat hi.toNat)).1, ((idOf L (.fork t.toNat lo.toNat hi.toNat)).2 : Int))

theorem underB_nonneg {i t : Int} (h : underB L i t = true) : 0 ≤ i ∧ i < L.length := by
  unfold underB at h
  simp only [Bool.and_eq_true, decide_eq_true_eq] at h
  exact h.1

theorem Grew.under (h : StoreAt w a T L) {w' : World} (k : Same w w') : Grew a w w' := by
  obtain ⟨v, m, e, _⟩ := h.st
  exact Grew.of_same e k

set_option maxHeartbeats 1000000 in
theorem storeMk (h : StoreAt w a T L) (t lo hi : Int) (hb : L.length < 1099511627776)
    (hR : ∀ e w', e = .returned (.int .i64 (mkA T L t lo hi).2) → StoreAt w' a T (mkA T L t lo hi).1 → Grew a w w' → R e w') :
    Calls Try.prog 63 #[.pointer (some ⟨a, 0, none⟩), .int .i64 t, .int .i64 lo, .int .i64 hi] w R := by
  have HR := hide hR
  clear hR
  by_cases h1 : t < 0
  · rw [show mkA T L t lo hi = (L, -1) from if_pos (.inl h1)] at HR
    go_enter Try.func63, Try.ntmps63
    go_wp2_with fail
    exact HR.out _ _ rfl h (Grew.refl _ _)
  by_cases h2 : T ≤ t
  · rw [show mkA T L t lo hi = (L, -1) from if_pos (.inr (.inl h2))] at HR
    go_enter Try.func63, Try.ntmps63
    go_wp2_with fail
    refine storeTracks h ?_; rintro e rfl
    go_wp2_with fail
    exact HR.out _ _ rfl h (Grew.refl _ _)
  cases h3 : underB L lo t with
  | false =>
    rw [show mkA T L t lo hi = (L, -1) from if_pos (.inr (.inr (.inl h3)))] at HR
    have H3 := hide h3
    clear h3
    go_enter Try.func63, Try.ntmps63
    go_wp2_with fail
    refine storeTracks h ?_; rintro e rfl
    go_wp2_with fail
    refine storeBelow h lo t ?_; rintro e w1 rfl k1
    rw [H3.out]
    go_wp2_with fail
    exact HR.out _ _ rfl (h.same k1) (Grew.under h k1)
  | true =>
    cases h4 : underB L hi t with
    | false =>
      rw [show mkA T L t lo hi = (L, -1) from if_pos (.inr (.inr (.inr h4)))] at HR
      have H3 := hide h3
      have H4 := hide h4
      clear h3 h4
      go_enter Try.func63, Try.ntmps63
      go_wp2_with fail
      refine storeTracks h ?_; rintro e rfl
      go_wp2_with fail
      refine storeBelow h lo t ?_; rintro e w1 rfl k1
      rw [H3.out]
      go_wp2_with fail
      refine storeBelow (h.same k1) hi t ?_; rintro e w2 rfl k2
      rw [H4.out]
      go_wp2_with fail
      exact HR.out _ _ rfl ((h.same k1).same k2) (Grew.under h (k1.tr k2))
    | true =>
      have b1 := underB_nonneg h3
      have b2 := underB_nonneg h4
      have hno : ¬ (t < 0 ∨ (T : Int) ≤ t ∨ underB L lo t = false ∨ underB L hi t = false) := by simp [h3, h4]; omega
      by_cases h5 : lo = hi
      · rw [show mkA T L t lo hi = (L, lo) by unfold mkA; rw [if_neg hno, if_pos h5]] at HR
        have H3 := hide h3
        have H4 := hide h4
        have h6 : (lo == hi) = true := by simpa using h5
        clear h3 h4 hno h5
        go_enter Try.func63, Try.ntmps63
        go_wp2_with fail
        refine storeTracks h ?_; rintro e rfl
        go_wp2_with fail
        refine storeBelow h lo t ?_; rintro e w1 rfl k1
        rw [H3.out]
        go_wp2_with fail
        refine storeBelow (h.same k1) hi t ?_; rintro e w2 rfl k2
        rw [H4.out]
        go_wp2_with fail
        exact HR.out _ _ rfl ((h.same k1).same k2) (Grew.under h (k1.tr k2))
      · rw [show mkA T L t lo hi = ((idOf L (.fork t.toNat lo.toNat hi.toNat)).1, ((idOf L (.fork t.toNat lo.toNat hi.toNat)).2 : Int)) by unfold mkA; rw [if_neg hno, if_neg h5]] at HR
        have h6 : (lo == hi) = false := by simpa using h5
        obtain ⟨t, rfl⟩ := Int.eq_ofNat_of_zero_le (show 0 ≤ t by omega)
        obtain ⟨lo, rfl⟩ := Int.eq_ofNat_of_zero_le b1.1
        obtain ⟨hi, rfl⟩ := Int.eq_ofNat_of_zero_le b2.1
        simp only [Int.toNat_natCast] at HR
        have hok : NdOk T L L.length (.fork t lo hi) := ⟨by omega, by omega, by omega, by omega, underB_iff.1 h3, underB_iff.1 h4⟩
        have H3 := hide h3
        have H4 := hide h4
        clear h3 h4 hno h5
        go_enter Try.func63, Try.ntmps63
        go_wp2_with fail
        refine storeTracks h ?_; rintro e rfl
        go_wp2_with fail
        refine storeBelow h lo t ?_; rintro e w1 rfl k1
        rw [H3.out]
        go_wp2_with fail
        refine storeBelow (h.same k1) hi t ?_; rintro e w2 rfl k2
        rw [H4.out]
        go_wp2_with fail
        refine storeId ((h.same k1).same k2) (.fork t lo hi) hok hb ?_; rintro e w3 rfl s3 g3
        go_wp2_with fail
        exact HR.out _ _ rfl s3 ((Grew.under h (k1.tr k2)).trans g3)

/-- Track. -/
def trackA (L : List Nd) (i : Int) : Int :=
  if 0 ≤ i ∧ i < L.length then (match L[i.toNat]? with | some (.fork u _ _) => (u : Int) | _ => -1) else -2

/-- Kids. -/
def kidsA (L : List Nd) (i : Int) : Int × Int :=
  if 0 ≤ i ∧ i < L.length then (match L[i.toNat]? with | some (.fork _ lo hi) => ((lo : Int), (hi : Int)) | _ => (-1, -1)) else (-1, -1)

end Go.Proofs.Ytbmpnfibebiaeaa

/- The bits of small ints. -/
namespace Go.Proofs.Ytbmpnfibebiaeaa
open Go.RowKit

theorem ofInt_i64 (a : Nat) (ha : a < 9223372036854775808) : (BitVec.ofInt 64 (a : Int)).toNat = a := by
  rw [BitVec.ofInt_natCast, BitVec.toNat_ofNat]; exact Nat.mod_eq_of_lt (by omega)

theorem i64_and_nat (a b : Nat) (ha : a < 9223372036854775808) (hb : b < 9223372036854775808) : bits .and .i64 (a : Int) (b : Int) = ((a &&& b : Nat) : Int) := by
  have hx : a &&& b < 2 ^ 63 := Nat.and_lt_two_pow _ (by omega)
  show IntKind.i64.wrap ((BitVec.ofInt 64 (a : Int) &&& BitVec.ofInt 64 (b : Int)).toNat : Int) = _
  rw [BitVec.toNat_and, ofInt_i64 a ha, ofInt_i64 b hb, IntKind.wrap_i64]
  omega

theorem i64_or_nat (a b : Nat) (ha : a < 9223372036854775808) (hb : b < 9223372036854775808) : bits .or .i64 (a : Int) (b : Int) = ((a ||| b : Nat) : Int) := by
  have hx : a ||| b < 2 ^ 63 := Nat.or_lt_two_pow (by omega) (by omega)
  show IntKind.i64.wrap ((BitVec.ofInt 64 (a : Int) ||| BitVec.ofInt 64 (b : Int)).toNat : Int) = _
  rw [BitVec.toNat_or, ofInt_i64 a ha, ofInt_i64 b hb, IntKind.wrap_i64]
  omega

theorem testBit_mod (c t : Nat) : c.testBit t = decide (c / 2 ^ t % 2 = 1) := by
  rw [Nat.testBit_eq_decide_div_mod_eq]

theorem bit_and (c t : Nat) (hc : c < 9223372036854775808) : bits .and .i64 ((c : Int) / 2 ^ t) 1 = if c.testBit t then 1 else 0 := by
  have h1 : ((c : Int) / 2 ^ t) = ((c / 2 ^ t : Nat) : Int) := by simp
  have h2 : c / 2 ^ t < 9223372036854775808 := Nat.lt_of_le_of_lt (Nat.div_le_self _ _) hc
  rw [h1]
  have := i64_and_nat (c / 2 ^ t) 1 h2 (by decide)
  rw [show ((1 : Nat) : Int) = 1 from rfl] at this
  rw [this, Nat.and_one_is_mod, testBit_mod]
  by_cases h : c / 2 ^ t % 2 = 1
  · simp [h]
  · simp [h]; omega

/-- 'c >> t & 1 == 1'. -/
theorem bit_test (c t : Nat) (hc : c < 9223372036854775808) : (bits .and .i64 ((c : Int) / 2 ^ t) 1 == 1) = c.testBit t := by
  rw [bit_and c t hc]
  cases c.testBit t <;> rfl

end Go.Proofs.Ytbmpnfibebiaeaa

/- The walks of fork.at, leaf.at, Store.At. -/
namespace Go.Proofs.Ytbmpnfibebiaeaa
open Go.RowKit

variable {R : Ending → World → Prop} {w : World} {a T : Nat} {L : List Nd}

theorem leafAt (v : Int) (p : Value) (c : Value) (hR : ∀ e w', e = .returned (.int .i64 v) → Same w w' → R e w') :
    Calls Try.prog 103 #[.agg #[.int .i64 v], p, c] w R := by
  have HR := hide hR
  clear hR
  go_enter Try.func103, Try.ntmps103
  go_wp2_with fail
  exact HR.out _ _ rfl ((Keeps.refl _ _).alloc _)

/-- Which method is called, of a node. -/
def Nd.fn : Nd → Nat
  | .leaf _ => 103
  | .fork .. => 104

/-- The node as a receiver. -/
def Nd.recv : Nd → Value
  | .leaf v => .agg #[.int .i64 v]
  | .fork t lo hi => .agg #[.int .i64 t, .int .i64 lo, .int .i64 hi]

theorem method_leaf (k : Nat) (v : Int) (w : World) : (method (k + 1) 98 (.agg #[.int .i64 v]) "sibyl/bdd.at").run Try.prog w = .ok (103, .agg #[.int .i64 v]) w := by kernel_rfl
theorem method_fork (k : Nat) (t lo hi : Int) (w : World) : (method (k + 1) 101 (.agg #[.int .i64 t, .int .i64 lo, .int .i64 hi]) "sibyl/bdd.at").run Try.prog w = .ok (104, .agg #[.int .i64 t, .int .i64 lo, .int .i64 hi]) w := by kernel_rfl
attribute [go_sem] method_leaf method_fork

theorem forkAt (c t lo hi : Nat) (h : StoreAt w a T L) (hok : NdOk T L L.length (.fork t lo hi)) (hc : c < 64)
    (ih : ∀ (i : Nat) (n : Nd) (w : World) (R : Ending → World → Prop), (i = lo ∨ i = hi) → StoreAt w a T L → L[i]? = some n → (∀ e w', e = .returned (.int .i64 (val L i c)) → Same w w' → R e w') →
      Calls Try.prog n.fn #[n.recv, .pointer (some ⟨a, 0, none⟩), .int .i64 c] w R)
    (hR : ∀ e w', e = .returned (.int .i64 (val L (if c.testBit t then hi else lo) c)) → Same w w' → R e w') :
    Calls Try.prog 104 #[.agg #[.int .i64 t, .int .i64 lo, .int .i64 hi], .pointer (some ⟨a, 0, none⟩), .int .i64 c] w R := by
  have HR := hide hR
  clear hR
  obtain ⟨h1, h2, h3, h4, h5, h6⟩ := hok
  have h7 := h.wf.six
  have hbt := bit_test c t (by omega)
  obtain ⟨sa, cap, q1, q0, b1, b2, hn⟩ := h.node
  obtain ⟨g, rfl, hq⟩ := hn lo h2
  unfold maxLen at b2
  obtain ⟨nlo, hlo⟩ : ∃ n, L[lo]? = some n := ⟨_, List.getElem?_eq_getElem h2⟩
  obtain ⟨nhi, hhi⟩ : ∃ n, L[hi]? = some n := ⟨_, List.getElem?_eq_getElem h3⟩
  have clo := hq lo nlo hlo
  have chi := hq hi nhi hhi
  clear hn hq h4 h5 h6
  have H := hide h
  have IH := hide ih
  clear h ih
  cases hb : c.testBit t with
  | true =>
    rw [hb] at hbt HR
    have HX := hide hhi
    clear hb clo hlo hhi
    cases nhi
    all_goals
      go_enter Try.func104, Try.ntmps104
      go_wp2_with fail
      have r1 := cell_alloc q1 (.cells #[.int .i64 t, .int .i64 lo, .int .i64 hi] 101)
      have r2 := cell_alloc chi (.cells #[.int .i64 t, .int .i64 lo, .int .i64 hi] 101)
      have r3 : (w.alloc (.cells #[.int .i64 t, .int .i64 lo, .int .i64 hi] 101)).cell? ⟨w.heap.size, 2, none⟩ = some (.int .i64 hi) := cell_new _ _ _ _
      simp only [Nd.val] at r2
      refine wp_region_same (by kernel_rfl) (by kernel_rfl) ?_
      repeat
        (apply wpQuiet_step
         intro K hK
         first
           | (apply quiet_skip
              case hw => rfl
              go_simp
              refine hK _ ?_; clear hK K)
           | (apply quiet_do
              case hw => rfl
              case h =>
                intro w' hw'
                (have s1 := Keeps.cell hw' r1 trivial; have s2 := Keeps.cell hw' r2 trivial; have s3 := Keeps.cell hw' r3 trivial)
                go_simp
                first | exact rfl | (exact IH.out hi _ _ _ (.inr rfl) ((H.out.same ((Keeps.refl _ _).alloc _)).same hw') HX.out (fun e w'' he hk => ⟨he, hw'.tr hk⟩))
              go_simp
              refine hK _ ?_; clear hK K))
      apply wpQuiet_nil
      intro w1 k1
      go_wp2_with fail
      exact HR.out _ _ rfl (((Keeps.refl _ _).alloc _).tr k1)
  | false =>
    rw [hb] at hbt HR
    have HX := hide hlo
    clear hb chi hlo hhi
    cases nlo
    all_goals
      go_enter Try.func104, Try.ntmps104
      go_wp2_with fail
      have r1 := cell_alloc q1 (.cells #[.int .i64 t, .int .i64 lo, .int .i64 hi] 101)
      have r2 := cell_alloc clo (.cells #[.int .i64 t, .int .i64 lo, .int .i64 hi] 101)
      have r3 : (w.alloc (.cells #[.int .i64 t, .int .i64 lo, .int .i64 hi] 101)).cell? ⟨w.heap.size, 1, none⟩ = some (.int .i64 lo) := cell_new _ _ _ _
      simp only [Nd.val] at r2
      refine wp_region_same (by kernel_rfl) (by kernel_rfl) ?_
      repeat
        (apply wpQuiet_step
         intro K hK
         first
           | (apply quiet_skip
              case hw => rfl
              go_simp
              refine hK _ ?_; clear hK K)
           | (apply quiet_do
              case hw => rfl
              case h =>
                intro w' hw'
                (have s1 := Keeps.cell hw' r1 trivial; have s2 := Keeps.cell hw' r2 trivial; have s3 := Keeps.cell hw' r3 trivial)
                go_simp
                first | exact rfl | (exact IH.out lo _ _ _ (.inl rfl) ((H.out.same ((Keeps.refl _ _).alloc _)).same hw') HX.out (fun e w'' he hk => ⟨he, hw'.tr hk⟩))
              go_simp
              refine hK _ ?_; clear hK K))
      apply wpQuiet_nil
      intro w1 k1
      go_wp2_with fail
      exact HR.out _ _ rfl (((Keeps.refl _ _).alloc _).tr k1)

/-- A node's method, whichever it is. -/
theorem nodeAt (c : Nat) (hc : c < 64) : ∀ (i : Nat) (n : Nd) (w : World) (R : Ending → World → Prop), StoreAt w a T L → L[i]? = some n → (∀ e w', e = .returned (.int .i64 (val L i c)) → Same w w' → R e w') →
    Calls Try.prog n.fn #[n.recv, .pointer (some ⟨a, 0, none⟩), .int .i64 c] w R := by
  intro i
  induction i using Nat.strongRecOn with
  | ind i ih =>
    intro n w R h hn hR
    cases n with
    | leaf v =>
      refine leafAt v _ _ ?_
      rw [val_leaf hn] at hR
      exact hR
    | fork t lo hi =>
      have ok := h.wf.ok i _ hn
      have hi' := (List.getElem?_eq_some_iff.1 hn).1
      refine forkAt c t lo hi h ⟨ok.1, by have := ok.2.1; omega, by have := ok.2.2.1; omega, ok.2.2.2.1, ok.2.2.2.2.1, ok.2.2.2.2.2⟩ hc ?_ ?_
      · intro j m w R hj hs hm hR'
        exact ih j (by have := ok.2.1; have := ok.2.2.1; omega) m w R hs hm hR'
      · rw [← val_fork h.wf hn]
        exact hR

/-- At. -/
def atA (T : Nat) (L : List Nd) (i c : Int) : Int :=
  if 0 ≤ i ∧ i < L.length ∧ 0 ≤ c ∧ c < 2 ^ T then val L i.toNat c.toNat else -1

theorem wrap_two {T : Nat} (h : T ≤ 6) : wrap64 ((2 : Int) ^ T) = ((2 ^ T : Nat) : Int) := by
  have : T = 0 ∨ T = 1 ∨ T = 2 ∨ T = 3 ∨ T = 4 ∨ T = 5 ∨ T = 6 := by omega
  rcases this with rfl | rfl | rfl | rfl | rfl | rfl | rfl <;> (rw [IntWalk.wrap64_in _ (by decide)]; rfl)

theorem two_le {T : Nat} (h : T ≤ 6) : 2 ^ T ≤ 64 := Nat.pow_le_pow_right (by decide) h

theorem storeAtC (h : StoreAt w a T L) (i c : Int) (hR : ∀ e w', e = .returned (.int .i64 (atA T L i c)) → Same w w' → R e w') :
    Calls Try.prog 60 #[.pointer (some ⟨a, 0, none⟩), .int .i64 i, .int .i64 c] w R := by
  have HR := hide hR
  clear hR
  have h6 := h.wf.six
  have h64 := two_le h6
  by_cases hi : 0 ≤ i ∧ i < L.length
  · have hB : (decide (0 ≤ i) && decide (i < L.length)) = true := by simp; omega
    by_cases hc0 : c < 0
    · rw [show atA T L i c = -1 from if_neg (by omega)] at HR
      go_enter Try.func60, Try.ntmps60
      go_wp2_with fail
      refine storeIs h _ ?_; rintro e rfl
      rw [hB]
      go_wp2_with fail
      exact HR.out _ _ rfl (Keeps.refl _ _)
    · obtain ⟨c, rfl⟩ := Int.eq_ofNat_of_zero_le (show 0 ≤ c by omega)
      by_cases hc1 : c < 2 ^ T
      · obtain ⟨k, rfl⟩ := Int.eq_ofNat_of_zero_le hi.1
        have hk : k < L.length := by omega
        have hcz : (c : Int) < 2 ^ T := by exact_mod_cast hc1
        rw [show atA T L k c = val L k c from if_pos ⟨hi.1, hi.2, by omega, hcz⟩] at HR
        obtain ⟨sa, cap, c1, c0, b1, b2, hn⟩ := h.node
        obtain ⟨g, rfl, hq⟩ := hn k hk
        obtain ⟨n, hnk⟩ : ∃ n, L[k]? = some n := ⟨_, List.getElem?_eq_getElem hk⟩
        have cn := hq k n hnk
        unfold maxLen at b2
        have HN := hide (nodeAt (a := a) (T := T) (L := L) c (by omega) k)
        have hw2 := wrap_two h6
        generalize 2 ^ T = p at hw2 hc1 h64
        have HK := hide hnk
        clear hn hq hnk hcz
        cases n
        all_goals simp only [Nd.val] at cn
        all_goals
          go_enter Try.func60, Try.ntmps60
          go_wp2_with fail
          refine storeIs h _ ?_; rintro e rfl
          rw [hB]
          go_wp2_with fail
          refine storeTracks h ?_; rintro e rfl
          go_wp2_with fail
          refine HN.out _ _ _ h HK.out ?_; rintro e w1 rfl k1
          go_wp2_with fail
          exact HR.out _ _ rfl k1
      · rw [show atA T L i c = -1 from if_neg (by rintro ⟨_, _, _, h4⟩; exact hc1 (by exact_mod_cast h4))] at HR
        have hw2 := wrap_two h6
        generalize 2 ^ T = p at hw2 hc1 h64
        go_enter Try.func60, Try.ntmps60
        go_wp2_with fail
        refine storeIs h _ ?_; rintro e rfl
        rw [hB]
        go_wp2_with fail
        refine storeTracks h ?_; rintro e rfl
        go_wp2_with fail
        exact HR.out _ _ rfl (Keeps.refl _ _)
  · rw [show atA T L i c = -1 from if_neg (by omega)] at HR
    have hB : (decide (0 ≤ i) && decide (i < L.length)) = false := by simp; omega
    go_enter Try.func60, Try.ntmps60
    go_wp2_with fail
    refine storeIs h _ ?_; rintro e rfl
    rw [hB]
    go_wp2_with fail
    exact HR.out _ _ rfl (Keeps.refl _ _)

end Go.Proofs.Ytbmpnfibebiaeaa

/- The walks of Store.of, Store.Of. -/
namespace Go.Proofs.Ytbmpnfibebiaeaa
open Go.RowKit

variable {R : Ending → World → Prop} {w : World} {a T : Nat} {L : List Nd}

/-- The node of letters with some bits, from a track on: d tracks are left. -/
def ofA (T : Nat) (row : List Int) : Nat → List Nd → Nat → List Nd × Int
  | 0, L, c => leafA L (row.getD c 0)
  | d + 1, L, c => mkA T (ofA T row d (ofA T row d L c).1 (c ||| 2 ^ (T - (d + 1)))).1 (T - (d + 1) : Nat) (ofA T row d L c).2 (ofA T row d (ofA T row d L c).1 (c ||| 2 ^ (T - (d + 1)))).2

theorem leafA_len (L : List Nd) (v : Int) : (leafA L v).1.length ≤ L.length + 1 := by
  unfold leafA; split
  · exact idOf_len.2
  · simp

theorem mkA_len (T : Nat) (L : List Nd) (t lo hi : Int) : (mkA T L t lo hi).1.length ≤ L.length + 1 := by
  unfold mkA; split
  · simp
  · split
    · simp
    · exact idOf_len.2

theorem ofA_len (T : Nat) (row : List Int) : ∀ (d : Nat) (L : List Nd) (c : Nat), (ofA T row d L c).1.length + 1 ≤ L.length + 2 ^ (d + 1)
  | 0, L, c => by have := leafA_len L (row.getD c 0); unfold ofA; omega
  | d + 1, L, c => by
    have h1 := ofA_len T row d L c
    have h2 := ofA_len T row d (ofA T row d L c).1 (c ||| 2 ^ (T - (d + 1)))
    have h3 := mkA_len T (ofA T row d (ofA T row d L c).1 (c ||| 2 ^ (T - (d + 1)))).1 (T - (d + 1) : Nat) (ofA T row d L c).2 (ofA T row d (ofA T row d L c).1 (c ||| 2 ^ (T - (d + 1)))).2
    unfold ofA
    have : 2 ^ (d + 1 + 1) = 2 ^ (d + 1) + 2 ^ (d + 1) := by rw [Nat.pow_succ]; omega
    omega

/-- The slice v lies apart from the Store. -/
def Apart (w : World) (a : Nat) (v : Value) : Prop := ∀ b, live v = some b → ¬ Foot w a b ∧ b < w.heap.size

theorem Apart.grew {w w' : World} {v : Value} (h : Apart w a v) (g : Grew a w w') : Apart w' a v := fun b hb =>
  ⟨fun hf => (g.foot b hf).elim (h b hb).1 fun h1 => by have := (h b hb).2; omega, Nat.lt_of_lt_of_le (h b hb).2 g.keeps.size⟩

theorem IntsAt.grew {w w' : World} {v : Value} {l : List Int} (h : IntsAt w v l) (ha : Apart w a v) (g : Grew a w w') : IntsAt w' v l :=
  h.keep g.keeps fun b hb => (ha b hb).1

theorem Apart.old {B : Nat} {v : Value} (hf : ∀ x, Foot w a x → B ≤ x) (hv : ∀ b, live v = some b → b < B) (hB : B ≤ w.heap.size) : Apart w a v :=
  fun b hb => ⟨fun h => by have := hf b h; have := hv b hb; omega, Nat.lt_of_lt_of_le (hv b hb) hB⟩

theorem Apart.cells {b o n c : Nat} {cs : Array Value} {t : TypeId} {fr : Nat × Nat} (h : StoreAt w a T L) (hb : w.heap[b]? = some (.cells cs t fr)) (h1 : t ≠ 82) (h2 : t ≠ 94) : Apart w a (.slice (some ⟨b, o, none⟩) n c) := by
  intro x hx
  cases n with
  | zero => simp [live] at hx
  | succ n => simp [live] at hx; subst hx; exact ⟨not_foot h hb h1 h2, heap_lt hb⟩

theorem Apart.same {w w' : World} {v : Value} {o : Obj} (h : Apart w a v) (hs : w.heap[a]? = some o) (k : Same w w') : Apart w' a v := h.grew (Grew.of_same hs k)

theorem or_lt {c t : Nat} (hc : c < 2 ^ t) : c ||| 2 ^ t < 2 ^ (t + 1) :=
  Nat.or_lt_two_pow (Nat.lt_of_lt_of_le hc (Nat.pow_le_pow_right (by decide) (by omega))) (Nat.pow_lt_pow_right (by decide) (by omega))

set_option maxHeartbeats 1000000 in
theorem storeOf (row : List Int) (v : Value) : ∀ (d : Nat) (t c : Nat) (L : List Nd) (w : World) (R : Ending → World → Prop), t + d = T → c < 2 ^ t → row.length = 2 ^ T →
    StoreAt w a T L → IntsAt w v row → Apart w a v → L.length + 2 ^ (d + 1) ≤ 1099511627776 →
    (∀ e w', e = .returned (.int .i64 (ofA T row d L c).2) → StoreAt w' a T (ofA T row d L c).1 → Grew a w w' → R e w') →
    Calls Try.prog 56 #[.pointer (some ⟨a, 0, none⟩), v, .int .i64 t, .int .i64 c] w R := by
  intro d
  induction d with
  | zero =>
    intro t c L w R htd hc hlen h hv hap hb hR
    have HR := hide hR
    clear hR
    obtain rfl : t = T := by omega
    obtain ⟨sa, cap, q1, q0, _⟩ := h.node
    have h64 := two_le h.wf.six
    obtain ⟨va, vc, rfl, hc1, hc2, hcell⟩ := hv.open
    have hck : c < row.length := by omega
    obtain ⟨vb, off, rfl, hvb, hcl⟩ := hcell c hck
    have hcc := hcl c hck
    obtain ⟨z, hz⟩ : ∃ z, z = row[c] := ⟨_, rfl⟩
    rw [← hz] at hcc
    have ez : row.getD c 0 = z := by rw [hz]; simp [List.getD, List.getElem?_eq_getElem hck]
    unfold ofA at HR
    rw [ez] at HR
    unfold maxLen at hc2
    have HB := hide hb
    clear hcell hcl ez hz hlen hb htd
    have h6 := h.wf.six
    have hteq : ((t : Int) == (t : Int)) = true := by simp
    go_enter Try.func56, Try.ntmps56
    go_wp2_with fail
    refine storeLeaf h z (by have := HB.out; omega) ?_; rintro e w1 rfl s1 g1
    go_wp2_with fail
    exact HR.out _ _ rfl s1 g1
  | succ d ih =>
    intro t c L w R htd hc hlen h hv hap hb hR
    have HR := hide hR
    clear hR
    obtain ⟨sa, cap, q1, q0, _⟩ := h.node
    have h6 := h.wf.six
    have et : T - (d + 1) = t := by omega
    unfold ofA at HR
    rw [et] at HR
    have hteq : ((t : Int) == (T : Int)) = false := by simp; omega
    have ht6 : t < 6 := by omega
    have hw2 := wrap_two (T := t) (by omega)
    have h64 := two_le (T := t) (by omega)
    have hor := i64_or_nat c (2 ^ t) (Nat.lt_of_lt_of_le hc (Nat.le_trans h64 (by decide))) (Nat.lt_of_le_of_lt h64 (by decide))
    clear h64
    have hol := or_lt hc
    have hl1 := ofA_len T row d L c
    have hl2 := ofA_len T row d (ofA T row d L c).1 (c ||| 2 ^ t)
    have h2 : L.length + (2 ^ (d + 1) + 2 ^ (d + 1)) ≤ 1099511627776 := by rw [Nat.pow_succ] at hb; omega
    clear hb
    have h3 : c < 2 ^ (t + 1) := Nat.lt_of_lt_of_le hc (Nat.pow_le_pow_right (by decide) (by omega))
    have HC := hide (And.intro hol h3)
    have HL : Hid (∃ q, 2 ^ (d + 1) = q ∧ (ofA T row d L c).1.length + 1 ≤ L.length + q ∧ (ofA T row d (ofA T row d L c).1 (c ||| 2 ^ t)).1.length + 1 ≤ (ofA T row d L c).1.length + q ∧ L.length + (q + q) ≤ 1099511627776) := hide ⟨_, rfl, hl1, hl2, h2⟩
    have HT := hide (And.intro htd hlen)
    have IH := hide ih
    clear ih hl1 hl2 h2 et hlen hol h3
    generalize 2 ^ t = p at hw2 hor HC HL HR hc
    generalize hcp : c ||| p = c2 at hor HC HL HR
    clear hcp hc
    generalize hr1 : ofA T row d L c = r1 at HR HL
    generalize hr2 : ofA T row d r1.1 c2 = r2 at HR HL
    have H1 := hide hr1
    have H2 := hide hr2
    clear hr1 hr2
    go_enter Try.func56, Try.ntmps56
    go_wp2_with fail
    refine IH.out (t + 1) c L _ _ (by have := HT.out.1; omega) HC.out.2 HT.out.2 h hv hap (by obtain ⟨q, e, e1, e2, e3⟩ := HL.out; (try rw [e]); omega) ?_; rw [H1.out]; rintro e w1 rfl s1 g1
    go_wp2_with fail
    refine IH.out (t + 1) c2 r1.1 _ _ (by have := HT.out.1; omega) HC.out.1 HT.out.2 s1 (hv.grew hap g1) (hap.grew g1) (by obtain ⟨q, e, e1, e2, e3⟩ := HL.out; (try rw [e]); omega) ?_; rw [H2.out]; rintro e w2 rfl s2 g2
    go_wp2_with fail
    refine storeMk s2 _ _ _ (by obtain ⟨q, e, e1, e2, e3⟩ := HL.out; (try rw [e]); omega) ?_; rintro e w3 rfl s3 g3
    go_wp2_with fail
    exact HR.out _ _ rfl s3 ((g1.trans g2).trans g3)

end Go.Proofs.Ytbmpnfibebiaeaa

/- The walks of slices.IndexFunc and slices.ContainsFunc over ints, whatever the predicate. -/
namespace Go.Proofs.Ytbmpnfibebiaeaa
open Go.RowKit

variable {R : Ending → World → Prop} {w : World}

/-- Function F, called of x beside what it has captured, answers p x and makes memory at most. -/
def Answers (F : Nat) (caps : Array Value) (p : Int → Bool) (l : List Int) (w : World) : Prop :=
  ∀ x ∈ l, ∀ w' R, Same w w' → (∀ e w'', e = .returned (.bool (p x)) → Same w' w'' → R e w'') → Calls Try.prog F (#[.int .i64 x] ++ caps) w' R

def idxI (p : Int → Bool) (l : List Int) : Int := match l.findIdx? p with | some i => (i : Int) | none => -1

theorem idxI_hit {p : Int → Bool} {l : List Int} {k : Nat} (hk : k < l.length) (hp : p l[k] = true) (hn : ∀ i (_ : i < k), p (l.getD i 0) = false) : idxI p l = k := by
  unfold idxI
  have : l.findIdx? p = some k := by
    rw [List.findIdx?_eq_some_iff_getElem]
    refine ⟨hk, hp, fun j hj => ?_⟩
    have := hn j hj
    simpa [List.getD, List.getElem?_eq_getElem (Nat.lt_trans hj hk)] using this
  rw [this]

theorem idxI_none {p : Int → Bool} {l : List Int} (hn : ∀ i (_ : i < l.length), p (l.getD i 0) = false) : idxI p l = -1 := by
  unfold idxI
  have : l.findIdx? p = none := by
    rw [List.findIdx?_eq_none_iff]
    intro x hx
    obtain ⟨i, hi, rfl⟩ := List.getElem_of_mem hx
    simpa [List.getD, List.getElem?_eq_getElem hi] using hn i hi
  rw [this]

theorem idxI_any (p : Int → Bool) (l : List Int) : decide (0 ≤ idxI p l) = l.any p := by
  unfold idxI
  cases h : l.findIdx? p with
  | none =>
    have := List.findIdx?_eq_none_iff.1 h
    simp only []
    rw [show decide ((0 : Int) ≤ -1) = false by decide]
    symm; rw [List.any_eq_false]; intro x hx; simp [this x hx]
  | some i =>
    have := (List.findIdx?_eq_some_iff_getElem.1 h)
    obtain ⟨hi, hp, _⟩ := this
    simp only []
    rw [show decide ((0 : Int) ≤ (i : Int)) = true by simp]
    symm; rw [List.any_eq_true]; exact ⟨_, List.getElem_mem hi, hp⟩

set_option maxHeartbeats 1000000 in
theorem indexFunc {F : Nat} {caps : Array Value} {p : Int → Bool} {l : List Int} {v : Value} (hcf : ∀ args w, (callFunc F args).run Try.prog w = .ok (.enter F args) w) (hv : IntsAt w v l) (hp : Answers F caps p l w)
    (hR : ∀ e w', e = .returned (.int .i64 (idxI p l)) → Same w w' → R e w') :
    Calls Try.prog 35 #[v, .func (.func F) #[] caps] w R := by
  have HR := hide hR
  clear hR
  have HV := hide hv.2
  obtain ⟨a, c, rfl, hc1, hc2, hcell⟩ := hv.open
  have HC := hide hcell
  have HP := hide hp
  clear hcell hv hp
  unfold maxLen at hc2
  go_enter Try.func35, Try.ntmps35
  go_wp2_with fail
  go_loopw [8] (fun i wr => ∃ k : Nat, i = .int .i64 k ∧ k ≤ l.length ∧ Hid (∀ i (_ : i < k), p (l.getD i 0) = false) ∧ Same w wr) (fun i _ => l.length - (intOf i).toNat)
  case atStart => exact ⟨0, rfl, Nat.zero_le _, hide (fun i hi => absurd hi (Nat.not_lt_zero _)), Keeps.refl _ _⟩
  case round =>
    obtain ⟨k, rfl, hk, hno, hK⟩ := hrel
    by_cases hlt : k < l.length
    · obtain ⟨b, off, rfl, hb, hcl⟩ := HC.out k hlt
      have hck := Keeps.cell hK (hcl k hlt) trivial
      clear hcl
      obtain ⟨z, hz⟩ : ∃ z, z = l[k] := ⟨_, rfl⟩
      rw [← hz] at hck
      have HZ := hide hz
      have hm : z ∈ l := by rw [hz]; exact List.getElem_mem _
      clear hz
      go_wp2_with fail
      refine HP.out z hm _ _ hK ?_; rintro e w2 rfl k2
      cases hpz : p z with
      | true =>
        have HZ2 := hide hpz
        clear hpz
        go_wp2_with fail
        refine HR.out _ _ (ret_int ?_) (hK.tr k2)
        exact (idxI_hit hlt (by rw [← HZ.out]; exact HZ2.out) hno.out).symm
      | false =>
        have HZ2 := hide hpz
        clear hpz
        go_wp2_with fail
        go_roundw
        case rel =>
          refine ⟨k + 1, by go_num, by omega, hide (fun i hi => ?_), hK.tr k2⟩
          by_cases e : i = k
          · subst e; simpa [List.getD, List.getElem?_eq_getElem hlt, ← HZ.out] using HZ2.out
          · exact hno.out i (by omega)
        case measure => simp [intOf]; omega
    · go_wp2_with fail
      refine HR.out _ _ (ret_int ?_) hK
      obtain rfl : k = l.length := by omega
      exact (idxI_none hno.out).symm

theorem containsFunc {F : Nat} {caps : Array Value} {p : Int → Bool} {l : List Int} {v : Value} (hcf : ∀ args w, (callFunc F args).run Try.prog w = .ok (.enter F args) w) (hv : IntsAt w v l) (hp : Answers F caps p l w)
    (hR : ∀ e w', e = .returned (.bool (l.any p)) → Same w w' → R e w') :
    Calls Try.prog 45 #[v, .func (.func F) #[] caps] w R := by
  have HR := hide hR
  clear hR
  go_enter Try.func45, Try.ntmps45
  go_wp2_with fail
  refine indexFunc hcf hv hp ?_; rintro e w1 rfl k1
  go_wp2_with fail
  exact HR.out _ _ (ret_bool (idxI_any p l)) k1

end Go.Proofs.Ytbmpnfibebiaeaa

/- Rows of ints in memory. -/
namespace Go.Proofs.Ytbmpnfibebiaeaa
open Go.RowKit

/-- The slice value v reads as rows of ints. -/
def RowsAt (w : World) (v : Value) (ls : List (List Int)) : Prop :=
  ∃ vs : List Value, SliceAt w v vs ∧ vs.length = ls.length ∧ ∀ (i : Nat) (u : Value) (l : List Int), vs[i]? = some u → ls[i]? = some l → IntsAt w u l

theorem IntsAt.old {w w' : World} {v : Value} {l : List Int} (h : IntsAt w v l) (k : Keeps (· < w.heap.size) w w') : IntsAt w' v l := h.keep k h.lt

theorem RowsAt.old {w w' : World} {v : Value} {ls : List (List Int)} (h : RowsAt w v ls) (k : Keeps (· < w.heap.size) w w') : RowsAt w' v ls := by
  obtain ⟨vs, h1, h2, h3⟩ := h
  exact ⟨vs, h1.keep k h1.lt, h2, fun i u l hu hl => (h3 i u l hu hl).old k⟩

theorem RowsAt.same {w w' : World} {v : Value} {ls : List (List Int)} (h : RowsAt w v ls) (k : Same w w') : RowsAt w' v ls := h.old (k.mono fun _ _ _ => trivial)

theorem RowsAt.open {w : World} {v : Value} {ls : List (List Int)} (h : RowsAt w v ls) : ∃ a c, v = .slice a ls.length c ∧ ls.length ≤ c ∧ c ≤ maxLen ∧
    (∀ k (_ : k < ls.length), ∃ b off, a = some ⟨b, off, none⟩ ∧ b < w.heap.size ∧ ∀ i (hi : i < ls.length), ∃ u, w.cell? ⟨b, off + i, none⟩ = some u ∧ IntsAt w u ls[i]) := by
  obtain ⟨vs, ⟨a, c, rfl, h1, h2, h3⟩, h4, h5⟩ := h
  refine ⟨a, c, by rw [h4], by omega, h2, fun k hk => ?_⟩
  rcases h3 with rfl | ⟨b, off, cur, e, fr, rfl, h6, h7⟩
  · simp at h4; omega
  · refine ⟨b, off, rfl, heap_lt h6, fun i hi => ?_⟩
    obtain ⟨u, hu⟩ : ∃ u, vs[i]? = some u := ⟨_, List.getElem?_eq_getElem (by omega)⟩
    exact ⟨u, (cell_at h6 _).trans (h7 i u hu), h5 i u _ hu (List.getElem?_eq_getElem hi)⟩


end Go.Proofs.Ytbmpnfibebiaeaa

/- The walks of slices.IndexFunc and slices.ContainsFunc over rows, whatever the predicate. -/
namespace Go.Proofs.Ytbmpnfibebiaeaa
open Go.RowKit

variable {R : Ending → World → Prop} {w : World}

/-- Function F, called of a row beside what it has captured, answers p and makes memory at most. -/
def AnswersR (F : Nat) (caps : Array Value) (p : List Int → Bool) (ls : List (List Int)) (w : World) : Prop :=
  ∀ u l, l ∈ ls → IntsAt w u l → ∀ w' R, Same w w' → (∀ e w'', e = .returned (.bool (p l)) → Same w' w'' → R e w'') → Calls Try.prog F (#[u] ++ caps) w' R

def idxG {α : Type} (p : α → Bool) (l : List α) : Int := match l.findIdx? p with | some i => (i : Int) | none => -1

theorem idxG_hit {α : Type} {p : α → Bool} {l : List α} {k : Nat} (hk : k < l.length) (hp : p l[k] = true) (hn : ∀ i x, i < k → l[i]? = some x → p x = false) : idxG p l = k := by
  unfold idxG
  have : l.findIdx? p = some k := by
    rw [List.findIdx?_eq_some_iff_getElem]
    refine ⟨hk, hp, fun j hj => ?_⟩
    have := hn j _ hj (List.getElem?_eq_getElem (Nat.lt_trans hj hk))
    simpa using this
  rw [this]

theorem idxG_none {α : Type} {p : α → Bool} {l : List α} (hn : ∀ i x, i < l.length → l[i]? = some x → p x = false) : idxG p l = -1 := by
  unfold idxG
  have : l.findIdx? p = none := by
    rw [List.findIdx?_eq_none_iff]
    intro x hx
    obtain ⟨i, hi⟩ := List.getElem?_of_mem hx
    exact hn i x (List.getElem?_eq_some_iff.1 hi).1 hi
  rw [this]

theorem idxG_any {α : Type} (p : α → Bool) (l : List α) : decide (0 ≤ idxG p l) = l.any p := by
  unfold idxG
  cases h : l.findIdx? p with
  | none =>
    have := List.findIdx?_eq_none_iff.1 h
    simp only []
    rw [show decide ((0 : Int) ≤ -1) = false by decide]
    symm; rw [List.any_eq_false]; intro x hx; simp [this x hx]
  | some i =>
    have := (List.findIdx?_eq_some_iff_getElem.1 h)
    obtain ⟨hi, hp, _⟩ := this
    simp only []
    rw [show decide ((0 : Int) ≤ (i : Int)) = true by simp]
    symm; rw [List.any_eq_true]; exact ⟨_, List.getElem_mem hi, hp⟩

set_option maxHeartbeats 1000000 in
theorem indexFuncR {F : Nat} {caps : Array Value} {p : List Int → Bool} {ls : List (List Int)} {v : Value} (hcf : ∀ args w, (callFunc F args).run Try.prog w = .ok (.enter F args) w) (hv : RowsAt w v ls) (hp : AnswersR F caps p ls w)
    (hR : ∀ e w', e = .returned (.int .i64 (idxG p ls)) → Same w w' → R e w') :
    Calls Try.prog 61 #[v, .func (.func F) #[] caps] w R := by
  have HR := hide hR
  clear hR
  obtain ⟨a, c, rfl, hc1, hc2, hcell⟩ := hv.open
  have HC := hide hcell
  have HP := hide hp
  clear hcell hv hp
  unfold maxLen at hc2
  go_enter Try.func61, Try.ntmps61
  go_wp2_with fail
  go_loopw [8] (fun i wr => ∃ k : Nat, i = .int .i64 k ∧ k ≤ ls.length ∧ Hid (∀ i x, i < k → ls[i]? = some x → p x = false) ∧ Same w wr) (fun i _ => ls.length - (intOf i).toNat)
  case atStart => exact ⟨0, rfl, Nat.zero_le _, hide (fun i x hi => absurd hi (Nat.not_lt_zero _)), Keeps.refl _ _⟩
  case round =>
    obtain ⟨k, rfl, hk, hno, hK⟩ := hrel
    by_cases hlt : k < ls.length
    · obtain ⟨b, off, rfl, hb, hcl⟩ := HC.out k hlt
      obtain ⟨u, hu, hiu⟩ := hcl k hlt
      have hck := Keeps.cell hK hu trivial
      obtain ⟨ua, uc, rfl, _⟩ := hiu.open
      have HIU := hide hiu
      have HM := hide (List.getElem_mem hlt)
      have HG := hide (List.getElem?_eq_getElem hlt)
      have HHIT := hide (fun h1 h2 => idxG_hit (p := p) hlt h1 h2)
      clear hcl hiu hu
      generalize ls[k] = row at HM HG HHIT HIU hck
      go_wp2_with fail
      refine HP.out _ row HM.out HIU.out _ _ hK ?_; rintro e w2 rfl k2
      cases hpz : p row with
      | true =>
        have HZ2 := hide hpz
        clear hpz
        go_wp2_with fail
        exact HR.out _ _ (ret_int (HHIT.out HZ2.out hno.out).symm) (hK.tr k2)
      | false =>
        have HZ2 := hide hpz
        clear hpz
        go_wp2_with fail
        go_roundw
        case rel =>
          refine ⟨k + 1, by go_num, by omega, hide (fun i x hi hx => ?_), hK.tr k2⟩
          by_cases e : i = k
          · subst e; rw [HG.out] at hx; obtain rfl := Option.some.inj hx; exact HZ2.out
          · exact hno.out i x (by omega) hx
        case measure => simp [intOf]; omega
    · go_wp2_with fail
      refine HR.out _ _ (ret_int ?_) hK
      obtain rfl : k = ls.length := by omega
      exact (idxG_none hno.out).symm

theorem containsFuncR {F : Nat} {caps : Array Value} {p : List Int → Bool} {ls : List (List Int)} {v : Value} (hcf : ∀ args w, (callFunc F args).run Try.prog w = .ok (.enter F args) w) (hv : RowsAt w v ls) (hp : AnswersR F caps p ls w)
    (hR : ∀ e w', e = .returned (.bool (ls.any p)) → Same w w' → R e w') :
    Calls Try.prog 52 #[v, .func (.func F) #[] caps] w R := by
  have HR := hide hR
  clear hR
  go_enter Try.func52, Try.ntmps52
  go_wp2_with fail
  refine indexFuncR hcf hv hp ?_; rintro e w1 rfl k1
  go_wp2_with fail
  exact HR.out _ _ (ret_bool (idxG_any p ls)) k1

end Go.Proofs.Ytbmpnfibebiaeaa

/- The walks of Store.Of, Store.Row. -/
namespace Go.Proofs.Ytbmpnfibebiaeaa
open Go.RowKit

variable {R : Ending → World → Prop} {w : World} {a T : Nat} {L : List Nd}

def isVal (v : Int) : Bool := decide (0 ≤ v) && decide (v ≤ 1099511627776)

/-- Of. -/
def OfA (T : Nat) (L : List Nd) (row : List Int) : List Nd × Int :=
  if row.length = 2 ^ T ∧ row.all isVal = true then ofA T row T L 0 else (L, -1)

theorem callFunc_ofLit (args : Array Value) (w : World) : (callFunc 54 args).run Try.prog w = .ok (.enter 54 args) w := by kernel_rfl

theorem ofLit (x : Int) (hR : ∀ e, e = .returned (.bool (!isVal x)) → R e w) : Calls Try.prog 54 #[.int .i64 x] w R := by
  have HR := hide hR
  clear hR
  go_enter Try.func54, Try.ntmps54
  go_wp2_with fail
  refine isValue x ?_; rintro e rfl
  go_wp2_with fail
  exact HR.out _ (ret_bool (by simp [isVal]))

theorem storeOfNil (v : Value) (hR : ∀ e, e = .returned (.int .i64 (-1)) → R e w) : Calls Try.prog 42 #[.pointer none, v] w R := by
  have HR := hide hR
  clear hR
  go_enter Try.func42, Try.ntmps42
  go_wp2_with fail
  exact HR.out _ rfl

set_option maxHeartbeats 1000000 in
theorem storeOfC {row : List Int} {v : Value} (h : StoreAt w a T L) (hv : IntsAt w v row) (hap : Apart w a v) (hb : L.length + 128 ≤ 1099511627776)
    (hR : ∀ e w', e = .returned (.int .i64 (OfA T L row).2) → StoreAt w' a T (OfA T L row).1 → Grew a w w' → R e w') :
    Calls Try.prog 42 #[.pointer (some ⟨a, 0, none⟩), v] w R := by
  have HR := hide hR
  clear hR
  have h6 := h.wf.six
  obtain ⟨sa, cap, q1, q0, _⟩ := h.node
  have hw2 := wrap_two h6
  have hV := hide hv
  have hA := hide hap
  obtain ⟨va, vc, rfl, hc1, hc2, _⟩ := hv.open
  unfold maxLen at hc2
  have hp1 : 2 ^ (T + 1) ≤ 128 := Nat.pow_le_pow_right (by decide) (show T + 1 ≤ 7 by omega)
  clear hv hap
  by_cases hl : row.length = 2 ^ T
  · cases hall : row.all isVal with
    | true =>
      rw [show OfA T L row = ofA T row T L 0 from if_pos ⟨hl, hall⟩] at HR
      have hany : row.any (fun x => !isVal x) = false := by
        rw [List.any_eq_false]; intro x hx; simpa using List.all_eq_true.1 hall x hx
      have HN := hide hany
      have HLn := hide hl
      have hne : (((row.length : Nat) : Int) != ((2 ^ T : Nat) : Int)) = false := by rw [hl]; simp
      have h0 : 0 < 2 ^ T := Nat.pow_pos (by decide)
      clear hall hany hl
      have HP := hide hp1
      clear hp1
      have HZ : Hid (0 < 2 ^ 0) := hide (by decide)
      generalize hpp : 2 ^ T = p at hw2 hne h0
      have HPP := hide hpp
      clear hpp
      go_enter Try.func42, Try.ntmps42
      go_wp2_with fail
      refine containsFunc (p := fun x => !isVal x) callFunc_ofLit hV.out ?_ ?_
      · intro x _ w' R hw' hR'
        exact ofLit x (fun e he => hR' e _ he (Keeps.refl _ _))
      rintro e w1 rfl k1
      rw [HN.out]
      go_wp2_with fail
      refine storeOf row _ T 0 0 L _ _ (by omega) HZ.out HLn.out (h.same k1) (hV.out.same k1) (hA.out.grew (Grew.under h k1)) (by have := HP.out; omega) ?_
      rintro e w2 rfl s2 g2
      go_wp2_with fail
      exact HR.out _ _ rfl s2 ((Grew.under h k1).trans g2)
    | false =>
      rw [show OfA T L row = (L, -1) from if_neg (by simp [hall])] at HR
      have hany : row.any (fun x => !isVal x) = true := by
        rw [List.any_eq_true]
        obtain ⟨x, hx, hx2⟩ := List.all_eq_false.1 hall
        exact ⟨x, hx, by simpa using hx2⟩
      have HN := hide hany
      have hne : (((row.length : Nat) : Int) != ((2 ^ T : Nat) : Int)) = false := by rw [hl]; simp
      clear hall hany hl hp1
      generalize hpp : 2 ^ T = p at hw2 hne
      clear hpp
      go_enter Try.func42, Try.ntmps42
      go_wp2_with fail
      refine containsFunc (p := fun x => !isVal x) callFunc_ofLit hV.out ?_ ?_
      · intro x _ w' R hw' hR'
        exact ofLit x (fun e he => hR' e _ he (Keeps.refl _ _))
      rintro e w1 rfl k1
      rw [HN.out]
      go_wp2_with fail
      exact HR.out _ _ rfl (h.same k1) (Grew.under h k1)
  · rw [show OfA T L row = (L, -1) from if_neg (fun h => hl h.1)] at HR
    have hne : (((row.length : Nat) : Int) != ((2 ^ T : Nat) : Int)) = true := by
      rw [bne_iff_ne]; intro e; exact hl (by exact_mod_cast e)
    clear hl hp1
    generalize hpp : 2 ^ T = p at hw2 hne
    clear hpp
    go_enter Try.func42, Try.ntmps42
    go_wp2_with fail
    exact HR.out _ _ rfl h (Grew.refl _ _)

/-- Row. -/
def rowA (T : Nat) (L : List Nd) (i : Int) : List Int :=
  if 0 ≤ i ∧ i < L.length then (List.range (2 ^ T)).map (fun c => val L i.toNat c) else []

theorem int_info : (Try.prog.info? 3).map (fun i => (i.zero, i.size, i.bytes)) = some (some (.int .i64 0), 1, 8) := by kernel_rfl

/-- The slice v is the call's own (its block lies from B on), and reads as the ints l. -/
def OwnInts (w : World) (B : Nat) (v : Value) (l : List Int) : Prop := w.ownsRow B 3 1 v l.length (l.map (Value.int .i64))

theorem OwnInts.ints {B : Nat} {v : Value} {l : List Int} (h : OwnInts w B v l) (hl : ∀ x ∈ l, InI64 x) : IntsAt w v l := by
  refine ⟨?_, hl⟩
  rcases h.2 with ⟨rfl, h0⟩ | ⟨g, cap, cur, rfl, hb, hg, h1, h2, h3, h4⟩
  · have : l = [] := List.eq_nil_of_length_eq_zero h0
    subst this
    exact ⟨none, 0, rfl, Nat.le_refl _, Nat.zero_le _, .inl rfl⟩
  · refine ⟨_, cap, by simp, by simpa using h1, h2, .inr ⟨g, 0, cur, _, _, rfl, hg, fun i x hx => ?_⟩⟩
    rw [← h4] at hx
    rw [List.getElem?_take] at hx
    split at hx
    · simpa using hx
    · cases hx

theorem OwnInts.keep {S : Nat → Prop} {w w' : World} {B : Nat} {v : Value} {l : List Int} (h : OwnInts w B v l) (k : Keeps S w w') (hs : ∀ b, v.ownBlock = some b → S b) : OwnInts w' B v l := by
  refine ⟨h.1, ?_⟩
  rcases h.2 with h0 | ⟨g, cap, cur, rfl, hb, hg, rest⟩
  · exact .inl h0
  · exact .inr ⟨g, cap, cur, rfl, hb, k.at hg (hs g rfl), rest⟩

theorem OwnInts.same {w w' : World} {B : Nat} {v : Value} {l : List Int} (h : OwnInts w B v l) (k : Same w w') : OwnInts w' B v l := h.keep k fun _ _ => trivial

theorem live_own {v : Value} {b : Nat} (h : live v = some b) : v.ownBlock = some b := by
  unfold live at h
  split at h
  · simpa [Value.ownBlock] using h
  · cases h

/-- A slice of the call's own lies apart from a Store. -/
theorem OwnInts.apart {B : Nat} {v : Value} {l : List Int} (h : OwnInts w B v l) (hs : StoreAt w a T L) : Apart w a v := by
  intro b hb
  rcases h.2 with ⟨rfl, h0⟩ | ⟨g, cap, cur, rfl, _, hg, rest⟩
  · simp [live] at hb
  · have := live_own hb
    simp [Value.ownBlock] at this
    subst this
    exact ⟨not_foot hs hg (by decide) (by decide), heap_lt hg⟩

theorem val_bounds (h : WF T L) (c : Nat) : ∀ i, InI64 (val L i c) := by
  intro i
  induction i using Nat.strongRecOn with
  | ind i ih =>
    cases hi : L[i]? with
    | none => unfold val ev; rw [hi]; simp [InI64]
    | some n =>
      cases n with
      | leaf v =>
        rw [val_leaf hi]
        have := h.ok i _ hi
        simp only [NdOk] at this
        unfold InI64; omega
      | fork t lo hi' =>
        rw [val_fork h hi]
        have ok := h.ok i _ hi
        split
        · exact ih _ ok.2.2.1
        · exact ih _ ok.2.1

theorem OwnInts.grew {w' : World} {B : Nat} {v : Value} {l : List Int} (h : OwnInts w B v l) (hs : StoreAt w a T L) (g : Grew a w w') : OwnInts w' B v l := by
  refine h.keep g.keeps fun b hb => ?_
  rcases h.2 with ⟨rfl, h0⟩ | ⟨g, cap, cur, rfl, _, hg, rest⟩
  · simp [Value.ownBlock] at hb
  · simp [Value.ownBlock] at hb
    subst hb
    exact not_foot hs hg (by decide) (by decide)

theorem rowA_bounds (h : WF T L) (i : Int) : ∀ x ∈ rowA T L i, InI64 x := by
  intro x hx
  unfold rowA at hx
  split at hx
  · obtain ⟨c, _, rfl⟩ := List.mem_map.1 hx
    exact val_bounds h c _
  · cases hx

set_option maxHeartbeats 1000000 in
theorem storeRow (h : StoreAt w a T L) (i : Int) (hR : ∀ e w' v, e = .returned v → OwnInts w' w.heap.size v (rowA T L i) → Same w w' → R e w') :
    Calls Try.prog 48 #[.pointer (some ⟨a, 0, none⟩), .int .i64 i] w R := by
  have HR := hide hR
  clear hR
  have h6 := h.wf.six
  by_cases hi : 0 ≤ i ∧ i < L.length
  · have hB : (decide (0 ≤ i) && decide (i < L.length)) = true := by simp; omega
    obtain ⟨k, rfl⟩ := Int.eq_ofNat_of_zero_le hi.1
    have hw2 := wrap_two h6
    have h64 := two_le h6
    have H := hide h
    have hra : rowA T L k = (List.range (2 ^ T)).map (fun c => val L k c) := by unfold rowA; rw [if_pos hi, Int.toNat_natCast]
    have hat : ∀ c : Nat, c < 2 ^ T → atA T L k c = val L k c := fun c hc => by
      unfold atA; rw [if_pos ⟨hi.1, hi.2, by omega, by exact_mod_cast hc⟩]; simp
    rw [hra] at HR
    have HAT := hide hat
    clear h hra hat
    generalize hpp : 2 ^ T = p at hw2 h64 HR HAT
    clear hpp
    obtain ⟨B, hBs⟩ : ∃ B, B = w.heap.size := ⟨_, rfl⟩
    rw [← hBs] at HR
    have HBS := hide hBs
    clear hBs
    go_enter Try.func48, Try.ntmps48
    go_wp2_with fail
    refine storeIs H.out _ ?_; rintro e rfl
    rw [hB]
    go_wp2_with fail
    refine storeTracks H.out ?_; rintro e rfl
    go_wp2_with fail
    rw [hw2]
    clear hw2
    go_loopw [5, 14] (fun u j wr => ∃ m : Nat, j = .int .i64 m ∧ m ≤ p ∧ OwnInts wr B u ((List.range m).map (fun c => val L k c)) ∧ Same w wr) (fun _ j _ => p - (intOf j).toNat)
    case atStart => exact ⟨0, rfl, Nat.zero_le _, World.ownsRow_nil _ _ _ _, Keeps.refl _ _⟩
    case round =>
      obtain ⟨m, rfl, hm, hown, hK⟩ := hrel
      by_cases hlt : m < p
      · go_wp2_with fail
        refine storeAtC (H.out.same hK) k m ?_; rintro e w1 rfl k1
        rw [HAT.out m hlt]
        obtain ⟨g, cap1, w2, hr, hown2, hk2, hg, _⟩ := append_one (P := Try.prog) w1 37 37 3 Try.underlying37 int_info rfl (hown.same k1) (by rw [HBS.out]; exact (hK.tr k1).size) (.int .i64 (val L k m)) rfl (by simp; omega) (by decide)
        have hK2 : Same w w2 := by
          refine (hK.tr k1).trans hk2 fun x hx _ => ⟨trivial, ?_⟩
          intro e
          have := (hown.lt x e).1
          rw [HBS.out] at this; omega
        have HO : Hid (OwnInts w2 B (.slice (some ⟨g, 0, none⟩) (((List.range m).map (fun c => val L k c)).length + 1) cap1) ((List.range (m + 1)).map (fun c => val L k c))) := by
          refine hide ?_
          unfold OwnInts
          rw [List.range_succ]
          simpa using hown2
        rw [show ((List.range m).map (fun c => val L k c)).length = m by simp] at HO hr
        clear hown2 hown hk2
        go_wp2_with (at_builtin; refine wpList_append_run rfl _ _ _ rfl rfl rfl hr ?_; clear hr)
        go_roundw
        case rel => exact ⟨m + 1, by go_num, by omega, HO.out, hK2⟩
        case measure => simp [intOf]; omega
      · go_wp2_with fail
        obtain rfl : m = p := by omega
        exact HR.out _ _ _ rfl hown hK
  · rw [show rowA T L i = [] from if_neg hi] at HR
    have hB : (decide (0 ≤ i) && decide (i < L.length)) = false := by simp; omega
    go_enter Try.func48, Try.ntmps48
    go_wp2_with fail
    refine storeIs h _ ?_; rintro e rfl
    rw [hB]
    go_wp2_with fail
    exact HR.out _ _ _ rfl (World.ownsRow_nil _ _ _ _) (Keeps.refl _ _)

end Go.Proofs.Ytbmpnfibebiaeaa

/- The plain law of chapter 16: two nodes that give the same are one; what is made of a row gives that row, and is made once. -/
namespace Go.Proofs.Ytbmpnfibebiaeaa

/-- The tracks from t on are alike. -/
def Agree (t c d : Nat) : Prop := ∀ b, t ≤ b → c.testBit b = d.testBit b

/-- The track of i is t or greater (or it is a leaf). -/
def From (L : List Nd) (i t : Nat) : Prop := ∀ u lo hi, L[i]? = some (.fork u lo hi) → t ≤ u

theorem Under.from {L : List Nd} {i t : Nat} (h : Under L i t) : From L i (t + 1) := fun u lo hi e => h.2 u lo hi e

theorem val_agree {T : Nat} {L : List Nd} (h : WF T L) : ∀ (i t c d : Nat), From L i t → Agree t c d → val L i c = val L i d := by
  intro i
  induction i using Nat.strongRecOn with
  | ind i ih =>
    intro t c d hf ha
    cases hi : L[i]? with
    | none => unfold val ev; rw [hi]
    | some n =>
      cases n with
      | leaf v => rw [val_leaf hi, val_leaf hi]
      | fork u lo hi' =>
        have ok := h.ok i _ hi
        have hu := hf u lo hi' hi
        rw [val_fork h hi, val_fork h hi, ← ha u hu]
        have ha' : Agree (u + 1) c d := fun b hb => ha b (by omega)
        split
        · exact ih _ ok.2.2.1 _ c d ok.2.2.2.2.2.from ha'
        · exact ih _ ok.2.1 _ c d ok.2.2.2.2.1.from ha'

/-- c, bit t being b. -/
def setB (c t : Nat) (b : Bool) : Nat := (c ||| 2 ^ t) ^^^ (if b then 0 else 2 ^ t)

theorem setB_at (c t : Nat) (b : Bool) : (setB c t b).testBit t = b := by
  unfold setB
  cases b <;> simp [Nat.testBit_xor, Nat.testBit_or, Nat.testBit_two_pow_self]

theorem setB_ne (c t : Nat) (b : Bool) {i : Nat} (h : i ≠ t) : (setB c t b).testBit i = c.testBit i := by
  unfold setB
  have h1 : (2 ^ t).testBit i = false := by rw [Nat.testBit_two_pow]; simp; omega
  cases b <;> simp [Nat.testBit_xor, Nat.testBit_or, h1]

theorem setB_agree (c t : Nat) (b : Bool) : Agree (t + 1) (setB c t b) c := fun i hi => setB_ne c t b (by omega)

/-- A fork that gives all letters the same two ways has two children that are one function. -/
theorem kids_of_free {T : Nat} {L : List Nd} (h : WF T L) {i t lo hi : Nat} (hi' : L[i]? = some (.fork t lo hi)) (hfree : ∀ c b, val L i (setB c t b) = val L i c) (c : Nat) : val L lo c = val L hi c := by
  have ok := h.ok i _ hi'
  have h1 := hfree c true
  have h2 := hfree c false
  rw [val_fork h hi', setB_at, if_pos rfl, val_agree h hi _ _ c ok.2.2.2.2.2.from (setB_agree c t true)] at h1
  rw [val_fork h hi', setB_at, if_neg (by decide), val_agree h lo _ _ c ok.2.2.2.2.1.from (setB_agree c t false)] at h2
  rw [h1, h2]

theorem nodup_inj {α : Type} {l : List α} (h : l.Nodup) {i j : Nat} (hi : i < l.length) (hj : j < l.length) (e : l[i] = l[j]) : i = j := by
  have := List.pairwise_iff_getElem.1 h
  rcases Nat.lt_trichotomy i j with h1 | h1 | h1
  · exact absurd e (this i j hi hj h1)
  · exact h1
  · exact absurd e.symm (this j i hj hi h1)

/-- Two nodes that give every letter the same are one. -/
theorem canon {T : Nat} {L : List Nd} (h : WF T L) : ∀ (n i j : Nat), i + j ≤ n → i < L.length → j < L.length → (∀ c, val L i c = val L j c) → i = j := by
  intro n
  induction n using Nat.strongRecOn with
  | ind n ih =>
    intro i j hn hi hj hv
    have inj : ∀ x y : Nd, L[i]? = some x → L[j]? = some y → x = y → i = j := by
      intro x y hx hy e
      subst e
      have h1 := List.getElem?_eq_some_iff.1 hx
      have h2 := List.getElem?_eq_some_iff.1 hy
      exact nodup_inj h.nodup hi hj (h1.2.trans h2.2.symm)
    obtain ⟨x, hx⟩ : ∃ x, L[i]? = some x := ⟨_, List.getElem?_eq_getElem hi⟩
    obtain ⟨y, hy⟩ : ∃ y, L[j]? = some y := ⟨_, List.getElem?_eq_getElem hj⟩
    -- a fork that does not look at its own track can not be
    have nofree : ∀ k t lo hi', k ≤ n → L[k]? = some (.fork t lo hi') → (∀ c b, val L k (setB c t b) = val L k c) → (lo + hi' < n) → False := by
      intro k t lo hi' hkn hk hfree hlt
      have ok := h.ok k _ hk
      exact ok.2.2.2.1 (ih (lo + hi') hlt lo hi' (Nat.le_refl _) ok.2.2.2.2.1.1 ok.2.2.2.2.2.1 (kids_of_free h hk hfree))
    cases x with
    | leaf v =>
      cases y with
      | leaf u =>
        have := hv 0
        rw [val_leaf hx, val_leaf hy] at this
        exact inj _ _ hx hy (by rw [this])
      | fork t lo hi' =>
        exfalso
        have ok := h.ok j _ hy
        have hc : ∀ c, val L j c = v := fun c => by rw [← hv c, val_leaf hx]
        have hfree : ∀ c b, val L j (setB c t b) = val L j c := fun c b => by rw [hc, hc]
        by_cases hlt : lo + hi' < n
        · exact nofree j t lo hi' (by omega) hy hfree hlt
        · -- lo + hi' can be as great as n only by double counting; go by the greater of the two
          have hkf := kids_of_free h hy hfree
          have cl : ∀ c, val L lo c = v := fun c => by
            have := hc (setB c t false)
            rw [val_fork h hy, setB_at, if_neg (by decide), val_agree h lo _ _ c ok.2.2.2.2.1.from (setB_agree c t false)] at this
            exact this
          have chi : ∀ c, val L hi' c = v := fun c => by rw [← hkf c]; exact cl c
          have e1 := ih (i + lo) (by have := ok.2.1; omega) i lo (Nat.le_refl _) hi ok.2.2.2.2.1.1 (fun c => by rw [cl, val_leaf hx])
          have e2 := ih (i + hi') (by have := ok.2.2.1; omega) i hi' (Nat.le_refl _) hi ok.2.2.2.2.2.1 (fun c => by rw [chi, val_leaf hx])
          exact ok.2.2.2.1 (e1.symm.trans e2)
    | fork t lo hi' =>
      have ok := h.ok i _ hx
      cases y with
      | leaf u =>
        exfalso
        have hc : ∀ c, val L i c = u := fun c => by rw [hv c, val_leaf hy]
        have hfree : ∀ c b, val L i (setB c t b) = val L i c := fun c b => by rw [hc, hc]
        have hkf := kids_of_free h hx hfree
        have cl : ∀ c, val L lo c = u := fun c => by
          have := hc (setB c t false)
          rw [val_fork h hx, setB_at, if_neg (by decide), val_agree h lo _ _ c ok.2.2.2.2.1.from (setB_agree c t false)] at this
          exact this
        have chi : ∀ c, val L hi' c = u := fun c => by rw [← hkf c]; exact cl c
        have e1 := ih (lo + j) (by have := ok.2.1; omega) lo j (Nat.le_refl _) ok.2.2.2.2.1.1 hj (fun c => by rw [cl, val_leaf hy])
        have e2 := ih (hi' + j) (by have := ok.2.2.1; omega) hi' j (Nat.le_refl _) ok.2.2.2.2.2.1 hj (fun c => by rw [chi, val_leaf hy])
        exact ok.2.2.2.1 (e1.trans e2.symm)
      | fork s lo2 hi2 =>
        have ok2 := h.ok j _ hy
        rcases Nat.lt_trichotomy t s with hts | hts | hts
        · -- j does not look at track t
          exfalso
          have hfree : ∀ c b, val L i (setB c t b) = val L i c := fun c b => by
            rw [hv, hv]
            exact val_agree h j (t + 1) _ _ (fun u _ _ e => by rw [hy] at e; cases e; omega) (setB_agree c t b)
          have hkf := kids_of_free h hx hfree
          have cl : ∀ c, val L lo c = val L j c := fun c => by
            have := hv (setB c t false)
            rw [val_fork h hx, setB_at, if_neg (by decide), val_agree h lo _ _ c ok.2.2.2.2.1.from (setB_agree c t false),
              val_agree h j (t + 1) _ c (fun u _ _ e => by rw [hy] at e; cases e; omega) (setB_agree c t false)] at this
            exact this
          have e1 := ih (lo + j) (by have := ok.2.1; omega) lo j (Nat.le_refl _) ok.2.2.2.2.1.1 hj cl
          have e2 := ih (hi' + j) (by have := ok.2.2.1; omega) hi' j (Nat.le_refl _) ok.2.2.2.2.2.1 hj (fun c => by rw [← hkf c]; exact cl c)
          exact ok.2.2.2.1 (e1.trans e2.symm)
        · subst hts
          have cl : ∀ c, val L lo c = val L lo2 c := fun c => by
            have := hv (setB c t false)
            rw [val_fork h hx, val_fork h hy, setB_at, if_neg (by decide), if_neg (by decide), val_agree h lo _ _ c ok.2.2.2.2.1.from (setB_agree c t false), val_agree h lo2 _ _ c ok2.2.2.2.2.1.from (setB_agree c t false)] at this
            exact this
          have chi : ∀ c, val L hi' c = val L hi2 c := fun c => by
            have := hv (setB c t true)
            rw [val_fork h hx, val_fork h hy, setB_at, if_pos rfl, if_pos rfl, val_agree h hi' _ _ c ok.2.2.2.2.2.from (setB_agree c t true), val_agree h hi2 _ _ c ok2.2.2.2.2.2.from (setB_agree c t true)] at this
            exact this
          have e1 := ih (lo + lo2) (by have := ok.2.1; have := ok2.2.1; omega) lo lo2 (Nat.le_refl _) ok.2.2.2.2.1.1 ok2.2.2.2.2.1.1 cl
          have e2 := ih (hi' + hi2) (by have := ok.2.2.1; have := ok2.2.2.1; omega) hi' hi2 (Nat.le_refl _) ok.2.2.2.2.2.1 ok2.2.2.2.2.2.1 chi
          exact inj _ _ hx hy (by rw [e1, e2])
        · exfalso
          have hfree : ∀ c b, val L j (setB c s b) = val L j c := fun c b => by
            rw [← hv, ← hv]
            exact val_agree h i (s + 1) _ _ (fun u _ _ e => by rw [hx] at e; cases e; omega) (setB_agree c s b)
          have hkf := kids_of_free h hy hfree
          have cl : ∀ c, val L lo2 c = val L i c := fun c => by
            have := hv (setB c s false)
            rw [val_fork h hy, setB_at, if_neg (by decide), val_agree h lo2 _ _ c ok2.2.2.2.2.1.from (setB_agree c s false),
              val_agree h i (s + 1) _ c (fun u _ _ e => by rw [hx] at e; cases e; omega) (setB_agree c s false)] at this
            exact this.symm
          have e1 := ih (i + lo2) (by have := ok2.2.1; omega) i lo2 (Nat.le_refl _) hi ok2.2.2.2.2.1.1 (fun c => (cl c).symm)
          have e2 := ih (i + hi2) (by have := ok2.2.2.1; omega) i hi2 (Nat.le_refl _) hi ok2.2.2.2.2.2.1 (fun c => by rw [← hkf c]; exact (cl c).symm)
          exact ok2.2.2.2.1 (e1.symm.trans e2)

/-- What a node gives hangs on the low T bits alone. -/
theorem val_mod {T : Nat} {L : List Nd} (h : WF T L) (c : Nat) : ∀ i, val L i (c % 2 ^ T) = val L i c := by
  intro i
  induction i using Nat.strongRecOn with
  | ind i ih =>
    cases hi : L[i]? with
    | none => unfold val ev; rw [hi]
    | some n =>
      cases n with
      | leaf v => rw [val_leaf hi, val_leaf hi]
      | fork u lo hi' =>
        have ok := h.ok i _ hi
        rw [val_fork h hi, val_fork h hi, Nat.testBit_mod_two_pow]
        simp only [ok.1, decide_true, Bool.true_and]
        split
        · exact ih _ ok.2.2.1
        · exact ih _ ok.2.1

theorem canon_row {T : Nat} {L : List Nd} (h : WF T L) {i j : Nat} (hi : i < L.length) (hj : j < L.length) (hv : ∀ c, c < 2 ^ T → val L i c = val L j c) : i = j :=
  canon h _ i j (Nat.le_refl _) hi hj fun c => by
    rw [← val_mod h c i, ← val_mod h c j]
    exact hv _ (Nat.mod_lt _ (Nat.pow_pos (by decide)))

/-- A store that has grown gives what it gave. -/
theorem val_prefix {T : Nat} {L L' : List Nd} (h : WF T L) (h' : WF T L') (hp : L <+: L') (c : Nat) : ∀ i, i < L.length → val L' i c = val L i c := by
  intro i
  induction i using Nat.strongRecOn with
  | ind i ih =>
    intro hlt
    have hg : L'[i]? = L[i]? := by
      obtain ⟨M, rfl⟩ := hp
      exact List.getElem?_append_left hlt
    cases hi : L[i]? with
    | none => rw [List.getElem?_eq_none_iff] at hi; omega
    | some n =>
      rw [hi] at hg
      cases n with
      | leaf v => rw [val_leaf hi, val_leaf hg]
      | fork u lo hi' =>
        have ok := h.ok i _ hi
        rw [val_fork h hi, val_fork h' hg]
        split
        · exact ih _ ok.2.2.1 ok.2.2.2.2.2.1
        · exact ih _ ok.2.1 ok.2.2.2.2.1.1

end Go.Proofs.Ytbmpnfibebiaeaa

/- The plain law of Of: what is made of a row gives the row; a row that a node gives already makes nothing. -/
namespace Go.Proofs.Ytbmpnfibebiaeaa

/-- A result (nodes, number) that is a node giving f. -/
structure Made (T : Nat) (L : List Nd) (r : List Nd × Int) (k : Nat) : Prop where
  num : r.2 = (k : Int)
  lt : k < r.1.length
  wf : WF T r.1
  pre : L <+: r.1

theorem leafA_made {T : Nat} {L : List Nd} (h : WF T L) {v : Int} (hv : isVal v = true) : ∃ k, Made T L (leafA L v) k ∧ ∀ c, val (leafA L v).1 k c = v := by
  have hv' : 0 ≤ v ∧ v ≤ 1099511627776 := by simpa [isVal] using hv
  have e : leafA L v = ((idOf L (.leaf v)).1, ((idOf L (.leaf v)).2 : Int)) := if_pos hv'
  rw [e]
  exact ⟨_, ⟨rfl, idOf_lt, idOf_wf h hv', idOf_prefix⟩, fun c => val_leaf idOf_get⟩

theorem made_have {T : Nat} {L : List Nd} {r : List Nd × Int} {k j : Nat} (h : WF T L) (hr : Made T L r k) (hj : j < L.length) (hv : ∀ c, val r.1 k c = val L j c) (hs : r.1 = L ∨ ∃ n, r.1 = L ++ [n] ∧ k = L.length) : r = (L, (j : Int)) := by
  have hlen : L.length ≤ r.1.length := hr.pre.length_le
  have e : k = j := canon hr.wf _ k j (Nat.le_refl _) hr.lt (by omega) fun c => by rw [hv c, val_prefix h hr.wf hr.pre c j hj]
  subst e
  rcases hs with hs | ⟨n, hs, h2⟩
  · exact Prod.ext hs hr.num
  · omega

theorem idOf_shape (L : List Nd) (n : Nd) : (idOf L n).1 = L ∨ ∃ m, (idOf L n).1 = L ++ [m] ∧ (idOf L n).2 = L.length := by
  by_cases h : n ∈ L
  · rw [idOf_mem h]; exact .inl rfl
  · rw [idOf_new h]; exact .inr ⟨n, rfl, rfl⟩

theorem leafA_have {T : Nat} {L : List Nd} (h : WF T L) {v : Int} (hv : isVal v = true) {j : Nat} (hj : j < L.length) (hg : ∀ c, val L j c = v) : leafA L v = (L, (j : Int)) := by
  have hv' : 0 ≤ v ∧ v ≤ 1099511627776 := by simpa [isVal] using hv
  have e : leafA L v = ((idOf L (.leaf v)).1, ((idOf L (.leaf v)).2 : Int)) := if_pos hv'
  obtain ⟨k, hk, hkv⟩ := leafA_made h hv
  refine made_have h hk hj (fun c => by rw [hkv, hg]) ?_
  have hn := hk.num
  rw [e] at hn ⊢
  have : (idOf L (.leaf v)).2 = k := Int.ofNat_inj.1 hn
  rw [← this]
  exact idOf_shape _ _

theorem mkA_eq {T : Nat} {L : List Nd} {t lo hi : Nat} (ht : t < T) (h1 : Under L lo t) (h2 : Under L hi t) :
    mkA T L t lo hi = if lo = hi then (L, (lo : Int)) else ((idOf L (.fork t lo hi)).1, ((idOf L (.fork t lo hi)).2 : Int)) := by
  unfold mkA
  rw [if_neg]
  · simp only [Int.ofNat_inj, Int.toNat_natCast]
  · rw [underB_iff.2 h1, underB_iff.2 h2]; simp; omega

theorem mkA_made {T : Nat} {L : List Nd} (h : WF T L) {t lo hi : Nat} (ht : t < T) (h1 : Under L lo t) (h2 : Under L hi t) :
    ∃ k, Made T L (mkA T L t lo hi) k ∧ From (mkA T L t lo hi).1 k t ∧ ∀ c, val (mkA T L t lo hi).1 k c = val L (if c.testBit t then hi else lo) c := by
  rw [mkA_eq ht h1 h2]
  by_cases e : lo = hi
  · subst e
    rw [if_pos rfl]
    exact ⟨lo, ⟨rfl, h1.1, h, List.prefix_rfl⟩, fun u l r hu => by have := h1.2 u l r hu; omega, fun c => by simp⟩
  · rw [if_neg e]
    have hok : NdOk T L L.length (.fork t lo hi) := ⟨ht, h1.1, h2.1, e, h1, h2⟩
    have hwf := idOf_wf h hok
    refine ⟨_, ⟨rfl, idOf_lt, hwf, idOf_prefix⟩, fun u l r hu => ?_, fun c => ?_⟩
    · simp only [idOf_get, Option.some.injEq, Nd.fork.injEq] at hu; omega
    · simp only []
      rw [val_fork hwf idOf_get]
      split
      · exact val_prefix h hwf idOf_prefix c _ h2.1
      · exact val_prefix h hwf idOf_prefix c _ h1.1

theorem mkA_have {T : Nat} {L : List Nd} (h : WF T L) {t lo hi j : Nat} (ht : t < T) (h1 : Under L lo t) (h2 : Under L hi t) (hj : j < L.length)
    (hg : ∀ c, val L j c = val L (if c.testBit t then hi else lo) c) : mkA T L t lo hi = (L, (j : Int)) := by
  obtain ⟨k, hk, _, hkv⟩ := mkA_made h ht h1 h2
  refine made_have h hk hj (fun c => by rw [hkv, hg]) ?_
  have hn := hk.num
  rw [mkA_eq ht h1 h2] at hn ⊢
  by_cases e : lo = hi
  · rw [if_pos e]; exact .inl rfl
  · rw [if_neg e] at hn ⊢
    have : (idOf L (.fork t lo hi)).2 = k := Int.ofNat_inj.1 hn
    rw [← this]
    exact idOf_shape _ _

theorem or_add {c t : Nat} (h : c < 2 ^ t) : c ||| 2 ^ t = c + 2 ^ t := by
  have := Nat.two_pow_add_eq_or_of_lt h 1
  rw [Nat.mul_one] at this
  rw [Nat.or_comm, ← this, Nat.add_comm]

theorem mod_bit (x t : Nat) : x % 2 ^ (t + 1) = if x.testBit t then x % 2 ^ t + 2 ^ t else x % 2 ^ t := by
  rw [Nat.mod_pow_succ, testBit_mod]
  have := Nat.mod_two_eq_zero_or_one (x / 2 ^ t)
  rcases this with h | h <;> simp [h]

theorem From.prefx {L L' : List Nd} {i t : Nat} (h : From L i t) (hp : L <+: L') (hi : i < L.length) : From L' i t := by
  obtain ⟨M, rfl⟩ := hp
  intro u lo hi' e
  rw [List.getElem?_append_left hi] at e
  exact h u lo hi' e

theorem From.under {L : List Nd} {i t : Nat} (h : From L i (t + 1)) (hi : i < L.length) : Under L i t := ⟨hi, fun u lo hi' e => h u lo hi' e⟩

theorem ofA_made {T : Nat} {row : List Int} (hlen : row.length = 2 ^ T) (hall : row.all isVal = true) : ∀ (d t c : Nat) (L : List Nd), t + d = T → c < 2 ^ t → WF T L →
    ∃ k, Made T L (ofA T row d L c) k ∧ From (ofA T row d L c).1 k t ∧ ∀ x, x < 2 ^ T → x % 2 ^ t = c → val (ofA T row d L c).1 k x = row.getD x 0 := by
  intro d
  induction d with
  | zero =>
    intro t c L htd hc h
    obtain rfl : t = T := by omega
    have hv : isVal (row.getD c 0) = true := by
      have hcl : c < row.length := by omega
      rw [List.getD_eq_getElem?_getD, List.getElem?_eq_getElem hcl]
      exact List.all_eq_true.1 hall _ (List.getElem_mem hcl)
    obtain ⟨k, hk, hkv⟩ := leafA_made h hv
    unfold ofA
    refine ⟨k, hk, fun u lo hi e => ?_, fun x hx hxc => ?_⟩
    · have := hk.wf.ok k _ e; have := this.1
      have hz := hkv (2 ^ u)
      -- a leaf's value is found at k, so it is no fork
      exfalso
      have hv2 : 0 ≤ row.getD c 0 ∧ row.getD c 0 ≤ 1099511627776 := by simpa [isVal] using hv
      have e2 : leafA L (row.getD c 0) = ((idOf L (.leaf (row.getD c 0))).1, ((idOf L (.leaf (row.getD c 0))).2 : Int)) := if_pos hv2
      have hn := hk.num
      rw [e2] at hn e
      have : (idOf L (.leaf (row.getD c 0))).2 = k := Int.ofNat_inj.1 hn
      rw [← this, idOf_get] at e
      cases e
    · rw [hkv]
      rw [Nat.mod_eq_of_lt hx] at hxc
      rw [hxc]
  | succ d ih =>
    intro t c L htd hc h
    have et : T - (d + 1) = t := by omega
    have h3 : c < 2 ^ (t + 1) := Nat.lt_of_lt_of_le hc (Nat.pow_le_pow_right (by decide) (by omega))
    obtain ⟨k1, hk1, hf1, hv1⟩ := ih (t + 1) c L (by omega) h3 h
    obtain ⟨k2, hk2, hf2, hv2⟩ := ih (t + 1) (c ||| 2 ^ t) (ofA T row d L c).1 (by omega) (or_lt hc) hk1.wf
    have hk1' : k1 < (ofA T row d (ofA T row d L c).1 (c ||| 2 ^ t)).1.length := Nat.lt_of_lt_of_le hk1.lt hk2.pre.length_le
    have u1 := (hf1.prefx hk2.pre hk1.lt).under hk1'
    have u2 := hf2.under hk2.lt
    obtain ⟨k, hk, hf, hkv⟩ := mkA_made hk2.wf (show t < T by omega) u1 u2
    unfold ofA
    rw [et, hk1.num, hk2.num]
    refine ⟨k, ⟨hk.num, hk.lt, hk.wf, (hk1.pre.trans hk2.pre).trans hk.pre⟩, hf, fun x hx hxc => ?_⟩
    rw [hkv]
    have hm := mod_bit x t
    rw [hxc] at hm
    cases hb : x.testBit t with
    | true =>
      rw [hb, if_pos rfl, ← or_add hc] at hm
      rw [if_pos rfl]
      exact hv2 x hx hm
    | false =>
      rw [hb, if_neg (by decide)] at hm
      rw [if_neg (by decide), val_prefix hk1.wf hk2.wf hk2.pre x k1 hk1.lt]
      exact hv1 x hx hm

theorem ofA_have {T : Nat} {row : List Int} (hlen : row.length = 2 ^ T) (hall : row.all isVal = true) {L : List Nd} (h : WF T L) : ∀ (d t c k : Nat), t + d = T → c < 2 ^ t → k < L.length → From L k t →
    (∀ x, x < 2 ^ T → x % 2 ^ t = c → val L k x = row.getD x 0) → ofA T row d L c = (L, (k : Int)) := by
  intro d
  induction d with
  | zero =>
    intro t c k htd hc hk hf hv
    obtain rfl : t = T := by omega
    unfold ofA
    have hcl : c < row.length := by omega
    have hval : isVal (row.getD c 0) = true := by
      rw [List.getD_eq_getElem?_getD, List.getElem?_eq_getElem hcl]
      exact List.all_eq_true.1 hall _ (List.getElem_mem hcl)
    refine leafA_have h hval hk fun x => ?_
    obtain ⟨n, hn⟩ : ∃ n, L[k]? = some n := ⟨_, List.getElem?_eq_getElem hk⟩
    cases n with
    | leaf v =>
      rw [val_leaf hn, ← hv c (by omega) (Nat.mod_eq_of_lt (by omega)), val_leaf hn]
    | fork u lo hi =>
      have := hf u lo hi hn
      have := (h.ok k _ hn).1
      omega
  | succ d ih =>
    intro t c k htd hc hk hf hv
    have et : T - (d + 1) = t := by omega
    have h3 : c < 2 ^ (t + 1) := Nat.lt_of_lt_of_le hc (Nat.pow_le_pow_right (by decide) (by omega))
    -- the two halves of k
    have halves : ∃ lo hi, lo < L.length ∧ hi < L.length ∧ From L lo (t + 1) ∧ From L hi (t + 1) ∧ ∀ x, val L k x = val L (if x.testBit t then hi else lo) x := by
      by_cases hfr : From L k (t + 1)
      · exact ⟨k, k, hk, hk, hfr, hfr, fun x => by simp⟩
      · obtain ⟨n, hn⟩ : ∃ n, L[k]? = some n := ⟨_, List.getElem?_eq_getElem hk⟩
        cases n with
        | leaf v => exact absurd (fun u lo hi e => by rw [hn] at e; cases e) hfr
        | fork u lo hi =>
          have hu := hf u lo hi hn
          have ok := h.ok k _ hn
          have hut : u = t := by
            rcases Nat.lt_or_ge t u with h1 | h1
            · exact absurd (fun u' lo' hi' e => by rw [hn] at e; cases e; omega) hfr
            · omega
          subst hut
          exact ⟨lo, hi, ok.2.2.2.2.1.1, ok.2.2.2.2.2.1, ok.2.2.2.2.1.from, ok.2.2.2.2.2.from, fun x => val_fork h hn⟩
    obtain ⟨lo, hi, hlo, hhi, flo, fhi, hkv⟩ := halves
    have e1 : ofA T row d L c = (L, (lo : Int)) := by
      refine ih (t + 1) c lo (by omega) h3 hlo flo fun x hx hxc => ?_
      have hm := mod_bit x t
      rw [hxc] at hm
      have hb : x.testBit t = false := by
        cases hb : x.testBit t with
        | false => rfl
        | true => rw [hb, if_pos rfl] at hm; omega
      rw [hb, if_neg (by decide)] at hm
      have := hv x hx hm.symm
      rw [hkv, hb, if_neg (by decide)] at this
      exact this
    have e2 : ofA T row d L (c ||| 2 ^ t) = (L, (hi : Int)) := by
      refine ih (t + 1) _ hi (by omega) (or_lt hc) hhi fhi fun x hx hxc => ?_
      have hm := mod_bit x t
      rw [hxc, or_add hc] at hm
      have hxt : x % 2 ^ t < 2 ^ t := Nat.mod_lt _ (Nat.pow_pos (by decide))
      have hb : x.testBit t = true := by
        cases hb : x.testBit t with
        | true => rfl
        | false => rw [hb, if_neg (by decide)] at hm; omega
      rw [hb, if_pos rfl] at hm
      have := hv x hx (by omega)
      rw [hkv, hb, if_pos rfl] at this
      exact this
    unfold ofA
    rw [et, e1]
    simp only [e2]
    exact mkA_have h (by omega) (flo.under hlo) (fhi.under hhi) hk hkv

/-- What Of makes. -/
theorem OfA_made {T : Nat} {L : List Nd} {row : List Int} (h : WF T L) (hlen : row.length = 2 ^ T) (hall : row.all isVal = true) :
    ∃ k, Made T L (OfA T L row) k ∧ ∀ x, x < 2 ^ T → val (OfA T L row).1 k x = row.getD x 0 := by
  obtain ⟨k, hk, _, hv⟩ := ofA_made hlen hall T 0 0 L (by omega) (by decide) h
  rw [show OfA T L row = ofA T row T L 0 from if_pos ⟨hlen, hall⟩]
  exact ⟨k, hk, fun x hx => hv x hx (by simp [Nat.mod_one])⟩

/-- A row that a node gives already. -/
theorem OfA_have {T : Nat} {L : List Nd} {row : List Int} (h : WF T L) (hlen : row.length = 2 ^ T) (hall : row.all isVal = true) {k : Nat} (hk : k < L.length) (hv : ∀ x, x < 2 ^ T → val L k x = row.getD x 0) :
    OfA T L row = (L, (k : Int)) := by
  rw [show OfA T L row = ofA T row T L 0 from if_pos ⟨hlen, hall⟩]
  exact ofA_have hlen hall h T 0 0 k (by omega) (by decide) hk (fun _ _ _ _ => Nat.zero_le _) (fun x hx _ => hv x hx)

/-- What is no row of values. -/
theorem OfA_none {T : Nat} {L : List Nd} {row : List Int} (h : ¬ (row.length = 2 ^ T ∧ row.all isVal = true)) : OfA T L row = (L, -1) := if_neg h

end Go.Proofs.Ytbmpnfibebiaeaa

/- The walk of sibylref11.Same. -/
namespace Go.Proofs.Ytbmpnfibebiaeaa
open Go.RowKit

variable {R : Ending → World → Prop} {w : World}

theorem same_prefix {a b : List Int} {k : Nat} (hlen : a.length = b.length) (h : ∀ i, i < k → a.getD i 0 = b.getD i 0) (hk : a.length ≤ k) : a = b := by
  apply List.ext_getElem hlen
  intro i h1 h2
  have := h i (by omega)
  simpa [List.getD, List.getElem?_eq_getElem h1, List.getElem?_eq_getElem h2] using this

set_option maxHeartbeats 1000000 in
theorem sameInts {v u : Value} {a b : List Int} (hv : IntsAt w v a) (hu : IntsAt w u b) (hR : ∀ e w', e = .returned (.bool (decide (a = b))) → Same w w' → R e w') :
    Calls Try.prog 17 #[v, u] w R := by
  have HR := hide hR
  clear hR
  obtain ⟨va, vc, rfl, hc1, hc2, hcell⟩ := hv.open
  obtain ⟨ua, uc, rfl, hd1, hd2, hdell⟩ := hu.open
  have HC := hide hcell
  have HD := hide hdell
  clear hcell hdell hv hu
  unfold maxLen at hc2 hd2
  by_cases hlen : a.length = b.length
  · have HL := hide hlen
    have hne : (((a.length : Nat) : Int) != ((b.length : Nat) : Int)) = false := by rw [hlen]; simp
    clear hlen
    go_enter Try.func17, Try.ntmps17
    go_wp2_with fail
    try rw [hne]
    clear hne
    go_loopw [5] (fun i wr => ∃ k : Nat, i = .int .i64 k ∧ k ≤ a.length ∧ Hid (∀ i, i < k → a.getD i 0 = b.getD i 0) ∧ Same w wr) (fun i _ => a.length - (intOf i).toNat)
    case atStart => exact ⟨0, rfl, Nat.zero_le _, hide (fun i hi => absurd hi (Nat.not_lt_zero _)), Keeps.refl _ _⟩
    case round =>
      obtain ⟨k, rfl, hk, hno, hK⟩ := hrel
      by_cases hlt : k < a.length
      · have hltb : k < b.length := by rw [← HL.out]; exact hlt
        obtain ⟨bl, off, rfl, hbl, hcl⟩ := HC.out k hlt
        obtain ⟨ul, uoff, rfl, hul, hdl⟩ := HD.out k hltb
        have hck := Keeps.cell hK (hcl k hlt) trivial
        have hdk := Keeps.cell hK (hdl k hltb) trivial
        clear hcl hdl
        obtain ⟨x, hx⟩ : ∃ x, x = a[k] := ⟨_, rfl⟩
        obtain ⟨y, hy⟩ : ∃ y, y = b[k] := ⟨_, rfl⟩
        rw [← hx] at hck
        rw [← hy] at hdk
        have ea : a.getD k 0 = x := by rw [hx]; simp [List.getD, List.getElem?_eq_getElem hlt]
        have eb : b.getD k 0 = y := by rw [hy]; simp [List.getD, List.getElem?_eq_getElem hltb]
        have EA := hide ea
        have EB := hide eb
        clear hx hy ea eb
        go_wp2_with fail
        go_quiet (fail)
        by_cases hxy : x = y
        · have hbe : (x != y) = false := by simp [hxy]
          have HXY := hide hxy
          clear hxy
          go_wp2_with fail
          go_roundw
          case rel =>
            refine ⟨k + 1, by go_num, by omega, hide (fun i hi => ?_), hK.drewN _⟩
            by_cases e : i = k
            · subst e; rw [EA.out, EB.out, HXY.out]
            · exact hno.out i (by omega)
          case measure => simp [intOf]; omega
        · have hbe : (x != y) = true := by simp [hxy]
          have HXY := hide hxy
          clear hxy
          go_wp2_with fail
          refine HR.out _ _ (ret_bool ?_) (hK.drewN _)
          symm
          rw [decide_eq_false_iff_not]
          intro e
          exact HXY.out (by rw [← EA.out, ← EB.out, e])
      · go_wp2_with fail
        refine HR.out _ _ (ret_bool ?_) hK
        symm
        rw [decide_eq_true_iff]
        exact same_prefix HL.out hno.out (by omega)
  · have hne : (((a.length : Nat) : Int) != ((b.length : Nat) : Int)) = true := by rw [bne_iff_ne]; intro e; exact hlen (by exact_mod_cast e)
    have HL := hide hlen
    clear hlen
    go_enter Try.func17, Try.ntmps17
    go_wp2_with fail
    refine HR.out _ _ (ret_bool ?_) (Keeps.refl _ _)
    symm
    rw [decide_eq_false_iff_not]
    intro e
    exact HL.out (by rw [e])

end Go.Proofs.Ytbmpnfibebiaeaa

/- What laws of stores lean on; sibylref16.Value. -/
namespace Go.Proofs.Ytbmpnfibebiaeaa
open Go.RowKit

variable {R : Ending → World → Prop} {w : World} {a T : Nat} {L : List Nd}

/-- A law's walk: true, and what was there is as it was. -/
theorem law_of {f : Nat} {args : Array Value} {w : World} (h : ∀ R : Ending → World → Prop, Hid (∀ e w', e = .returned (.bool true) → Keeps (· < w.heap.size) w w' → R e w') → Calls Try.prog f args w R) :
    Calls Try.prog f args w fun e w' => e = .returned (.bool true) ∧ Below w.heap.size w w' :=
  h _ (hide fun _ _ he hk => ⟨he, ⟨hk.os, hk.tape, hk.output, hk.size, fun k hk' => hk.block k hk' hk'⟩⟩)

theorem all_prefix {row : List Int} {k : Nat} (h : ∀ i, i < k → isVal (row.getD i 0) = true) (hk : row.length ≤ k) : row.all isVal = true := by
  rw [List.all_eq_true]
  intro x hx
  obtain ⟨i, hi, rfl⟩ := List.getElem_of_mem hx
  have := h i (by omega)
  simpa [List.getD, List.getElem?_eq_getElem hi] using this

theorem StoreAt.foot {w' : World} (h : StoreAt w a T L) (k : Same w w') {B : Nat} (hf : ∀ x, Foot w a x → B ≤ x) : ∀ x, Foot w' a x → B ≤ x := by
  obtain ⟨v, m, e, _⟩ := h.st
  exact fun x hx => hf x ((foot_same ((k.at e trivial).trans e.symm) x).1 hx)

theorem foot_old (h : StoreAt w a T L) {b : Nat} (hb : Foot w a b) : b < w.heap.size := by
  obtain ⟨v, m, e1, e2, es, clk, e3, _⟩ := h.st
  rcases hb with rfl | ⟨t', v', m', e4, e5⟩
  · exact heap_lt e1
  · rw [e1] at e4
    simp only [Option.some.injEq, Obj.cells.injEq, Array.mk.injEq, List.cons.injEq, Value.map.injEq] at e4
    obtain ⟨⟨_, rfl, rfl, _⟩, _⟩ := e4
    rcases e5 with rfl | e5
    · exact heap_lt e3
    · exact (e2.lt b e5).2

theorem OfA_wf (h : WF T L) (row : List Int) : WF T (OfA T L row).1 := by
  by_cases hc : row.length = 2 ^ T ∧ row.all isVal = true
  · obtain ⟨k, hk, _⟩ := OfA_made h hc.1 hc.2; exact hk.wf
  · rw [OfA_none hc]; exact h

theorem OfA_pre (h : WF T L) (row : List Int) : L <+: (OfA T L row).1 := by
  by_cases hc : row.length = 2 ^ T ∧ row.all isVal = true
  · obtain ⟨k, hk, _⟩ := OfA_made h hc.1 hc.2; exact hk.pre
  · rw [OfA_none hc]; exact List.prefix_rfl

theorem OfA_len (T : Nat) (L : List Nd) (row : List Int) (h6 : T ≤ 6) : (OfA T L row).1.length ≤ L.length + 127 := by
  unfold OfA
  split
  · have := ofA_len T row T L 0
    have : 2 ^ (T + 1) ≤ 128 := Nat.pow_le_pow_right (by decide) (show T + 1 ≤ 7 by omega)
    omega
  · simp

/-- Of again, in a store that has grown: nothing is made. -/
theorem OfA_again {L' : List Nd} (h : WF T L) (row : List Int) (h' : WF T L') (hp : (OfA T L row).1 <+: L') : OfA T L' row = (L', (OfA T L row).2) := by
  by_cases hc : row.length = 2 ^ T ∧ row.all isVal = true
  · obtain ⟨k, hk, hv⟩ := OfA_made h hc.1 hc.2
    rw [hk.num]
    exact OfA_have h' hc.1 hc.2 (Nat.lt_of_lt_of_le hk.lt hp.length_le) fun x hx => by rw [val_prefix hk.wf h' hp x k hk.lt, hv x hx]
  · rw [OfA_none hc, OfA_none hc]

theorem row_ext {a b : List Int} (hl : a.length = b.length) (h : ∀ x, x < a.length → a.getD x 0 = b.getD x 0) : a = b := same_prefix hl h (Nat.le_refl _)

theorem leafA_get {v : Int} (hv : isVal v = true) {k : Nat} (hk : (leafA L v).2 = (k : Int)) : (leafA L v).1[k]? = some (.leaf v) := by
  have hv' : 0 ≤ v ∧ v ≤ 1099511627776 := by simpa [isVal] using hv
  have e : leafA L v = ((idOf L (.leaf v)).1, ((idOf L (.leaf v)).2 : Int)) := if_pos hv'
  rw [e] at hk ⊢
  have : (idOf L (.leaf v)).2 = k := Int.ofNat_inj.1 hk
  rw [← this]
  exact idOf_get

theorem get_prefix {L L' : List Nd} (h : L <+: L') {k : Nat} {n : Nd} (hk : L[k]? = some n) : L'[k]? = some n := by
  obtain ⟨M, rfl⟩ := h
  rw [List.getElem?_append_left (List.getElem?_eq_some_iff.1 hk).1]
  exact hk

theorem leaf_under {k : Nat} {v : Int} (hk : L[k]? = some (.leaf v)) (t : Nat) : Under L k t :=
  ⟨(List.getElem?_eq_some_iff.1 hk).1, fun u lo hi e => by rw [hk] at e; cases e⟩

theorem OfA_cases {f : List Int} (h6 : T ≤ 6) (hl : f.length = 2 ^ T) : (∃ k : Nat, (OfA T [] f).2 = k ∧ k < (OfA T [] f).1.length ∧ (OfA T [] f).1.length ≤ 127 ∧ ∀ c, c < 2 ^ T → val (OfA T [] f).1 k c = f.getD c 0) ∨ (OfA T [] f).2 = -1 := by
  by_cases ha : f.all isVal = true
  · obtain ⟨k, hk, hv⟩ := OfA_made (WF.nil h6) hl ha
    exact .inl ⟨k, hk.num, hk.lt, by simpa using OfA_len T [] f h6, hv⟩
  · right; rw [OfA_none (fun h => ha h.2)]


end Go.Proofs.Ytbmpnfibebiaeaa

/- Bools in memory. -/
namespace Go.Proofs.Ytbmpnfibebiaeaa
open Go.RowKit

/-- The slice value v reads as the bools l. -/
def BoolsAt (w : World) (v : Value) (l : List Bool) : Prop := SliceAt w v (l.map Value.bool)

theorem BoolsAt.same {w w' : World} {v : Value} {l : List Bool} (h : BoolsAt w v l) (k : Same w w') : BoolsAt w' v l := SliceAt.same h k

theorem BoolsAt.old {w w' : World} {v : Value} {l : List Bool} (h : BoolsAt w v l) (k : Keeps (· < w.heap.size) w w') : BoolsAt w' v l := SliceAt.keep h k (SliceAt.lt h)

theorem BoolsAt.open {w : World} {v : Value} {l : List Bool} (h : BoolsAt w v l) : ∃ a c, v = .slice a l.length c ∧ l.length ≤ c ∧ c ≤ maxLen ∧
    (∀ k (_ : k < l.length), ∃ b off, a = some ⟨b, off, none⟩ ∧ b < w.heap.size ∧ ∀ i (hi : i < l.length), w.cell? ⟨b, off + i, none⟩ = some (.bool (l[i]))) := by
  obtain ⟨a, c, rfl, h1, h2, h3⟩ := h
  simp only [List.length_map] at *
  refine ⟨a, c, rfl, h1, h2, fun k hk => ?_⟩
  rcases h3 with h3 | ⟨b, off, cur, e, fr, rfl, h5, h6⟩
  · simp at h3; subst h3; simp at hk
  · refine ⟨b, off, rfl, heap_lt h5, fun i hi => ?_⟩
    rw [cell_at h5]
    exact h6 i _ (by simp [hi])

end Go.Proofs.Ytbmpnfibebiaeaa

/- What an argument that reads as data gives the walks: rows of ints, bools. -/
namespace Go.Proofs.Ytbmpnfibebiaeaa
open Go.ChangeShapes Go.WideShapes Go.ChangeAt Go.RowKit Go.Deep

section
variable {H : Type} {enc : TypeId × Value → H} {P : Program} {w : World} {base : Nat} {held : Bool}

theorem rows_of_reads {e i : TypeId} {vs : List Value} (he : P.underlying e = some (.slice i)) (hi : P.underlying i = some (.int .i64)) (hc : P.cellsOf i = 1)
    (h : ∀ y ∈ vs, ∃ n D, DataW.trod enc P w base (fun _ => true) held n e [y] = some D) :
    ∃ ls : List (List Int), vs.length = ls.length ∧ ∀ (j : Nat) (u : Value) (l : List Int), vs[j]? = some u → ls[j]? = some l → IntsAt w u l := by
  induction vs with
  | nil => exact ⟨[], rfl, by simp⟩
  | cons y ys ih =>
    obtain ⟨ls, h1, h2⟩ := ih fun z hz => h z (by simp [hz])
    obtain ⟨n, D, hD⟩ := h y (by simp)
    obtain ⟨v, l, e1, hl⟩ := ints_of_trod he hi hc hD
    simp only [List.cons.injEq, and_true] at e1
    subst e1
    refine ⟨l :: ls, by simp [h1], fun j u m hu hm => ?_⟩
    cases j with
    | zero => simp at hu hm; subst hu; subst hm; exact hl
    | succ j => exact h2 j u m (by simpa using hu) (by simpa using hm)

theorem rows_of_trod {t e i : TypeId} {fuel : Nat} {cs : List Value} {x : DataW H × List MemPlace} (ht : P.underlying t = some (.slice e)) (he : P.underlying e = some (.slice i)) (hi : P.underlying i = some (.int .i64)) (hc : P.cellsOf e = 1) (hci : P.cellsOf i = 1)
    (h : DataW.trod enc P w base (fun _ => true) held fuel t cs = some x) : ∃ v l, cs = [v] ∧ RowsAt w v l := by
  obtain ⟨v, vs, rfl, h1, h2⟩ := slice_of_trod ht hc h
  obtain ⟨ls, h3, h4⟩ := rows_of_reads he hi hci h2
  exact ⟨v, ls, rfl, vs, h1, h3, h4⟩

theorem bools_of_reads {e : TypeId} {vs : List Value} (he : P.underlying e = some .bool) (h : ∀ y ∈ vs, ∃ n D, DataW.trod enc P w base (fun _ => true) held n e [y] = some D) :
    ∃ l : List Bool, vs = l.map Value.bool := by
  induction vs with
  | nil => exact ⟨[], rfl⟩
  | cons y ys ih =>
    obtain ⟨l, rfl⟩ := ih fun z hz => h z (by simp [hz])
    obtain ⟨n, D, hD⟩ := h y (by simp)
    obtain ⟨b, e1, _⟩ := DataW.trod_bool he hD
    simp only [List.cons.injEq, and_true] at e1
    subst e1
    exact ⟨b :: l, rfl⟩

theorem bools_of_trod {t e : TypeId} {fuel : Nat} {cs : List Value} {x : DataW H × List MemPlace} (ht : P.underlying t = some (.slice e)) (he : P.underlying e = some .bool) (hc : P.cellsOf e = 1)
    (h : DataW.trod enc P w base (fun _ => true) held fuel t cs = some x) : ∃ v l, cs = [v] ∧ BoolsAt w v l := by
  obtain ⟨v, vs, rfl, h1, h2⟩ := slice_of_trod ht hc h
  obtain ⟨l, rfl⟩ := bools_of_reads he h2
  exact ⟨v, l, rfl, h1⟩

end
end Go.Proofs.Ytbmpnfibebiaeaa

/- Rows that the call owns, in a block that it owns. -/
namespace Go.Proofs.Ytbmpnfibebiaeaa
open Go.RowKit

variable {R : Ending → World → Prop} {w : World}

/-- The block b holds slices of ints, each the call's own (from B on), no two in one block. -/
structure OwnRows (w : World) (B b : Nat) (vs : List Value) (rows : List (List Int)) : Prop where
  blk : w.heap[b]? = some (.cells vs.toArray 37 (0, 0))
  low : B ≤ b
  len : vs.length = rows.length
  own : ∀ (j : Nat) (v : Value) (l : List Int), vs[j]? = some v → rows[j]? = some l → OwnInts w B v l
  apart : ∀ (j j' : Nat) (v v' : Value) (k : Nat), vs[j]? = some v → vs[j']? = some v' → v.ownBlock = some k → v'.ownBlock = some k → j = j'

theorem OwnInts.ne_block {B b : Nat} {v : Value} {l : List Int} (h : OwnInts w B v l) {cs : Array Value} {t : TypeId} {fr : Nat × Nat} (hb : w.heap[b]? = some (.cells cs t fr)) (ht : t ≠ 3) : v.ownBlock ≠ some b := by
  intro e
  rcases h.2 with ⟨rfl, h0⟩ | ⟨g, cap, cur, rfl, hg, hgb, rest⟩
  · simp [Value.ownBlock] at e
  · simp [Value.ownBlock] at e
    subst e
    rw [hb] at hgb
    simp at hgb
    exact ht hgb.2.1

theorem OwnInts.low {B : Nat} {v : Value} {l : List Int} (h : OwnInts w B v l) {g : Nat} (e : v.ownBlock = some g) : B ≤ g ∧ g < w.heap.size := h.lt g e

theorem OwnRows.make (w : World) {B n : Nat} (hB : B ≤ w.heap.size) : OwnRows (w.alloc (.cells (List.replicate n (.slice none 0 0)).toArray 37)) B w.heap.size (List.replicate n (.slice none 0 0)) (List.replicate n []) := by
  refine ⟨heap_new _ _, hB, by simp, fun j v l hv hl => ?_, fun j j' v v' k hv _ hk _ => ?_⟩
  · obtain rfl := List.eq_of_mem_replicate (List.mem_of_getElem? hv)
    obtain rfl := List.eq_of_mem_replicate (List.mem_of_getElem? hl)
    exact World.ownsRow_nil _ _ _ _
  · obtain rfl := List.eq_of_mem_replicate (List.mem_of_getElem? hv)
    simp [Value.ownBlock] at hk

/-- One number more at a row's end. -/
theorem OwnRows.push {B b : Nat} {vs : List Value} {rows : List (List Int)} (h : OwnRows w B b vs rows) (hB : B ≤ w.heap.size) {j : Nat} (hj : j < vs.length) {l : List Int} (hl : rows[j]? = some l) (hlen : l.length + 1 ≤ 2199023255552) (x : Int) :
    ∃ g cap w2, w.cell? ⟨b, j, none⟩ = some vs[j] ∧ (∃ s c, vs[j] = .slice s l.length c) ∧ (Builtin.append_ #[37, 37] 37 #[vs[j], .slice (some ⟨w.heap.size, 0, none⟩) 1 1]).run Try.prog (w.alloc (.cells #[.int .i64 x] 3)) = .ok (.slice (some ⟨g, 0, none⟩) (l.length + 1) cap) w2 ∧
      w2.frozen? ⟨b, j, none⟩ = false ∧ (∃ u, w2.cell? ⟨b, j, none⟩ = some u) ∧
      OwnRows (w2.setCell ⟨b, j, none⟩ (.slice (some ⟨g, 0, none⟩) (l.length + 1) cap)) B b (vs.set j (.slice (some ⟨g, 0, none⟩) (l.length + 1) cap)) (rows.set j (l ++ [x])) ∧
      Keeps (· < B) w (w2.setCell ⟨b, j, none⟩ (.slice (some ⟨g, 0, none⟩) (l.length + 1) cap)) := by
  have hvj : vs[j]? = some vs[j] := List.getElem?_eq_getElem hj
  have ho := h.own j _ _ hvj hl
  obtain ⟨g, cap, w2, hr, hown2, hk2, hg, hgs⟩ := append_one (P := Try.prog) w 37 37 3 Try.underlying37 int_info rfl ho hB (.int .i64 x) rfl (by simpa using hlen) (by decide)
  have hb2 : w2.heap[b]? = some (.cells vs.toArray 37 (0, 0)) := hk2.at h.blk (ho.ne_block h.blk (by decide))
  have hOg : w2.ownsRow B 3 1 (.slice (some ⟨g, 0, none⟩) (l.length + 1) cap) (l.length + 1) (l.map (Value.int .i64) ++ [.int .i64 x]) := by simpa using hown2
  have hOn : OwnInts w2 B (.slice (some ⟨g, 0, none⟩) (l.length + 1) cap) (l ++ [x]) := by
    unfold OwnInts; simpa using hOg
  have hgb : g ≠ b := by
    have := hOn.ne_block hb2 (by decide)
    simpa [Value.ownBlock] using this
  have hBg : B ≤ g := (hOn.low (g := g) (by simp [Value.ownBlock])).1
  have hset : ∀ k, k ≠ b → (w2.setCell ⟨b, j, none⟩ (.slice (some ⟨g, 0, none⟩) (l.length + 1) cap)).heap[k]? = w2.heap[k]? := fun k hk => heap_setCell_ne hk _ _
  have hlenj : j < rows.length := by rw [← h.len]; exact hj
  refine ⟨g, cap, w2, by rw [cell_at h.blk]; simp [hj], ?_, hr, free_at hb2 _, ⟨vs[j], by rw [cell_at hb2]; simp [hj]⟩, ⟨?_, h.low, by simp [h.len], ?_, ?_⟩, ?_⟩
  · rcases ho.2 with ⟨e, h0⟩ | ⟨g', cap', cur, e, _⟩
    · rw [e]; have : l.length = 0 := by simpa using h0
      exact ⟨none, 0, by rw [this]⟩
    · exact ⟨_, _, by rw [e]⟩
  · rw [heap_setCell_at hb2]; simp
  · intro i v l' hv hl'
    have hks : Keeps (· ≠ b) w2 (w2.setCell ⟨b, j, none⟩ (.slice (some ⟨g, 0, none⟩) (l.length + 1) cap)) := (Keeps.refl (· ≠ b) w2).setCell (fun hh => hh.2 rfl) _
    have hfin : ∀ {v : Value} {l' : List Int}, OwnInts w2 B v l' → OwnInts (w2.setCell ⟨b, j, none⟩ (.slice (some ⟨g, 0, none⟩) (l.length + 1) cap)) B v l' := fun hh => hh.keep hks fun k hk hkb => hh.ne_block hb2 (by decide) (hkb ▸ hk)
    rw [List.getElem?_set] at hv hl'
    by_cases e : j = i
    · subst e
      rw [if_pos rfl, if_pos hlenj] at hl'
      rw [if_pos rfl, if_pos hj] at hv
      obtain rfl := Option.some.inj hv
      obtain rfl := Option.some.inj hl'
      exact hfin hOn
    · rw [if_neg e] at hl' hv
      refine hfin ((h.own i v l' hv hl').keep hk2 fun k hk hkk => e ?_)
      exact h.apart j i _ _ k hvj hv hkk hk
  · intro i i' v v' k hv hv' hk hk'
    have hnew : ∀ {i : Nat} {v : Value}, i ≠ j → vs[i]? = some v → v.ownBlock ≠ some g := by
      intro i v hij hv hvg
      rcases hg with hg | hg
      · exact hij (h.apart i j _ _ g hv hvj hvg hg)
      · obtain ⟨l', hl'⟩ : ∃ l', rows[i]? = some l' := ⟨_, List.getElem?_eq_getElem (by rw [← h.len]; exact (List.getElem?_eq_some_iff.1 hv).1)⟩
        have := ((h.own i v l' hv hl').low hvg).2
        omega
    rw [List.getElem?_set] at hv hv'
    by_cases e : j = i
    · rw [if_pos e, if_pos hj] at hv
      obtain rfl := Option.some.inj hv
      by_cases e' : j = i'
      · omega
      · rw [if_neg e'] at hv'
        simp only [Value.ownBlock, Option.some.injEq] at hk
        subst hk
        exact absurd hk' (hnew (fun hh => e' hh.symm) hv')
    · rw [if_neg e] at hv
      by_cases e' : j = i'
      · rw [if_pos e', if_pos hj] at hv'
        obtain rfl := Option.some.inj hv'
        simp only [Value.ownBlock, Option.some.injEq] at hk'
        subst hk'
        exact absurd hk (hnew (fun hh => e hh.symm) hv)
      · rw [if_neg e'] at hv'
        exact h.apart i i' _ _ k hv hv' hk hk'
  · refine (hk2.mono (S' := (· < B)) fun x hx hxB hh => ?_).setCell (fun hh => by have := h.low; have : b < B := hh.2; omega) _
    have := (ho.low hh).1
    have : x < B := hxB
    omega

theorem ints_info : (Try.prog.info? 37).map (fun i => (i.zero, i.size, i.bytes)) = some (some (.slice none 0 0), 1, 24) := by kernel_rfl

theorem make_none {n : Nat} : madeCells (Value.cells (.slice none 0 0)) (n * 1) = (List.replicate n (Value.slice none 0 0)).toArray := by
  apply Array.ext
  · simp [size_madeCells]
  · intro i h1 h2
    simp [madeCells, Value.cells, Nat.mod_one]

/-- Rows that the call owns read as rows. -/
theorem OwnRows.rows {B b : Nat} {vs : List Value} {rows : List (List Int)} (h : OwnRows w B b vs rows) (hb : ∀ l ∈ rows, ∀ x ∈ l, InI64 x) {n : Nat} (hn : n = rows.length) (hm : n ≤ maxLen) : RowsAt w (.slice (some ⟨b, 0, none⟩) n n) rows := by
  subst hn
  refine ⟨vs, ⟨_, rows.length, by rw [h.len], by rw [h.len]; exact Nat.le_refl _, hm, .inr ⟨b, 0, _, _, _, rfl, h.blk, fun i x hx => by simpa using hx⟩⟩, h.len, fun i u l hu hl => ?_⟩
  exact (h.own i u l hu hl).ints (hb l (List.mem_of_getElem? hl))


end Go.Proofs.Ytbmpnfibebiaeaa

/- A slice of slices of ints, all of it the call's own. -/
namespace Go.Proofs.Ytbmpnfibebiaeaa
open Go.RowKit

variable {R : Ending → World → Prop} {w : World}

/-- 's = append(s, x)', s the call's own, an element of one cell (of at most 24 bytes). -/
theorem append_wide {P : Program} (w : World) (t ty e : TypeId) {z : Value} {bytes : Nat} (ht : P.underlying t = some (.slice e)) (hi : (P.info? e).map (fun i => (i.zero, i.size, i.bytes)) = some (some z, 1, bytes))
    (hzs : z.cells.size = 1) {base : Nat} {v : Value} {n : Nat} {xs : List Value} (hown : w.ownsRow base e 1 v n xs) (hbase : base ≤ w.heap.size) (x : Value) (hx : x.oneCell' = true) (hn : n + 1 ≤ 1000000) (hby : bytes ≤ 24) :
    ∃ g cap w', (Builtin.append_ #[t, t] ty #[v, .slice (some ⟨w.heap.size, 0, none⟩) 1 1]).run P (w.alloc (.cells #[x] e)) = .ok (.slice (some ⟨g, 0, none⟩) (n + 1) cap) w' ∧
      w'.ownsRow base e 1 (.slice (some ⟨g, 0, none⟩) (n + 1) cap) (n + 1) (xs ++ [x]) ∧ Keeps (fun b => v.ownBlock ≠ some b) w w' ∧ (v.ownBlock = some g ∨ w.heap.size ≤ g) ∧ g < w'.heap.size := by
  obtain ⟨i0, hi0, hz0, hz1, hz2⟩ := info_parts hi
  have hb : (n + 1) * bytes ≤ 140737488355328 := Nat.le_trans (Nat.mul_le_mul hn hby) (by omega)
  obtain ⟨g, cap, w', h1, h2, h3, h4, h5⟩ := run_append_lies (P := P) _ t ty base e i0 z 1 bytes ht hi0 hz0 hz1 hz2 hzs (by decide) v n xs (hown.alloc (.cells #[x] e))
    ⟨w.heap.size, 0, none⟩ 1 1 [x] rfl (World.news_of_block (cs := #[x]) (heap_new w (.cells #[x] e))) (by simp [hx]) (by decide) (by unfold maxLen; omega) hb (by simp; omega) (w.heap.size + 1) (by simp)
  refine ⟨g, cap, w', h1, h2, ((Keeps.refl _ w).alloc _).grown h3 (by intro k hk hh; exact hh.2 hk), ?_, h5⟩
  rcases h4 with h4 | h4
  · exact .inl h4
  · exact .inr (by omega)

theorem ownsRow_below {e : TypeId} {z B B' n : Nat} {v : Value} {xs : List Value} (h : w.ownsRow B e z v n xs) (hB : B' ≤ B) : w.ownsRow B' e z v n xs := by
  refine ⟨h.1, ?_⟩
  rcases h.2 with h0 | ⟨g, cap, cur, e, hg, rest⟩
  · exact .inl h0
  · exact .inr ⟨g, cap, cur, e, Nat.le_trans hB hg, rest⟩

theorem ownsRow_keep {S : Nat → Prop} {w' : World} {e : TypeId} {z B n : Nat} {v : Value} {xs : List Value} (h : w.ownsRow B e z v n xs) (k : Keeps S w w') (hs : ∀ b, v.ownBlock = some b → S b) : w'.ownsRow B e z v n xs := by
  refine ⟨h.1, ?_⟩
  rcases h.2 with h0 | ⟨g, cap, cur, rfl, hb, hg, rest⟩
  · exact .inl h0
  · exact .inr ⟨g, cap, cur, rfl, hb, k.at hg (hs g rfl), rest⟩

/-- The block of a row that is the call's own holds cells of its type. -/
theorem ownsRow_block {e : TypeId} {z B n : Nat} {v : Value} {xs : List Value} (h : w.ownsRow B e z v n xs) {g : Nat} (hg : v.ownBlock = some g) : B ≤ g ∧ ∃ cur, w.heap[g]? = some (.cells cur e (0, 0)) := by
  rcases h.2 with ⟨rfl, h0⟩ | ⟨g', cap, cur, rfl, hb, hh, rest⟩
  · simp [Value.ownBlock] at hg
  · simp [Value.ownBlock] at hg
    subst hg
    exact ⟨hb, cur, hh⟩

theorem ownsRow_shape {e : TypeId} {z B n : Nat} {v : Value} {xs : List Value} (h : w.ownsRow B e z v n xs) : ∃ s c, v = .slice s n c := by
  rcases h.2 with ⟨e, h0⟩ | ⟨g', cap', cur, e, _⟩
  · exact ⟨none, 0, by rw [e, h0]⟩
  · exact ⟨_, _, e⟩

theorem OwnInts.shape {B : Nat} {v : Value} {l : List Int} (h : OwnInts w B v l) : ∃ s c, v = .slice s l.length c := by
  rcases h.2 with ⟨e, h0⟩ | ⟨g', cap', cur, e, _⟩
  · exact ⟨none, 0, by rw [e, h0]⟩
  · exact ⟨_, _, e⟩

/-- v is a slice of rows of ints; its block, and each row's, is the call's own (from B on). -/
def OwnMat (w : World) (B : Nat) (v : Value) (rows : List (List Int)) : Prop :=
  ∃ vs : List Value, w.ownsRow B 37 1 v rows.length vs ∧ vs.length = rows.length ∧ ∀ (i : Nat) (u : Value) (l : List Int), vs[i]? = some u → rows[i]? = some l → OwnInts w B u l

theorem OwnMat.nil (w : World) (B : Nat) : OwnMat w B (.slice none 0 0) [] := ⟨[], World.ownsRow_nil _ _ _ _, rfl, by simp⟩

theorem OwnMat.keep {S : Nat → Prop} {w' : World} {B : Nat} {v : Value} {rows : List (List Int)} (h : OwnMat w B v rows) (k : Keeps S w w') (hs : ∀ b cur e, w.heap[b]? = some (.cells cur e (0, 0)) → B ≤ b → S b) : OwnMat w' B v rows := by
  obtain ⟨vs, h1, h2, h3⟩ := h
  refine ⟨vs, ownsRow_keep h1 k fun b hb => ?_, h2, fun i u l hu hl => (h3 i u l hu hl).keep k fun b hb => ?_⟩
  · obtain ⟨hB, cur, hc⟩ := ownsRow_block h1 hb
    exact hs b cur _ hc hB
  · obtain ⟨hB, cur, hc⟩ := ownsRow_block (h3 i u l hu hl) hb
    exact hs b cur _ hc hB

theorem OwnMat.same {w' : World} {B : Nat} {v : Value} {rows : List (List Int)} (h : OwnMat w B v rows) (k : Same w w') : OwnMat w' B v rows := h.keep k fun _ _ _ _ _ => trivial

theorem OwnMat.below {B B' : Nat} {v : Value} {rows : List (List Int)} (h : OwnMat w B v rows) (hB : B' ≤ B) : OwnMat w B' v rows := by
  obtain ⟨vs, h1, h2, h3⟩ := h
  exact ⟨vs, ownsRow_below h1 hB, h2, fun i u l hu hl => ownsRow_below (h3 i u l hu hl) hB⟩

theorem OwnMat.shape {B : Nat} {v : Value} {rows : List (List Int)} (h : OwnMat w B v rows) : ∃ s c, v = .slice s rows.length c := by
  obtain ⟨vs, h1, h2, h3⟩ := h
  rcases h1.2 with ⟨e, h0⟩ | ⟨g', cap', cur, e, _⟩
  · exact ⟨none, 0, by rw [e, h0]⟩
  · exact ⟨_, _, e⟩

/-- What the call owns reads as rows. -/
theorem OwnMat.rows {B : Nat} {v : Value} {rows : List (List Int)} (h : OwnMat w B v rows) (hb : ∀ l ∈ rows, ∀ x ∈ l, InI64 x) : RowsAt w v rows := by
  obtain ⟨vs, h1, h2, h3⟩ := h
  refine ⟨vs, ?_, h2, fun i u l hu hl => (h3 i u l hu hl).ints (hb l (List.mem_of_getElem? hl))⟩
  rcases h1.2 with ⟨rfl, h0⟩ | ⟨g, cap, cur, rfl, hB, hg, q1, q2, q3, q4⟩
  · have : vs = [] := List.eq_nil_of_length_eq_zero (by omega)
    subst this
    exact ⟨none, 0, rfl, Nat.le_refl _, Nat.zero_le _, .inl rfl⟩
  · refine ⟨_, cap, by rw [h2], by omega, q2, .inr ⟨g, 0, cur, _, _, rfl, hg, fun i x hx => ?_⟩⟩
    rw [← q4] at hx
    rw [List.getElem?_take] at hx
    split at hx
    · simpa using hx
    · cases hx

/-- A row more at the end. -/
theorem OwnMat.push {B : Nat} {v u : Value} {rows : List (List Int)} {l : List Int} (h : OwnMat w B v rows) (hB : B ≤ w.heap.size) (hu : OwnInts w B u l) (hn : rows.length + 1 ≤ 1000000) :
    ∃ g cap w', (Builtin.append_ #[23, 23] 23 #[v, .slice (some ⟨w.heap.size, 0, none⟩) 1 1]).run Try.prog (w.alloc (.cells #[u] 37)) = .ok (.slice (some ⟨g, 0, none⟩) (rows.length + 1) cap) w' ∧
      OwnMat w' B (.slice (some ⟨g, 0, none⟩) (rows.length + 1) cap) (rows ++ [l]) ∧ Keeps (fun b => v.ownBlock ≠ some b) w w' ∧ Keeps (· < B) w w' ∧ g < w'.heap.size ∧ (v.ownBlock = some g ∨ w.heap.size ≤ g) := by
  obtain ⟨vs, h1, h2, h3⟩ := h
  have hone : u.oneCell' = true := by
    rcases hu.2 with ⟨rfl, _⟩ | ⟨g, cap, cur, rfl, _⟩ <;> rfl
  obtain ⟨g, cap, w', q1, q2, q3, q4, q5⟩ := append_wide (P := Try.prog) w 23 23 37 Try.underlying23 ints_info rfl h1 hB u hone hn (by decide)
  refine ⟨g, cap, w', q1, ⟨vs ++ [u], by simpa using q2, by simp [h2], fun i z m hz hm => ?_⟩, q3, q3.mono fun x _ hx e => ?_, q5, q4⟩
  · have hne : ∀ {z : Value} {m : List Int}, OwnInts w B z m → OwnInts w' B z m := fun hh => hh.keep q3 fun b hb e => by
      obtain ⟨_, cur, hc⟩ := ownsRow_block h1 e
      exact hh.ne_block hc (by decide) hb
    by_cases hi : i < rows.length
    · rw [List.getElem?_append_left (by omega)] at hz
      rw [List.getElem?_append_left hi] at hm
      exact hne (h3 i z m hz hm)
    · have hi2 : i = rows.length := by
        have := (List.getElem?_eq_some_iff.1 hm).1
        simp at this; omega
      subst hi2
      rw [List.getElem?_append_right (by omega)] at hz hm
      simp [h2] at hz hm
      subst hz; subst hm
      exact hne hu
  · have : x < B := hx
    have := (ownsRow_block h1 e).1
    omega

end Go.Proofs.Ytbmpnfibebiaeaa
