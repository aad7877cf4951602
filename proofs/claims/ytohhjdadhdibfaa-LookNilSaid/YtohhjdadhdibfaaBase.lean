/- General notions for the walks of this seat: what a call keeps of the memory. No condition. -/
import Derived.WalkKit
import Derived.WalkSpells
import Derived.WalkLawsBesides
import Derived.Deep.QuietTactic
import Derived.BigQuiet
import Derived.KernelRfl
import Derived.Deep.AppendLies
namespace Go.Proofs.Ytohhjdadhdibfaa
open Go.RowKit

theorem hide {p : Prop} (h : p) : Hid p := h

/-- What was there and lies in S is as it was. -/
structure Keeps (S : Nat → Prop) (w w' : World) : Prop where
  os : w'.os = w.os
  tape : w'.tape = w.tape
  output : w'.output = w.output
  size : w.heap.size ≤ w'.heap.size
  block : ∀ k, k < w.heap.size → S k → w'.heap[k]? = w.heap[k]?

/-- All that was there is as it was. -/
abbrev Same (w w' : World) : Prop := Keeps (fun _ => True) w w'

theorem Keeps.refl (S : Nat → Prop) (w : World) : Keeps S w w := ⟨rfl, rfl, rfl, Nat.le_refl _, fun _ _ _ => rfl⟩

theorem Keeps.trans {S S' S'' : Nat → Prop} {a b c : World} (h : Keeps S a b) (k : Keeps S' b c)
    (h1 : ∀ x, x < a.heap.size → S'' x → S x ∧ S' x) : Keeps S'' a c :=
  ⟨k.os.trans h.os, k.tape.trans h.tape, k.output.trans h.output, Nat.le_trans h.size k.size,
    fun x hx hs => (k.block x (Nat.lt_of_lt_of_le hx h.size) (h1 x hx hs).2).trans (h.block x hx (h1 x hx hs).1)⟩

theorem Keeps.tr {S : Nat → Prop} {a b c : World} (h : Keeps S a b) (k : Keeps S b c) : Keeps S a c :=
  h.trans k fun _ _ hs => ⟨hs, hs⟩

theorem Keeps.same_tr {S : Nat → Prop} {a b c : World} (h : Same a b) (k : Keeps S b c) : Keeps S a c :=
  h.trans k fun _ _ hs => ⟨trivial, hs⟩

theorem Keeps.tr_same {S : Nat → Prop} {a b c : World} (h : Keeps S a b) (k : Same b c) : Keeps S a c :=
  h.trans k fun _ _ hs => ⟨hs, trivial⟩

theorem Keeps.mono {S S' : Nat → Prop} {w w' : World} (h : Keeps S w w') (hs : ∀ x, x < w.heap.size → S' x → S x) : Keeps S' w w' :=
  ⟨h.os, h.tape, h.output, h.size, fun k hk hS => h.block k hk (hs k hk hS)⟩

theorem Keeps.drew {S : Nat → Prop} {a w : World} (h : Keeps S a w) : Keeps S a w.drew := ⟨h.os, h.tape, h.output, h.size, h.block⟩

theorem Keeps.drewN {S : Nat → Prop} {a w : World} (h : Keeps S a w) (n : Nat) : Keeps S a (w.drewN n) := ⟨h.os, h.tape, h.output, h.size, h.block⟩

theorem Keeps.alloc {S : Nat → Prop} {a w : World} (h : Keeps S a w) (o : Obj) : Keeps S a (w.alloc o) :=
  h.tr ⟨rfl, rfl, rfl, by simp, fun k hk _ => Below.heap_alloc _ _ _ (by omega)⟩

theorem Keeps.setCell {S : Nat → Prop} {a w : World} (h : Keeps S a w) {p : Addr} (hp : ¬ (p.block < a.heap.size ∧ S p.block)) (u : Value) : Keeps S a (w.setCell p u) :=
  ⟨h.os, h.tape, h.output, by have := h.size; simpa [World.setCell] using this,
    fun k hk hs => (Below.heap_setCell _ _ _ _ (by rintro rfl; exact hp ⟨hk, hs⟩)).trans (h.block k hk hs)⟩

theorem Keeps.grown {S : Nat → Prop} {a w w' : World} {row : Option Nat} (h : Keeps S a w) (hg : w.grownBy w' row)
    (hr : ∀ k, row = some k → ¬ (k < a.heap.size ∧ S k)) : Keeps S a w' :=
  ⟨hg.os.trans h.os, hg.tape.trans h.tape, hg.output.trans h.output, Nat.le_trans h.size hg.size,
    fun k hk hs => (hg.block k (Nat.lt_of_lt_of_le hk h.size) (fun e => hr k e.symm ⟨hk, hs⟩)).trans (h.block k hk hs)⟩

theorem Keeps.of_below {B : Nat} {w w' : World} (h : Below B w w') : Keeps (· < B) w w' :=
  ⟨h.os, h.tape, h.output, h.size, fun k _ hk => h.block k hk⟩

theorem Same.below {w w' : World} (h : Same w w') : Below w.heap.size w w' :=
  ⟨h.os, h.tape, h.output, h.size, fun k hk => h.block k hk trivial⟩

theorem Same.of_below {w w' : World} (h : Below w.heap.size w w') : Same w w' :=
  ⟨h.os, h.tape, h.output, h.size, fun k hk _ => h.block k hk⟩

theorem Keeps.at {S : Nat → Prop} {w w' : World} (h : Keeps S w w') {k : Nat} {o : Obj} (hk : w.heap[k]? = some o) (hs : S k) : w'.heap[k]? = some o :=
  (h.block k (Array.getElem?_eq_some_iff.1 hk).1 hs).trans hk

theorem heap_lt {w : World} {k : Nat} {o : Obj} (h : w.heap[k]? = some o) : k < w.heap.size := (Array.getElem?_eq_some_iff.1 h).1

/-- A cell of a block that is known. -/
theorem cell_at {w : World} {b : Nat} {cs : Array Value} {t : TypeId} {fr : Nat × Nat} (h : w.heap[b]? = some (.cells cs t fr)) (i : Nat) :
    w.cell? ⟨b, i, none⟩ = cs[i]? := by simp [World.cell?, h]

theorem free_at {w : World} {b : Nat} {cs : Array Value} {t : TypeId} (h : w.heap[b]? = some (.cells cs t (0, 0))) (i : Nat) :
    w.frozen? ⟨b, i, none⟩ = false := by simp [World.frozen?, h]

theorem heap_setCell_at {w : World} {b : Nat} {cs : Array Value} {t : TypeId} {fr : Nat × Nat} (h : w.heap[b]? = some (.cells cs t fr)) (i : Nat) (v : Value) :
    (w.setCell ⟨b, i, none⟩ v).heap[b]? = some (.cells (cs.setIfInBounds i v) t fr) := by
  simp [World.setCell, Array.getElem?_modify, h]

theorem heap_setCell_ne {w : World} {b k : Nat} (h : k ≠ b) (i : Nat) (v : Value) : (w.setCell ⟨b, i, none⟩ v).heap[k]? = w.heap[k]? :=
  Below.heap_setCell _ _ _ _ h

theorem heap_new (w : World) (o : Obj) : (w.alloc o).heap[w.heap.size]? = some o := heap_alloc_new w o

theorem heap_old {w : World} {k : Nat} {x : Obj} (h : w.heap[k]? = some x) (o : Obj) : (w.alloc o).heap[k]? = some x :=
  (Below.heap_alloc _ _ _ (heap_lt h)).trans h

theorem Keeps.cell {S : Nat → Prop} {w w' : World} (h : Keeps S w w') {p : Addr} {v : Value} (hp : w.cell? p = some v) (hs : S p.block) : w'.cell? p = some v :=
  (World.cell?_of_block (w := w) (h.block p.block (World.block_lt_of_cell? w p hp) hs)).trans hp

/-- The slice value v reads as the cells xs (one cell an element). -/
def SliceAt (w : World) (v : Value) (xs : List Value) : Prop :=
  ∃ a c, v = .slice a xs.length c ∧ xs.length ≤ c ∧ c ≤ maxLen ∧
    (xs = [] ∨ ∃ b off cur e fr, a = some ⟨b, off, none⟩ ∧ w.heap[b]? = some (.cells cur e fr) ∧ ∀ i x, xs[i]? = some x → cur[off + i]? = some x)

/-- The block of a slice that is not empty. -/
def live : Value → Option Nat
  | .slice (some a) (_ + 1) _ => some a.block
  | _ => none

theorem SliceAt.keep {S : Nat → Prop} {w w' : World} {v : Value} {xs : List Value} (h : SliceAt w v xs) (k : Keeps S w w') (hs : ∀ b, live v = some b → S b) : SliceAt w' v xs := by
  obtain ⟨a, c, rfl, h1, h2, h3⟩ := h
  refine ⟨a, c, rfl, h1, h2, ?_⟩
  rcases h3 with h3 | ⟨b, off, cur, e, fr, rfl, h4, h5⟩
  · exact .inl h3
  · cases xs with
    | nil => exact .inl rfl
    | cons x xs => exact .inr ⟨b, off, cur, e, fr, rfl, k.at h4 (hs b rfl), h5⟩

theorem SliceAt.lt {w : World} {v : Value} {xs : List Value} (h : SliceAt w v xs) : ∀ b, live v = some b → b < w.heap.size := by
  obtain ⟨a, c, rfl, h1, h2, h3⟩ := h
  intro b hb
  rcases h3 with rfl | ⟨b', off, cur, e, fr, rfl, h4, h5⟩
  · cases a <;> simp [live] at hb
  · cases xs with
    | nil => simp [live] at hb
    | cons x xs => simp [live] at hb; subst hb; exact heap_lt h4

theorem SliceAt.same {w w' : World} {v : Value} {xs : List Value} (h : SliceAt w v xs) (k : Same w w') : SliceAt w' v xs := h.keep k fun _ _ => trivial

def InI64 (x : Int) : Prop := -9223372036854775808 ≤ x ∧ x ≤ 9223372036854775807

/-- The slice value v reads as the ints l. -/
def IntsAt (w : World) (v : Value) (l : List Int) : Prop := SliceAt w v (l.map (Value.int .i64)) ∧ ∀ x ∈ l, InI64 x

theorem IntsAt.keep {S : Nat → Prop} {w w' : World} {v : Value} {l : List Int} (h : IntsAt w v l) (k : Keeps S w w') (hs : ∀ b, live v = some b → S b) : IntsAt w' v l := ⟨h.1.keep k hs, h.2⟩
theorem IntsAt.same {w w' : World} {v : Value} {l : List Int} (h : IntsAt w v l) (k : Same w w') : IntsAt w' v l := ⟨h.1.same k, h.2⟩

theorem IntsAt.lt {w : World} {v : Value} {l : List Int} (h : IntsAt w v l) : ∀ b, live v = some b → b < w.heap.size := h.1.lt

/-- A block whose cells are known is a slice. -/
theorem ints_of_block {w : World} {b : Nat} {cs : Array Value} {t : TypeId} {fr : Nat × Nat} (h : w.heap[b]? = some (.cells cs t fr)) (l : List Int) (e : cs.toList = l.map (Value.int .i64)) (hl : ∀ x ∈ l, InI64 x) {n c : Nat} (hn : n = l.length) (hc : n ≤ c) (hm : c ≤ maxLen) :
    IntsAt w (.slice (some ⟨b, 0, none⟩) n c) l := by
  subst hn
  refine ⟨⟨_, c, by simp, by simpa using hc, hm, .inr ⟨b, 0, cs, t, fr, rfl, h, fun i x hx => ?_⟩⟩, hl⟩
  rw [← e] at hx
  simpa using hx

/-- An IntsAt opened: the slice's address, its capacity; a cell for each index. -/
theorem IntsAt.open {w : World} {v : Value} {l : List Int} (h : IntsAt w v l) : ∃ a c, v = .slice a l.length c ∧ l.length ≤ c ∧ c ≤ maxLen ∧
    (∀ k (_ : k < l.length), ∃ b off, a = some ⟨b, off, none⟩ ∧ b < w.heap.size ∧ ∀ i (hi : i < l.length), w.cell? ⟨b, off + i, none⟩ = some (.int .i64 (l[i]))) := by
  obtain ⟨⟨a, c, rfl, h1, h2, h3⟩, h4⟩ := h
  simp only [List.length_map] at *
  refine ⟨a, c, rfl, h1, h2, fun k hk => ?_⟩
  rcases h3 with h3 | ⟨b, off, cur, e, fr, rfl, h5, h6⟩
  · simp at h3; subst h3; simp at hk
  · refine ⟨b, off, rfl, heap_lt h5, fun i hi => ?_⟩
    rw [cell_at h5]
    exact h6 i _ (by simp [hi])

/-- 's = append(s, x)', s the call's own, an element of one cell. -/
theorem append_one {P : Program} (w : World) (t ty e : TypeId) {z : Value} {bytes : Nat} (ht : P.underlying t = some (.slice e)) (hi : (P.info? e).map (fun i => (i.zero, i.size, i.bytes)) = some (some z, 1, bytes))
    (hzs : z.cells.size = 1) {base : Nat} {v : Value} {n : Nat} {xs : List Value} (hown : w.ownsRow base e 1 v n xs) (hbase : base ≤ w.heap.size) (x : Value) (hx : x.oneCell' = true) (hn : n + 1 ≤ 2199023255552) (hby : bytes ≤ 16) :
    ∃ g cap w', (Builtin.append_ #[t, t] ty #[v, .slice (some ⟨w.heap.size, 0, none⟩) 1 1]).run P (w.alloc (.cells #[x] e)) = .ok (.slice (some ⟨g, 0, none⟩) (n + 1) cap) w' ∧
      w'.ownsRow base e 1 (.slice (some ⟨g, 0, none⟩) (n + 1) cap) (n + 1) (xs ++ [x]) ∧ Keeps (fun b => v.ownBlock ≠ some b) w w' ∧ (v.ownBlock = some g ∨ w.heap.size ≤ g) ∧ g < w'.heap.size := by
  obtain ⟨i0, hi0, hz0, hz1, hz2⟩ := info_parts hi
  have hb : (n + 1) * bytes ≤ 140737488355328 := Nat.le_trans (Nat.mul_le_mul hn hby) (by omega)
  obtain ⟨g, cap, w', h1, h2, h3, h4, h5⟩ := run_append_lies (P := P) _ t ty base e i0 z 1 bytes ht hi0 hz0 hz1 hz2 hzs (by decide) v n xs (hown.alloc (.cells #[x] e))
    ⟨w.heap.size, 0, none⟩ 1 1 [x] rfl (World.news_of_block (cs := #[x]) (heap_new w (.cells #[x] e))) (by simp [hx]) (by decide) (by unfold maxLen; omega) hb (by simp; omega) (w.heap.size + 1) (by simp)
  refine ⟨g, cap, w', h1, h2, ((Keeps.refl _ w).alloc _).grown h3 (by intro k hk hh; exact hh.2 hk), ?_, h5⟩
  rcases h4 with h4 | h4
  · exact .inl h4
  · exact .inr (by omega)

/-- An append whose run is known. -/
theorem wpList_append_run {P : Program} {ops : Array Oper} {rest : List Oper} {o : Oper} {a : Act} {w w' : World} {Q : Exit → Act → World → Prop} {v xv r : Value} (hgd : o.guard = none) (s x : Operand) (t : TypeId)
    (ho : o.op = .call { callee := .builtin .append, args := #[s, x], argTypes := #[t, t] }) (hs : a.eval s = v) (hx : a.eval x = xv)
    (hr : (Builtin.append_ #[t, t] o.type #[v, xv]).run P w = .ok r w') (h : wpList P ops Q rest (a.put o.dst r) w') : wpList P ops Q (o :: rest) a w :=
  wpList_plain hgd fun K hK => by
    unfold Oper.wp execOp
    simp only [ho, resolve, invoke, builtin, Sem.run_bind, Sem.run_pure, Result.andThen_ok, List.map_toArray, List.map_cons, List.map_nil, hs, hx, hr]
    exact hK _ _ h

theorem cell_alloc {w : World} {p : Addr} {v : Value} (h : w.cell? p = some v) (o : Obj) : (w.alloc o).cell? p = some v :=
  Keeps.cell ((Keeps.refl (fun _ => True) w).alloc o) h trivial

theorem cell_new (w : World) (cs : Array Value) (t : TypeId) (i : Nat) : (w.alloc (.cells cs t)).cell? ⟨w.heap.size, i, none⟩ = cs[i]? := cell_at (heap_new w _) i

theorem ret_bool {a b : Bool} (h : a = b) : Ending.returned (.bool a) = .returned (.bool b) := by rw [h]
theorem ret_int {k : IntKind} {a b : Int} (h : a = b) : Ending.returned (.int k a) = .returned (.int k b) := by rw [h]

end Go.Proofs.Ytohhjdadhdibfaa
