/- The walk of word.Encode. -/
import Derived.Laws.MakeOwn
import Derived.OwnWalk
import Derived.Test.YtgpgbkoaopfjkaaMat
import Derived.Test.YtgpgbkoaopfjkaaPkA
namespace Go.Proofs.Ytgpgbkoaopfjkaa
open Go.RowKit

/-- The letters W of the rows: bit j of letter x, just if row j has x. -/
def Letters (ls : List (List Int)) (W : List Nat) : Prop :=
  (W.length : Int) = bnd ls.flatten ∧ (∀ y ∈ W, y < 64) ∧ ∀ (x j : Nat) (y : Nat), W[x]? = some y → (y.testBit j = true ↔ ∃ l, ls[j]? = some l ∧ (x : Int) ∈ l)

/-- So far: of the first i rows, and of row i's first k. -/
def Part (ls : List (List Int)) (i k : Nat) (W : List Nat) : Prop :=
  (W.length : Int) = bnd ls.flatten ∧ (∀ y ∈ W, y < 64) ∧ ∀ (x j : Nat) (y : Nat), W[x]? = some y → (y.testBit j = true ↔ (j < i ∧ ∃ l, ls[j]? = some l ∧ (x : Int) ∈ l) ∨ (j = i ∧ ∃ l, ls[i]? = some l ∧ (x : Int) ∈ l.take k))

theorem Part.start (ls : List (List Int)) {n : Nat} (hn : (n : Int) = bnd ls.flatten) : Part ls 0 0 (List.replicate n 0) := by
  refine ⟨by simpa using hn, fun y hy => ?_, fun x j y hy => ?_⟩
  · rw [List.eq_of_mem_replicate hy]; decide
  · rw [List.eq_of_mem_replicate (List.mem_of_getElem? hy)]; simp

theorem Part.row {ls : List (List Int)} {i k : Nat} {W : List Nat} {r : List Int} (h : Part ls i k W) (hr : ls[i]? = some r) (hk : r.length ≤ k) : Part ls (i + 1) 0 W := by
  refine ⟨h.1, h.2.1, fun x j y hy => ?_⟩
  rw [h.2.2 x j y hy]
  constructor
  · rintro (⟨h1, h2⟩ | ⟨rfl, l, h1, h2⟩)
    · exact .inl ⟨by omega, h2⟩
    · exact .inl ⟨by omega, l, h1, List.mem_of_mem_take h2⟩
  · rintro (⟨h1, l, h2, h3⟩ | ⟨_, l, _, h3⟩)
    · by_cases e : j = i
      · subst e
        rw [hr] at h2; obtain rfl := Option.some.inj h2
        exact .inr ⟨rfl, r, hr, by rw [List.take_of_length_le hk]; exact h3⟩
      · exact .inl ⟨by omega, l, h2, h3⟩
    · simp at h3

theorem Part.all {ls : List (List Int)} {i : Nat} {W : List Nat} (h : Part ls i 0 W) (hi : ls.length ≤ i) : Letters ls W := by
  refine ⟨h.1, h.2.1, fun x j y hy => ?_⟩
  rw [h.2.2 x j y hy]
  constructor
  · rintro (⟨_, h⟩ | ⟨_, l, _, h⟩)
    · exact h
    · simp at h
  · rintro ⟨l, h1, h2⟩
    exact .inl ⟨by have := (List.getElem?_eq_some_iff.1 h1).1; omega, l, h1, h2⟩

theorem Part.step {ls : List (List Int)} {i k : Nat} {W : List Nat} {r : List Int} {x : Nat} (h : Part ls i k W) (hi : i < 6) (hr : ls[i]? = some r) (hx : r[k]? = some (x : Int)) (hxl : x < W.length) :
    Part ls i (k + 1) (W.set x (W[x] ||| 2 ^ i)) := by
  refine ⟨by simpa using h.1, fun y hy => ?_, fun z j y hy => ?_⟩
  · rcases List.mem_or_eq_of_mem_set hy with hy | rfl
    · exact h.2.1 y hy
    · have h1 := h.2.1 W[x] (List.getElem_mem hxl)
      exact Nat.or_lt_two_pow (n := 6) h1 (Nat.pow_lt_pow_right (by decide) hi)
  · rw [List.getElem?_set] at hy
    have ht : ∀ z : Nat, (∃ l, ls[i]? = some l ∧ (z : Int) ∈ l.take (k + 1)) ↔ ((∃ l, ls[i]? = some l ∧ (z : Int) ∈ l.take k) ∨ z = x) := by
      intro z
      obtain ⟨hk, hkx⟩ := List.getElem?_eq_some_iff.1 hx
      constructor
      · rintro ⟨l, h1, h2⟩
        rw [hr] at h1; obtain rfl := Option.some.inj h1
        rw [List.take_succ_eq_append_getElem hk] at h2
        rcases List.mem_append.1 h2 with h2 | h2
        · exact .inl ⟨r, hr, h2⟩
        · simp [hkx] at h2; exact .inr (by exact_mod_cast h2)
      · rintro (⟨l, h1, h2⟩ | rfl)
        · rw [hr] at h1; obtain rfl := Option.some.inj h1
          exact ⟨r, hr, by rw [List.take_succ_eq_append_getElem hk]; exact List.mem_append_left _ h2⟩
        · exact ⟨r, hr, by rw [List.take_succ_eq_append_getElem hk, hkx]; simp⟩
    rw [ht z]
    split at hy
    · rename_i e
      subst e
      obtain rfl := Option.some.inj hy
      rw [Nat.testBit_or, Bool.or_eq_true, h.2.2 x j _ (List.getElem?_eq_getElem hxl), Nat.testBit_two_pow]
      simp only [decide_eq_true_eq]
      constructor
      · rintro ((h1 | ⟨e, h1⟩) | e)
        · exact .inl h1
        · exact .inr ⟨e, .inl h1⟩
        · exact .inr ⟨e.symm, .inr trivial⟩
      · rintro (h1 | ⟨e, h1 | h1⟩)
        · exact .inl (.inl h1)
        · exact .inl (.inr ⟨e, h1⟩)
        · exact .inr e.symm
    · rename_i e
      rw [h.2.2 z j _ hy]
      constructor
      · rintro (h1 | ⟨e, h1⟩)
        · exact .inl h1
        · exact .inr ⟨e, .inl h1⟩
      · rintro (h1 | ⟨e, h1 | h1⟩)
        · exact .inl h1
        · exact .inr ⟨e, h1⟩
        · exact absurd h1.symm ‹_›

variable {R : Ending → World → Prop} {w : World}

/-- The block b holds the letters. -/
def WordIn (w : World) (b : Nat) (W : List Nat) : Prop := w.heap[b]? = some (.cells (W.map fun y : Nat => Value.int .i64 (y : Int)).toArray 3 (0, 0))

theorem WordIn.cell {b : Nat} {W : List Nat} (h : WordIn w b W) (x : Nat) (hx : x < W.length) : w.cell? ⟨b, x, none⟩ = some (.int .i64 (W[x] : Nat)) ∧ w.frozen? ⟨b, x, none⟩ = false :=
  ⟨by rw [cell_at h]; simp [hx], free_at h _⟩

theorem WordIn.set {b : Nat} {W : List Nat} (h : WordIn w b W) (x : Nat) (y : Nat) : WordIn (w.setCell ⟨b, x, none⟩ (.int .i64 (y : Int))) b (W.set x y) := by
  unfold WordIn at *
  rw [heap_setCell_at h]
  simp [List.map_set]

theorem make_zero {n : Nat} : madeCells (Value.cells (.int .i64 0)) (n * 1) = ((List.replicate n 0).map fun y : Nat => Value.int .i64 (y : Int)).toArray := by
  apply Array.ext
  · simp [size_madeCells]
  · intro i h1 h2
    simp [madeCells, Value.cells, Nat.mod_one]

theorem WordIn.ints {b : Nat} {W : List Nat} (h : WordIn w b W) (h6 : ∀ y ∈ W, y < 64) {n c : Nat} (hn : n = W.length) (hc : n ≤ c) (hm : c ≤ maxLen) : IntsAt w (.slice (some ⟨b, 0, none⟩) n c) (W.map Int.ofNat) := by
  refine ints_of_block h _ ?_ ?_ (by simpa using hn) hc hm
  · simp
  · intro x hx
    obtain ⟨y, hy, rfl⟩ := List.mem_map.1 hx
    have := h6 y hy
    unfold InI64; simp; omega

end Go.Proofs.Ytgpgbkoaopfjkaa
