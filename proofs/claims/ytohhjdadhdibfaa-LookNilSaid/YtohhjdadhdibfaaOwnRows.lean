/- Rows that the call owns, in a block that it owns. -/
import Derived.Laws.MakeOwn
import Derived.OwnWalk
import Derived.Test.YtohhjdadhdibfaaRows2
import Derived.Test.YtohhjdadhdibfaaRow
namespace Go.Proofs.Ytohhjdadhdibfaa
open Go.RowKit

variable {R : Ending → World → Prop} {w : World}

/-- The block b holds slices of ints, each the call's own (from B on), no two in one block. -/
structure OwnRows (w : World) (B b : Nat) (vs : List Value) (rows : List (List Int)) : Prop where
  blk : w.heap[b]? = some (.cells vs.toArray 40 (0, 0))
  low : B ≤ b
  len : vs.length = rows.length
  own : ∀ (j : Nat) (v : Value) (l : List Int), vs[j]? = some v → rows[j]? = some l → OwnInts w B v l
  apart : ∀ (j j' : Nat) (v v' : Value) (k : Nat), vs[j]? = some v → vs[j']? = some v' → v.ownBlock = some k → v'.ownBlock = some k → j = j'

theorem OwnInts.ne_block {B b : Nat} {v : Value} {l : List Int} (h : OwnInts w B v l) {cs : Array Value} {t : TypeId} {fr : Nat × Nat} (hb : w.heap[b]? = some (.cells cs t fr)) (ht : t ≠ 3) : v.ownBlock ≠ some b := by
  intro e
  rcases h.2 with ⟨rfl, h0⟩ | ⟨g, cap, cur, rfl, hg, hgb, rest⟩
  · simp [Value.ownBlock] at e
  · simp [Value.ownBlock] at e
    subst e
    rw [hb] at hgb
    simp at hgb
    exact ht hgb.2.1

theorem OwnInts.low {B : Nat} {v : Value} {l : List Int} (h : OwnInts w B v l) {g : Nat} (e : v.ownBlock = some g) : B ≤ g ∧ g < w.heap.size := h.lt g e

theorem OwnRows.make (w : World) {B n : Nat} (hB : B ≤ w.heap.size) : OwnRows (w.alloc (.cells (List.replicate n (.slice none 0 0)).toArray 40)) B w.heap.size (List.replicate n (.slice none 0 0)) (List.replicate n []) := by
  refine ⟨heap_new _ _, hB, by simp, fun j v l hv hl => ?_, fun j j' v v' k hv _ hk _ => ?_⟩
  · obtain rfl := List.eq_of_mem_replicate (List.mem_of_getElem? hv)
    obtain rfl := List.eq_of_mem_replicate (List.mem_of_getElem? hl)
    exact World.ownsRow_nil _ _ _ _
  · obtain rfl := List.eq_of_mem_replicate (List.mem_of_getElem? hv)
    simp [Value.ownBlock] at hk

/-- One number more at a row's end. -/
theorem OwnRows.push {B b : Nat} {vs : List Value} {rows : List (List Int)} (h : OwnRows w B b vs rows) (hB : B ≤ w.heap.size) {j : Nat} (hj : j < vs.length) {l : List Int} (hl : rows[j]? = some l) (hlen : l.length + 1 ≤ 2199023255552) (x : Int) :
    ∃ g cap w2, w.cell? ⟨b, j, none⟩ = some vs[j] ∧ (∃ s c, vs[j] = .slice s l.length c) ∧ (Builtin.append_ #[40, 40] 40 #[vs[j], .slice (some ⟨w.heap.size, 0, none⟩) 1 1]).run Try.prog (w.alloc (.cells #[.int .i64 x] 3)) = .ok (.slice (some ⟨g, 0, none⟩) (l.length + 1) cap) w2 ∧
      w2.frozen? ⟨b, j, none⟩ = false ∧ (∃ u, w2.cell? ⟨b, j, none⟩ = some u) ∧
      OwnRows (w2.setCell ⟨b, j, none⟩ (.slice (some ⟨g, 0, none⟩) (l.length + 1) cap)) B b (vs.set j (.slice (some ⟨g, 0, none⟩) (l.length + 1) cap)) (rows.set j (l ++ [x])) ∧
      Keeps (· < B) w (w2.setCell ⟨b, j, none⟩ (.slice (some ⟨g, 0, none⟩) (l.length + 1) cap)) := by
  have hvj : vs[j]? = some vs[j] := List.getElem?_eq_getElem hj
  have ho := h.own j _ _ hvj hl
  obtain ⟨g, cap, w2, hr, hown2, hk2, hg, hgs⟩ := append_one (P := Try.prog) w 40 40 3 Try.underlying40 int_info rfl ho hB (.int .i64 x) rfl (by simpa using hlen) (by decide)
  have hb2 : w2.heap[b]? = some (.cells vs.toArray 40 (0, 0)) := hk2.at h.blk (ho.ne_block h.blk (by decide))
  have hOg : w2.ownsRow B 3 1 (.slice (some ⟨g, 0, none⟩) (l.length + 1) cap) (l.length + 1) (l.map (Value.int .i64) ++ [.int .i64 x]) := by simpa using hown2
  have hOn : OwnInts w2 B (.slice (some ⟨g, 0, none⟩) (l.length + 1) cap) (l ++ [x]) := by
    unfold OwnInts; simpa using hOg
  have hgb : g ≠ b := by
    have := hOn.ne_block hb2 (by decide)
    simpa [Value.ownBlock] using this
  have hBg : B ≤ g := (hOn.low (g := g) (by simp [Value.ownBlock])).1
  have hset : ∀ k, k ≠ b → (w2.setCell ⟨b, j, none⟩ (.slice (some ⟨g, 0, none⟩) (l.length + 1) cap)).heap[k]? = w2.heap[k]? := fun k hk => heap_setCell_ne hk _ _
  have hlenj : j < rows.length := by rw [← h.len]; exact hj
  refine ⟨g, cap, w2, by rw [cell_at h.blk]; simp [hj], ?_, hr, free_at hb2 _, ⟨vs[j], by rw [cell_at hb2]; simp [hj]⟩, ⟨?_, h.low, by simp [h.len], ?_, ?_⟩, ?_⟩
  · rcases ho.2 with ⟨e, h0⟩ | ⟨g', cap', cur, e, _⟩
    · rw [e]; have : l.length = 0 := by simpa using h0
      exact ⟨none, 0, by rw [this]⟩
    · exact ⟨_, _, by rw [e]⟩
  · rw [heap_setCell_at hb2]; simp
  · intro i v l' hv hl'
    have hks : Keeps (· ≠ b) w2 (w2.setCell ⟨b, j, none⟩ (.slice (some ⟨g, 0, none⟩) (l.length + 1) cap)) := (Keeps.refl (· ≠ b) w2).setCell (fun hh => hh.2 rfl) _
    have hfin : ∀ {v : Value} {l' : List Int}, OwnInts w2 B v l' → OwnInts (w2.setCell ⟨b, j, none⟩ (.slice (some ⟨g, 0, none⟩) (l.length + 1) cap)) B v l' := fun hh => hh.keep hks fun k hk hkb => hh.ne_block hb2 (by decide) (hkb ▸ hk)
    rw [List.getElem?_set] at hv hl'
    by_cases e : j = i
    · subst e
      rw [if_pos rfl, if_pos hlenj] at hl'
      rw [if_pos rfl, if_pos hj] at hv
      obtain rfl := Option.some.inj hv
      obtain rfl := Option.some.inj hl'
      exact hfin hOn
    · rw [if_neg e] at hl' hv
      refine hfin ((h.own i v l' hv hl').keep hk2 fun k hk hkk => e ?_)
      exact h.apart j i _ _ k hvj hv hkk hk
  · intro i i' v v' k hv hv' hk hk'
    have hnew : ∀ {i : Nat} {v : Value}, i ≠ j → vs[i]? = some v → v.ownBlock ≠ some g := by
      intro i v hij hv hvg
      rcases hg with hg | hg
      · exact hij (h.apart i j _ _ g hv hvj hvg hg)
      · obtain ⟨l', hl'⟩ : ∃ l', rows[i]? = some l' := ⟨_, List.getElem?_eq_getElem (by rw [← h.len]; exact (List.getElem?_eq_some_iff.1 hv).1)⟩
        have := ((h.own i v l' hv hl').low hvg).2
        omega
    rw [List.getElem?_set] at hv hv'
    by_cases e : j = i
    · rw [if_pos e, if_pos hj] at hv
      obtain rfl := Option.some.inj hv
      by_cases e' : j = i'
      · omega
      · rw [if_neg e'] at hv'
        simp only [Value.ownBlock, Option.some.injEq] at hk
        subst hk
        exact absurd hk' (hnew (fun hh => e' hh.symm) hv')
    · rw [if_neg e] at hv
      by_cases e' : j = i'
      · rw [if_pos e', if_pos hj] at hv'
        obtain rfl := Option.some.inj hv'
        simp only [Value.ownBlock, Option.some.injEq] at hk'
        subst hk'
        exact absurd hk (hnew (fun hh => e hh.symm) hv)
      · rw [if_neg e'] at hv'
        exact h.apart i i' _ _ k hv hv' hk hk'
  · refine (hk2.mono (S' := (· < B)) fun x hx hxB hh => ?_).setCell (fun hh => by have := h.low; have : b < B := hh.2; omega) _
    have := (ho.low hh).1
    have : x < B := hxB
    omega

theorem ints_info : (Try.prog.info? 40).map (fun i => (i.zero, i.size, i.bytes)) = some (some (.slice none 0 0), 1, 24) := by kernel_rfl

theorem make_none {n : Nat} : madeCells (Value.cells (.slice none 0 0)) (n * 1) = (List.replicate n (Value.slice none 0 0)).toArray := by
  apply Array.ext
  · simp [size_madeCells]
  · intro i h1 h2
    simp [madeCells, Value.cells, Nat.mod_one]

/-- Rows that the call owns read as rows. -/
theorem OwnRows.rows {B b : Nat} {vs : List Value} {rows : List (List Int)} (h : OwnRows w B b vs rows) (hb : ∀ l ∈ rows, ∀ x ∈ l, InI64 x) {n : Nat} (hn : n = rows.length) (hm : n ≤ maxLen) : RowsAt w (.slice (some ⟨b, 0, none⟩) n n) rows := by
  subst hn
  refine ⟨vs, ⟨_, rows.length, by rw [h.len], by rw [h.len]; exact Nat.le_refl _, hm, .inr ⟨b, 0, _, _, _, rfl, h.blk, fun i x hx => by simpa using hx⟩⟩, h.len, fun i u l hu hl => ?_⟩
  exact (h.own i u l hu hl).ints (hb l (List.mem_of_getElem? hl))


end Go.Proofs.Ytohhjdadhdibfaa
