/- An append of a whole slice; the walks of word.Trim, sibylref11.Trim. -/
import Derived.Deep.Upon
import Derived.Laws.OwnMore
import Derived.Maps.AppendAt
import Derived.Test.YtgpgbkoaopfjkaaDec
namespace Go.Proofs.Ytgpgbkoaopfjkaa
open Go.RowKit

variable {R : Ending → World → Prop} {w : World}

theorem IntsAt.take {v : Value} {l : List Int} (h : IntsAt w v l) (k : Nat) (hk : k ≤ l.length) : ∃ a c, v = .slice a l.length c ∧ IntsAt w (.slice a k c) (l.take k) := by
  obtain ⟨⟨a, c, rfl, h1, h2, h3⟩, h4⟩ := h
  simp only [List.length_map] at *
  refine ⟨a, c, rfl, ⟨a, c, by simp [Nat.min_eq_left hk], by simp; omega, h2, ?_⟩, fun x hx => h4 x (List.mem_of_mem_take hx)⟩
  rcases h3 with h3 | ⟨b, off, cur, e, fr, rfl, h5, h6⟩
  · left; simp at h3; simp [h3]
  · refine .inr ⟨b, off, cur, e, fr, rfl, h5, fun i x hx => h6 i x ?_⟩
    rw [List.map_take, List.getElem?_take] at hx
    split at hx
    · exact hx
    · cases hx

/-- 'append(s, u...)', s the call's own. -/
theorem append_more {B : Nat} {v u : Value} {l m : List Int} (hown : OwnInts w B v l) (hu : IntsAt w u m) (hB : B ≤ w.heap.size) (hn : l.length + m.length ≤ 2199023255552) :
    ∃ v' w', (Builtin.append_ #[42, 42] 42 #[v, u]).run Try.prog w = .ok v' w' ∧ OwnInts w' B v' (l ++ m) ∧ Keeps (fun b => v.ownBlock ≠ some b) w w' ∧ (v'.ownBlock = v.ownBlock ∨ v'.ownBlock = some w.heap.size) := by
  obtain ⟨i0, hi0, hz0, hz1, hz2⟩ := info_parts int_info
  obtain ⟨⟨a, c, rfl, h1, h2, h3⟩, h4⟩ := hu
  simp only [List.length_map] at *
  rcases m with _ | ⟨x, m⟩
  · refine ⟨v, w, ?_, by simpa using hown, Keeps.refl _ _, .inl rfl⟩
    rcases hown.2 with ⟨rfl, h0⟩ | ⟨g, cap, cur, rfl, _, _, hnc, _⟩
    · cases a <;> simp [Builtin.append_, run_underlying Try.underlying42, sizeOf, typeInfo, hi0, Builtin.lenOf, Builtin.firstCells, loadCells, loadCellsFrom]
    · cases a <;> simp [Builtin.append_, run_underlying Try.underlying42, sizeOf, typeInfo, hi0, Builtin.lenOf, Builtin.firstCells, loadCells, loadCellsFrom, hnc, storeCells]
  · rcases h3 with h3 | ⟨b, off, cur, e, fr, rfl, h5, h6⟩
    · simp at h3
    · obtain ⟨v', w', hr, ho, hg, _, hat⟩ := run_append_own_at (P := Try.prog) w B 42 42 3 i0 _ 1 8 Try.underlying42 hi0 hz0 hz1 hz2 rfl (by decide) v l.length (l.map (Value.int .i64)) hown ⟨b, off, none⟩ (x :: m).length c ((x :: m).map (Value.int .i64))
        (by simp) (fun j u hj => by
          have := h6 j u hj
          unfold Addr.add
          split
          · rename_i e0; subst e0; rw [cell_at h5]; exact this
          · show w.cell? ⟨b, off + j, none⟩ = _; rw [cell_at h5]; exact this) (by intro u hu; obtain ⟨y, _, rfl⟩ := List.mem_map.1 hu; rfl) (by unfold maxLen; omega) (by omega) hB
      refine ⟨v', w', hr, ?_, (Keeps.refl _ w).grown hg (fun k hk hh => hh.2 hk), hat⟩
      unfold OwnInts
      simpa using ho

/-- A new slice of no ints. -/
theorem own_empty (w : World) {B : Nat} (hB : B ≤ w.heap.size) : OwnInts (w.alloc (.cells #[] 3)) B (.slice (some ⟨w.heap.size, 0, none⟩) 0 0) [] := by
  have := World.ownsRow_lit (base := B) (e := 3) (size := 1) w #[] 0 hB (Nat.zero_le _) rfl
  exact this

/-- Without the noughts at the end. -/
def trim (l : List Int) : List Int := (l.reverse.dropWhile (· == 0)).reverse

theorem trim_zero (l : List Int) : trim (l ++ [0]) = trim l := by simp [trim]
theorem trim_end (l : List Int) {x : Int} (h : x ≠ 0) : trim (l ++ [x]) = l ++ [x] := by simp [trim, h]

/-- 'append([]int{}, u...)'. -/
theorem copied {wr : World} {u : Value} {m : List Int} (hu : IntsAt w u m) (hK : Same w wr) (hn : m.length ≤ 2199023255552) :
    ∃ v' w', (Builtin.append_ #[42, 42] 42 #[.slice (some ⟨wr.heap.size, 0, none⟩) 0 0, u]).run Try.prog (wr.alloc (.cells #[] 3)) = .ok v' w' ∧ Hid (OwnInts w' w.heap.size v' m ∧ Same w w') := by
  obtain ⟨v', w', hr, ho, hk, _⟩ := append_more (own_empty wr hK.size) (hu.same (hK.alloc (.cells #[] 3))) (hK.alloc (.cells #[] 3)).size (by simpa using hn)
  refine ⟨v', w', hr, ⟨by simpa using ho, (hK.alloc (.cells #[] 3)).trans hk fun x hx _ => ⟨trivial, ?_⟩⟩⟩
  have := hK.size
  simp [Value.ownBlock]; omega

end Go.Proofs.Ytgpgbkoaopfjkaa
