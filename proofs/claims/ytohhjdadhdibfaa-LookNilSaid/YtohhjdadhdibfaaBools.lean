/- Bools in memory. -/
import Derived.Test.YtohhjdadhdibfaaRows2
namespace Go.Proofs.Ytohhjdadhdibfaa
open Go.RowKit

/-- The slice value v reads as the bools l. -/
def BoolsAt (w : World) (v : Value) (l : List Bool) : Prop := SliceAt w v (l.map Value.bool)

theorem BoolsAt.same {w w' : World} {v : Value} {l : List Bool} (h : BoolsAt w v l) (k : Same w w') : BoolsAt w' v l := SliceAt.same h k

theorem BoolsAt.old {w w' : World} {v : Value} {l : List Bool} (h : BoolsAt w v l) (k : Keeps (· < w.heap.size) w w') : BoolsAt w' v l := SliceAt.keep h k (SliceAt.lt h)

theorem BoolsAt.open {w : World} {v : Value} {l : List Bool} (h : BoolsAt w v l) : ∃ a c, v = .slice a l.length c ∧ l.length ≤ c ∧ c ≤ maxLen ∧
    (∀ k (_ : k < l.length), ∃ b off, a = some ⟨b, off, none⟩ ∧ b < w.heap.size ∧ ∀ i (hi : i < l.length), w.cell? ⟨b, off + i, none⟩ = some (.bool (l[i]))) := by
  obtain ⟨a, c, rfl, h1, h2, h3⟩ := h
  simp only [List.length_map] at *
  refine ⟨a, c, rfl, h1, h2, fun k hk => ?_⟩
  rcases h3 with h3 | ⟨b, off, cur, e, fr, rfl, h5, h6⟩
  · simp at h3; subst h3; simp at hk
  · refine ⟨b, off, rfl, heap_lt h5, fun i hi => ?_⟩
    rw [cell_at h5]
    exact h6 i _ (by simp [hi])

end Go.Proofs.Ytohhjdadhdibfaa
