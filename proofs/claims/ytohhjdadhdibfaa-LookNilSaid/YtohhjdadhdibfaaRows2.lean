/- Rows of ints in memory. -/
import Derived.Test.YtohhjdadhdibfaaChecked
import Derived.Test.YtohhjdadhdibfaaOrd
import Derived.Test.YtohhjdadhdibfaaBits
namespace Go.Proofs.Ytohhjdadhdibfaa
open Go.RowKit

/-- The slice value v reads as rows of ints. -/
def RowsAt (w : World) (v : Value) (ls : List (List Int)) : Prop :=
  ∃ vs : List Value, SliceAt w v vs ∧ vs.length = ls.length ∧ ∀ (i : Nat) (u : Value) (l : List Int), vs[i]? = some u → ls[i]? = some l → IntsAt w u l

theorem IntsAt.old {w w' : World} {v : Value} {l : List Int} (h : IntsAt w v l) (k : Keeps (· < w.heap.size) w w') : IntsAt w' v l := h.keep k h.lt

theorem RowsAt.old {w w' : World} {v : Value} {ls : List (List Int)} (h : RowsAt w v ls) (k : Keeps (· < w.heap.size) w w') : RowsAt w' v ls := by
  obtain ⟨vs, h1, h2, h3⟩ := h
  exact ⟨vs, h1.keep k h1.lt, h2, fun i u l hu hl => (h3 i u l hu hl).old k⟩

theorem RowsAt.same {w w' : World} {v : Value} {ls : List (List Int)} (h : RowsAt w v ls) (k : Same w w') : RowsAt w' v ls := h.old (k.mono fun _ _ _ => trivial)

theorem RowsAt.open {w : World} {v : Value} {ls : List (List Int)} (h : RowsAt w v ls) : ∃ a c, v = .slice a ls.length c ∧ ls.length ≤ c ∧ c ≤ maxLen ∧
    (∀ k (_ : k < ls.length), ∃ b off, a = some ⟨b, off, none⟩ ∧ b < w.heap.size ∧ ∀ i (hi : i < ls.length), ∃ u, w.cell? ⟨b, off + i, none⟩ = some u ∧ IntsAt w u ls[i]) := by
  obtain ⟨vs, ⟨a, c, rfl, h1, h2, h3⟩, h4, h5⟩ := h
  refine ⟨a, c, by rw [h4], by omega, h2, fun k hk => ?_⟩
  rcases h3 with rfl | ⟨b, off, cur, e, fr, rfl, h6, h7⟩
  · simp at h4; omega
  · refine ⟨b, off, rfl, heap_lt h6, fun i hi => ?_⟩
    obtain ⟨u, hu⟩ : ∃ u, vs[i]? = some u := ⟨_, List.getElem?_eq_getElem (by omega)⟩
    exact ⟨u, (cell_at h6 _).trans (h7 i u hu), h5 i u _ hu (List.getElem?_eq_getElem hi)⟩


end Go.Proofs.Ytohhjdadhdibfaa
