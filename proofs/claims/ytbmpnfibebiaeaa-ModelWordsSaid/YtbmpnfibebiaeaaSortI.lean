/- slices.Sort, slices.Compact over a slice of the call's own; the walk of Store.Leaves. -/
import Derived.Sort.OwnSortedInts
import Derived.Test.YtbmpnfibebiaeaaShelf
import Derived.Test.YtbmpnfibebiaeaaPkA
namespace Go.Proofs.Ytbmpnfibebiaeaa
open Go.RowKit Go.Sort

variable {R : Ending → World → Prop} {w : World} {a T : Nat} {L : List Nd}

def leI (x y : Int) : Bool := decide (x ≤ y)

theorem own_holds {B g c : Nat} {l : List Int} (h : OwnInts w B (.slice (some ⟨g, 0, none⟩) l.length c) l) : Holds (Value.int .i64) w g 0 l.toArray ∧ g < w.heap.size := by
  rcases h with ⟨h0, ⟨h1, _⟩ | ⟨g', cap, cur, e1, hB, hg, q1, q2, q3, q4⟩⟩
  · cases h1
  · simp only [Value.slice.injEq, Option.some.injEq, Addr.mk.injEq, and_true, true_and] at e1
    obtain ⟨rfl, rfl⟩ := e1
    refine ⟨fun j hj => ?_, heap_lt hg⟩
    have hj' : j < l.length := by simpa using hj
    refine ⟨?_, free_at hg _⟩
    rw [cell_at hg]
    have : (cur.toList.take (l.length * 1))[j]? = some (.int .i64 l[j]) := by rw [q4]; simp [hj']
    rw [List.getElem?_take, if_pos (by omega)] at this
    simpa [hj'] using this

theorem sortInts {B : Nat} {v : Value} {l : List Int} (h : OwnInts w B v l) (hl : l.length ≤ 1000000)
    (hR : ∀ e w', e = .returned (.tuple #[]) → OwnInts w' B v (l.mergeSort leI) → Keeps (fun b => v.ownBlock ≠ some b) w w' → R e w') :
    Calls Try.prog 57 #[v] w R := by
  obtain ⟨s, c, rfl⟩ := h.shape
  have hlen : (l.mergeSort leI).length = l.length := List.length_mergeSort ..
  by_cases h0 : l = []
  · subst h0
    refine (Try.slices_Sort_int_none s c w).mono ?_
    rintro e w' ⟨rfl, rfl⟩
    exact hR _ _ rfl (by simpa using h) (Keeps.refl _ _)
  · rcases id h with ⟨h1, ⟨h2, h3⟩ | ⟨g, cap, cur, e1, hB, hg, q1, q2, q3, q4⟩⟩
    · exact absurd (List.eq_nil_of_length_eq_zero h3) h0
    · simp only [Value.slice.injEq, true_and] at e1
      obtain ⟨rfl, rfl⟩ := e1
      obtain ⟨hH, hlt⟩ := own_holds h
      refine (Try.slices_Sort_int g 0 c l w hH hlt (by omega)).mono ?_
      rintro e w' ⟨rfl, n, os, rfl⟩
      refine hR _ _ rfl ?_ ((Keeps.refl _ w).grown (Go.grownBy_sortedI (w := w) (n := n) (os := os) _) (fun k hk hh => hh.2 (by simpa [Value.ownBlock] using hk)))
      have := Go.ownsRow_sortedI (w := w) (n := n) (os := os) (base := B) (cap := c) (e := 3) (ss := l) (ts := l.mergeSort leI) hlen hB hg q1 q2 q3
      unfold OwnInts
      rw [hlen]
      exact this

end Go.Proofs.Ytbmpnfibebiaeaa
