/- slices.Sort, slices.Compact over a slice of the call's own; the walk of Store.Leaves. -/
import Derived.Sort.OwnSortedInts
import Derived.Test.YtohhjdadhdibfaaShelf
import Derived.Test.YtohhjdadhdibfaaPkA
namespace Go.Proofs.Ytohhjdadhdibfaa
open Go.RowKit Go.Sort

variable {R : Ending → World → Prop} {w : World} {a T : Nat} {L : List Nd}

def leI (x y : Int) : Bool := decide (x ≤ y)

theorem own_holds {B g c : Nat} {l : List Int} (h : OwnInts w B (.slice (some ⟨g, 0, none⟩) l.length c) l) : Holds (Value.int .i64) w g 0 l.toArray ∧ g < w.heap.size := by
  rcases h with ⟨h0, ⟨h1, _⟩ | ⟨g', cap, cur, e1, hB, hg, q1, q2, q3, q4⟩⟩
  · cases h1
  · simp only [Value.slice.injEq, Option.some.injEq, Addr.mk.injEq, and_true, true_and] at e1
    obtain ⟨rfl, rfl⟩ := e1
    refine ⟨fun j hj => ?_, heap_lt hg⟩
    have hj' : j < l.length := by simpa using hj
    refine ⟨?_, free_at hg _⟩
    rw [cell_at hg]
    have : (cur.toList.take (l.length * 1))[j]? = some (.int .i64 l[j]) := by rw [q4]; simp [hj']
    rw [List.getElem?_take, if_pos (by omega)] at this
    simpa [hj'] using this

theorem sortInts {B : Nat} {v : Value} {l : List Int} (h : OwnInts w B v l) (hl : l.length ≤ 1000000)
    (hR : ∀ e w', e = .returned (.tuple #[]) → OwnInts w' B v (l.mergeSort leI) → Keeps (fun b => v.ownBlock ≠ some b) w w' → R e w') :
    Calls Try.prog 74 #[v] w R := by
  obtain ⟨s, c, rfl⟩ := h.shape
  have hlen : (l.mergeSort leI).length = l.length := List.length_mergeSort ..
  by_cases h0 : l = []
  · subst h0
    refine (Try.slices_Sort_int_none s c w).mono ?_
    rintro e w' ⟨rfl, rfl⟩
    exact hR _ _ rfl (by simpa using h) (Keeps.refl _ _)
  · rcases id h with ⟨h1, ⟨h2, h3⟩ | ⟨g, cap, cur, e1, hB, hg, q1, q2, q3, q4⟩⟩
    · exact absurd (List.eq_nil_of_length_eq_zero h3) h0
    · simp only [Value.slice.injEq, true_and] at e1
      obtain ⟨rfl, rfl⟩ := e1
      obtain ⟨hH, hlt⟩ := own_holds h
      refine (Try.slices_Sort_int g 0 c l w hH hlt (by omega)).mono ?_
      rintro e w' ⟨rfl, n, os, rfl⟩
      refine hR _ _ rfl ?_ ((Keeps.refl _ w).grown (Go.grownBy_sortedI (w := w) (n := n) (os := os) _) (fun k hk hh => hh.2 (by simpa [Value.ownBlock] using hk)))
      have := Go.ownsRow_sortedI (w := w) (n := n) (os := os) (base := B) (cap := c) (e := 3) (ss := l) (ts := l.mergeSort leI) hlen hB hg q1 q2 q3
      unfold OwnInts
      rw [hlen]
      exact this

theorem compactInts {B : Nat} {v : Value} {l : List Int} (h : OwnInts w B v l) (hl : l.length ≤ 1000000)
    (hR : ∀ e w' s c, e = .returned (.slice s (Lib.compact l).length c) → Keeps (fun b => v.ownBlock ≠ some b) w w' → R e w') :
    Calls Try.prog 75 #[v] w R := by
  obtain ⟨s, c, rfl⟩ := h.shape
  by_cases h0 : l = []
  · subst h0
    refine (Try.slices_Compact_int_empty s c w).mono ?_
    rintro e w' ⟨rfl, rfl⟩
    exact hR _ _ s c rfl (Keeps.refl _ _)
  · rcases id h with ⟨h1, ⟨h2, h3⟩ | ⟨g, cap, cur, e1, hB, hg, q1, q2, q3, q4⟩⟩
    · exact absurd (List.eq_nil_of_length_eq_zero h3) h0
    · simp only [Value.slice.injEq, true_and] at e1
      obtain ⟨rfl, rfl⟩ := e1
      obtain ⟨hH, hlt⟩ := own_holds h
      refine (Try.slices_Compact_int g 0 c l w hH (by omega) q1).mono ?_
      rintro e w' ⟨rfl, q, rfl⟩
      refine hR _ _ _ c rfl ((Keeps.refl _ w).grown (row := some g) ?_ (fun k hk hh => hh.2 (by simpa [Value.ownBlock] using hk)))
      have := Go.grownBy_sortedI (w := w) (g := g) (n := q) (os := #[]) (Lib.compact l ++ List.replicate (l.length - (Lib.compact l).length) 0).toArray
      simpa using this

theorem storeLeaves (h : StoreAt w a T L) (i : Int) (hR : ∀ e w' s c, e = .returned (.slice s (Lib.compact ((rowA T L i).mergeSort leI)).length c) → Same w w' → R e w') :
    Calls Try.prog 35 #[.pointer (some ⟨a, 0, none⟩), .int .i64 i] w R := by
  have HR := hide hR
  clear hR
  have h64 : (rowA T L i).length ≤ 64 := by
    unfold rowA
    split
    · have := two_le h.wf.six; simpa using this
    · simp
  have H64 := hide h64
  go_enter Try.func35, Try.ntmps35
  go_wp2_with fail
  refine storeRow h i ?_; rintro e w1 v1 rfl o1 k1
  obtain ⟨s1, c1, rfl⟩ := o1.shape
  have O1 := hide o1
  have K1 := hide k1
  clear o1 k1
  go_wp2_with fail
  refine sortInts O1.out (by have := H64.out; omega) ?_; rintro e w2 rfl o2 k2
  have hlen : ((rowA T L i).mergeSort leI).length = (rowA T L i).length := List.length_mergeSort ..
  have O2 := hide o2
  have K2 : Hid (Same w w2) := hide (K1.out.trans k2 fun x hx _ => ⟨trivial, fun e => by have := (ownsRow_block O1.out e).1; omega⟩)
  clear o2 k2
  go_wp2_with fail
  refine compactInts O2.out (by rw [hlen]; have := H64.out; omega) ?_; rintro e w3 s3 c3 rfl k3
  have HF := hide (HR.out _ w3 s3 c3 rfl (K2.out.trans k3 fun x hx _ => ⟨trivial, fun e => by have := (ownsRow_block O2.out e).1; omega⟩))
  clear k3
  go_wp2_with fail
  exact HF.out

end Go.Proofs.Ytohhjdadhdibfaa
