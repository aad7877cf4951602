/- The walk of sibylref15.Sorted. -/
import Derived.Test.YtbmpnfibebiaeaaSorted
namespace Go.Proofs.Ytbmpnfibebiaeaa
open Go.RowKit

attribute [local irreducible] wpQuiet

variable {R : Ending → World → Prop} {w : World}

theorem OwnInts.below {B B' : Nat} {v : Value} {l : List Int} (h : OwnInts w B v l) (hB : B' ≤ B) : OwnInts w B' v l := by
  refine ⟨h.1, ?_⟩
  rcases h.2 with h0 | ⟨g, cap, cur, e, hg, rest⟩
  · exact .inl h0
  · exact .inr ⟨g, cap, cur, e, Nat.le_trans hB hg, rest⟩

theorem IntsAt.drop {a : Option Addr} {n c : Nat} {l : List Int} (h : IntsAt w (.slice a n c) l) (k : Nat) (hk : k ≤ n) : IntsAt w (.slice (if c = k then a else a.map (·.add k)) (n - k) (c - k)) (l.drop k) := by
  obtain ⟨⟨a', c', e, h1, h2, h3⟩, h4⟩ := h
  simp only [Value.slice.injEq, List.length_map] at e
  obtain ⟨rfl, rfl, rfl⟩ := e
  simp only [List.length_map] at h1
  refine ⟨⟨if c = k then a else a.map (·.add k), c - k, by simp, by simp; omega, by omega, ?_⟩, fun x hx => h4 x (List.mem_of_mem_drop hx)⟩
  by_cases e : l.drop k = []
  · left; simp [e]
  · right
    rcases h3 with h3 | ⟨b, off, cur, ee, fr, rfl, h5, h6⟩
    · simp at h3; subst h3; simp at e
    · have hlt : k < l.length := by
        rcases Nat.lt_or_ge k l.length with h | h
        · exact h
        · exact absurd (List.drop_of_length_le h) e
      have hadd : (Addr.mk b off none).add k = ⟨b, off + k, none⟩ := by
        unfold Addr.add
        split
        · rename_i h0; subst h0; rfl
        · rfl
      refine ⟨b, off + k, cur, _, fr, by rw [if_neg (by omega)]; simp [hadd], h5, fun i x hx => ?_⟩
      rw [List.map_drop, List.getElem?_drop] at hx
      rw [Nat.add_assoc]
      exact h6 (k + i) x hx

end Go.Proofs.Ytbmpnfibebiaeaa
