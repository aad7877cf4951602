/- The walks of sibyllaw11.long, known; what letters are. -/
import Derived.Test.YtbmpnfibebiaeaaSorted2
namespace Go.Proofs.Ytbmpnfibebiaeaa
open Go.RowKit

variable {R : Ending → World → Prop} {w : World}

/-- Letters are what they are. -/
theorem Letters.unique {ls : List (List Int)} {W W' : List Nat} (h : Letters ls W) (h' : Letters ls W') : W = W' := by
  have hl : W.length = W'.length := by have := h.1; have := h'.1; omega
  apply List.ext_getElem hl
  intro x h1 h2
  apply Nat.eq_of_testBit_eq
  intro j
  have a := h.2.2 x j _ (List.getElem?_eq_getElem h1)
  have b := h'.2.2 x j _ (List.getElem?_eq_getElem h2)
  rw [Bool.eq_iff_iff, a, b]

theorem letters_known : Letters [[0, 2], [1]] [1, 2, 1] := by
  refine ⟨by decide, by decide, fun x j y hy => ?_⟩
  have hx : x = 0 ∨ x = 1 ∨ x = 2 ∨ 3 ≤ x := by omega
  have hj : j = 0 ∨ j = 1 ∨ 2 ≤ j := by omega
  rcases hx with rfl | rfl | rfl | hx
  all_goals first | (simp at hy; subst hy) | (exfalso; rw [List.getElem?_eq_none (by simpa using hx)] at hy; cases hy)
  all_goals
    rcases hj with rfl | rfl | hj
    · first | (simp; done) | (simp; decide)
    · first | (simp; done) | (simp; decide)
    · rw [List.getElem?_eq_none (by simpa using hj)]
      simp
      first | (rw [Nat.testBit_lt_two_pow]; exact Nat.lt_of_lt_of_le (by decide) (Nat.pow_le_pow_right (by decide) hj)) | trivial

theorem RowsAt.lit {b g1 g2 : Nat} {l1 l2 : List Int} {c1 c2 : Nat} (h : w.heap[b]? = some (.cells #[.slice (some ⟨g1, 0, none⟩) l1.length c1, .slice (some ⟨g2, 0, none⟩) l2.length c2] 37 (0, 0))) (h1 : IntsAt w (.slice (some ⟨g1, 0, none⟩) l1.length c1) l1) (h2 : IntsAt w (.slice (some ⟨g2, 0, none⟩) l2.length c2) l2) :
    RowsAt w (.slice (some ⟨b, 0, none⟩) 2 2) [l1, l2] := by
  refine ⟨[.slice (some ⟨g1, 0, none⟩) l1.length c1, .slice (some ⟨g2, 0, none⟩) l2.length c2], ⟨_, 2, rfl, Nat.le_refl _, by decide, .inr ⟨b, 0, _, _, _, rfl, h, fun i x hx => ?_⟩⟩, rfl, fun i u l hu hl => ?_⟩
  · simpa using hx
  · match i with
    | 0 => simp at hu hl; subst hu; subst hl; exact h1
    | 1 => simp at hu hl; subst hu; subst hl; exact h2
    | n + 2 => simp at hu

end Go.Proofs.Ytbmpnfibebiaeaa
