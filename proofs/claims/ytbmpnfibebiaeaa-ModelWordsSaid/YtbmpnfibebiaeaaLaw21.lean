/- The walks of sibyllaw21.may, of. -/
import Derived.Test.YtbmpnfibebiaeaaPkB
namespace Go.Proofs.Ytbmpnfibebiaeaa
open Go.RowKit

attribute [local irreducible] wpQuiet wpPlan wpPlanZ wpUp

variable {R : Ending → World → Prop} {w : World} {A : Au}


/-- One state, that accepts or not. -/
def oneC (b : Bool) : Au := ⟨0, [b], [[0]]⟩
theorem oneC_ok (b : Bool) : AuOk (oneC b) := by cases b <;> decide

/-- An automaton of one state, laid in memory. -/
theorem oneC_at (w : World) (b : Bool) : AutoAt (((w.alloc (.cells #[.bool b] 4)).alloc (.cells #[.int .i64 0] 3)).alloc (.cells #[.slice (some ⟨w.heap.size + 1, 0, none⟩) 1 1] 37)) (.agg #[.int .i64 0, .slice (some ⟨w.heap.size, 0, none⟩) 1 1, .slice (some ⟨w.heap.size + 1 + 1, 0, none⟩) 1 1]) (oneC b) ∧
    Same w (((w.alloc (.cells #[.bool b] 4)).alloc (.cells #[.int .i64 0] 3)).alloc (.cells #[.slice (some ⟨w.heap.size + 1, 0, none⟩) 1 1] 37)) := by
  have g0 := heap_new w (.cells #[.bool b] 4)
  have e0 : (w.alloc (.cells #[.bool b] 4)).heap.size = w.heap.size + 1 := by simp
  have k0 : Same w (w.alloc (.cells #[.bool b] 4)) := (Keeps.refl _ w).alloc _
  generalize w.alloc (.cells #[.bool b] 4) = w1 at g0 e0 k0 ⊢
  have g1 := heap_new w1 (.cells #[.int .i64 0] 3)
  rw [e0] at g1
  have e1 : (w1.alloc (.cells #[.int .i64 0] 3)).heap.size = w.heap.size + 1 + 1 := by simp [e0]
  have k1 : Same w1 (w1.alloc (.cells #[.int .i64 0] 3)) := (Keeps.refl _ w1).alloc _
  generalize w1.alloc (.cells #[.int .i64 0] 3) = w2 at g1 e1 k1 ⊢
  have g2 := heap_new w2 (.cells #[.slice (some ⟨w.heap.size + 1, 0, none⟩) 1 1] 37)
  rw [e1] at g2
  have k2 : Same w2 (w2.alloc (.cells #[.slice (some ⟨w.heap.size + 1, 0, none⟩) 1 1] 37)) := (Keeps.refl _ w2).alloc _
  generalize w2.alloc (.cells #[.slice (some ⟨w.heap.size + 1, 0, none⟩) 1 1] 37) = w3 at g2 k2 ⊢
  have h0 := (k1.tr k2).at g0 trivial
  have h1 := k2.at g1 trivial
  refine ⟨⟨_, _, rfl, ⟨_, 1, rfl, Nat.le_refl _, by decide, .inr ⟨_, 0, _, _, _, rfl, h0, fun i x hx => ?_⟩⟩, ⟨[.slice (some ⟨w.heap.size + 1, 0, none⟩) 1 1], ⟨_, 1, rfl, Nat.le_refl _, by decide, .inr ⟨_, 0, _, _, _, rfl, g2, fun i x hx => ?_⟩⟩, rfl, fun i u l hu hl => ?_⟩, by simp [oneC, InI64]⟩, k0.tr (k1.tr k2)⟩
  · simpa [oneC] using hx
  · simpa using hx
  · match i with
    | 0 =>
      simp [oneC] at hu hl; subst hu; subst hl
      exact ints_of_block h1 [0] rfl (by simp [InI64]) rfl (Nat.le_refl _) (by decide)
    | n + 1 => simp at hu

end Go.Proofs.Ytbmpnfibebiaeaa
