/- The walks of sibyllaw16.known, BddRows, BddOnce, BddMakes. -/
import Derived.Test.YtameihkcajceeaaLawOf
namespace Go.Proofs.Ytameihkcajceeaa
open Go.RowKit

variable {R : Ending → World → Prop} {w : World} {a T : Nat} {L : List Nd}

theorem known16 (hR : ∀ e w', e = .returned (.bool true) → Same w w' → R e w') : Calls Try.prog 50 #[] w R := by
  have HR := hide hR
  clear hR
  obtain ⟨B, hB⟩ : ∃ B, B = w.heap.size := ⟨_, rfl⟩
  have HB := hide hB
  clear hB
  go_enter Try.func50, Try.ntmps50
  go_wp2_with fail
  refine storeNew 1 (by decide) (by decide) ?_; rintro e w1 a rfl s1 k1 f1
  rw [← HB.out] at f1
  go_wp2_with fail
  have i2 := ints_of_block (heap_new w1 (.cells #[.int .i64 5, .int .i64 5] 3)) [5, 5] rfl (by simp [InI64]) (n := 2) (c := 2) rfl (Nat.le_refl _) (by decide)
  have s2 := s1.same ((Keeps.refl _ w1).alloc (.cells #[.int .i64 5, .int .i64 5] 3))
  have g2 := Grew.under s1 ((Keeps.refl _ w1).alloc (.cells #[.int .i64 5, .int .i64 5] 3))
  refine storeOfC s2 i2 (Apart.cells s2 (heap_new _ _) (by decide) (by decide)) (by decide) ?_; rintro e w3 rfl s3 g3
  rw [show (OfA (Int.toNat 1) [] [5, 5]).2 = 0 by decide]
  rw [show (OfA (Int.toNat 1) [] [5, 5]).1 = [.leaf 5] by decide] at s3
  go_wp2_with fail
  have i4 := ints_of_block (heap_new w3 (.cells #[.int .i64 5, .int .i64 7] 3)) [5, 7] rfl (by simp [InI64]) (n := 2) (c := 2) rfl (Nat.le_refl _) (by decide)
  have s4 := s3.same ((Keeps.refl _ w3).alloc (.cells #[.int .i64 5, .int .i64 7] 3))
  have g4 := Grew.under s3 ((Keeps.refl _ w3).alloc (.cells #[.int .i64 5, .int .i64 7] 3))
  refine storeOfC s4 i4 (Apart.cells s4 (heap_new _ _) (by decide) (by decide)) (by decide) ?_; rintro e w5 rfl s5 g5
  rw [show (OfA (Int.toNat 1) [.leaf 5] [5, 7]).2 = 2 by decide]
  rw [show (OfA (Int.toNat 1) [.leaf 5] [5, 7]).1 = [.leaf 5, .leaf 7, .fork 0 0 1] by decide] at s5
  go_wp2_with fail
  refine storeLen s5 ?_; rintro e rfl
  go_wp2_with fail
  refine storeNewNot 7 (by decide) ?_; rintro e rfl
  go_wp2_with fail
  have gg := ((g2.trans g3).trans g4).trans g5
  refine HR.out _ _ rfl (k1.trans (gg.below f1) fun x hx _ => ⟨trivial, by rw [HB.out]; exact hx⟩)

end Go.Proofs.Ytameihkcajceeaa
