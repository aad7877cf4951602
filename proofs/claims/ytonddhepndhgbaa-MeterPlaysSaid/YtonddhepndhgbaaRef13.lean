/- The walks of the reference's Meter and of sibyllaw13.known. -/
import Derived.Test.YtonddhepndhgbaaMeter
import Derived.Deep.RegionHeld3
namespace Go.Proofs.Ytonddhepndhgbaa
open Go.RowKit

def RMeterAt (w : World) (a : Nat) (n : Int) (b : Bool) : Prop := w.heap[a]? = some (.cells #[.int .i64 n, .bool b] 30 (0, 0))

theorem RMeterAt.c0 {w : World} {a : Nat} {n : Int} {b : Bool} (h : RMeterAt w a n b) : w.cell? ⟨a, 0, none⟩ = some (.int .i64 n) := cell_at h 0
theorem RMeterAt.c1 {w : World} {a : Nat} {n : Int} {b : Bool} (h : RMeterAt w a n b) : w.cell? ⟨a, 1, none⟩ = some (.bool b) := cell_at h 1

variable {R : Ending → World → Prop} {w : World}

theorem rmeterNew (n : Int) (hR : ∀ e w', e = .returned (.pointer (some ⟨w.heap.size, 0, none⟩)) → RMeterAt w' w.heap.size (max n 0) false → Same w w' → R e w') :
    Calls Try.prog 16 #[.int .i64 n] w R := by
  have HR := hide hR
  clear hR
  go_enter Try.func16, Try.ntmps16
  go_wp2
  all_goals
    refine HR.out _ _ rfl ?_ ((Keeps.refl _ _).alloc _)
    have e := heap_new w
    first
      | (rw [show max n 0 = 0 by omega]; exact e _)
      | (rw [show max n 0 = n by omega]; exact e _)

theorem rspend {a : Nat} {n : Int} {b : Bool} (k : Int) (h : RMeterAt w a n b) (hk2 : k ≤ 9223372036854775807) (hn : 0 ≤ n) (hn2 : n ≤ 9223372036854775807)
    (hR : ∀ e w', e = .returned (.bool (spendOk n k b)) → RMeterAt w' a (spendLeft n k b) (spendOut n k b) → Keeps (· ≠ a) w w' → R e w') :
    Calls Try.prog 18 #[.pointer (some ⟨a, 0, none⟩), .int .i64 k] w R := by
  have HR := hide hR
  clear hR
  have c0 := h.c0
  have c1 := h.c1
  have f0 := free_at h 0
  have f1 := free_at h 1
  have H := hide h
  clear h
  by_cases h0 : k < 0
  · go_enter Try.func18, Try.ntmps18
    go_wp2
    refine HR.out _ _ (ret_bool ?_) ?_ (Keeps.refl _ _)
    · simp [spendOk]; omega
    · have := H.out; simpa [spendLeft, spendOut, h0, Int.not_le.2 h0] using this
  · cases b
    · by_cases h1 : n < k
      · go_enter Try.func18, Try.ntmps18
        go_wp2
        refine HR.out _ _ (ret_bool ?_) ?_ (((Keeps.refl _ _).setCell (by simp) _).setCell (by simp) _)
        · simp [spendOk]; omega
        · have := heap_setCell_at (heap_setCell_at H.out 0 (.int .i64 0)) 1 (.bool true)
          rw [show spendLeft n k false = 0 by unfold spendLeft; rw [if_neg (by simp; omega), if_neg (by omega)], show spendOut n k false = true by simp [spendOut]; omega]
          exact this
      · go_enter Try.func18, Try.ntmps18
        go_wp2
        refine HR.out _ _ (ret_bool ?_) ?_ ((Keeps.refl _ _).setCell (by simp) _)
        · simp [spendOk]; omega
        · have := heap_setCell_at H.out 0 (.int .i64 (n - k))
          rw [show spendLeft n k false = n - k by unfold spendLeft; rw [if_neg (by simp; omega), if_pos (by omega)], show spendOut n k false = false by simp [spendOut]; omega]
          exact this
    · go_enter Try.func18, Try.ntmps18
      go_wp2
      refine HR.out _ _ (ret_bool ?_) ?_ (Keeps.refl _ _)
      · simp [spendOk]
      · have := H.out; simpa [spendLeft, spendOut] using this

theorem known13 (hR : ∀ e w', e = .returned (.bool true) → Same w w' → R e w') : Calls Try.prog 21 #[] w R := by
  have HR := hide hR
  clear hR
  go_enter Try.func21, Try.ntmps21
  go_wp2_with fail
  refine meterNew 3 ?_; rintro e w1 rfl m1 k1
  go_wp2_with fail
  refine spend 2 m1 (by decide) (by decide) (by decide) ?_; rintro e w2 rfl m2 k2
  simp only [show spendOk (max 3 0) 2 false = true by decide, show spendLeft (max 3 0) 2 false = 1 by decide, show spendOut (max 3 0) 2 false = false by decide] at m2 ⊢
  go_wp2_with fail
  refine spend 2 m2 (by decide) (by decide) (by decide) ?_; rintro e w3 rfl m3 k3
  simp only [show spendOk 1 2 false = false by decide, show spendLeft 1 2 false = 0 by decide, show spendOut 1 2 false = true by decide] at m3 ⊢
  go_wp2_with fail
  refine meterOut m3 ?_; rintro e rfl
  go_wp2_with fail
  refine meterLeft m3 ?_; rintro e rfl
  go_wp2_with fail
  refine spend 0 m3 (by decide) (by decide) (by decide) ?_; rintro e w4 rfl m4 k4
  simp only [show spendOk 0 0 true = false by decide] at ⊢
  go_wp2_with fail
  refine HR.out _ _ rfl (k1.trans ((k2.tr k3).tr k4) fun x hx _ => ⟨trivial, ?_⟩)
  omega

end Go.Proofs.Ytonddhepndhgbaa
