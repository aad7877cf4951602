/- The walks of meter.New, Spend, Left, Out. -/
import Derived.Test.YtohhjdadhdibfaaChecked
import Derived.Test.YtohhjdadhdibfaaPkA
namespace Go.Proofs.Ytohhjdadhdibfaa
open Go.RowKit

/-- A Meter at block a: what is left, is it out. -/
def MeterAt (w : World) (a : Nat) (n : Int) (b : Bool) : Prop := w.heap[a]? = some (.cells #[.int .i64 n, .bool b] 85 (0, 0))

theorem MeterAt.c0 {w : World} {a : Nat} {n : Int} {b : Bool} (h : MeterAt w a n b) : w.cell? ⟨a, 0, none⟩ = some (.int .i64 n) := cell_at h 0
theorem MeterAt.c1 {w : World} {a : Nat} {n : Int} {b : Bool} (h : MeterAt w a n b) : w.cell? ⟨a, 1, none⟩ = some (.bool b) := cell_at h 1

variable {R : Ending → World → Prop} {w : World}

theorem meterOutNil (hR : ∀ e, e = .returned (.bool true) → R e w) : Calls Try.prog 98 #[.pointer none] w R := by
  have HR := hide hR
  clear hR
  go_enter Try.func98, Try.ntmps98
  go_wp2
  exact HR.out _ rfl

theorem meterOut {a : Nat} {n : Int} {b : Bool} (h : MeterAt w a n b) (hR : ∀ e, e = .returned (.bool b) → R e w) :
    Calls Try.prog 98 #[.pointer (some ⟨a, 0, none⟩)] w R := by
  have HR := hide hR
  clear hR
  have c1 := h.c1
  clear h
  go_enter Try.func98, Try.ntmps98
  go_wp2
  exact HR.out _ rfl

theorem meterNew (n : Int) (hR : ∀ e w', e = .returned (.pointer (some ⟨w.heap.size, 0, none⟩)) → MeterAt w' w.heap.size (max n 0) false → Same w w' → R e w') :
    Calls Try.prog 23 #[.int .i64 n] w R := by
  have HR := hide hR
  clear hR
  go_enter Try.func23, Try.ntmps23
  go_wp2
  all_goals
    refine HR.out _ _ rfl ?_ ((Keeps.refl _ _).alloc _)
    have e := heap_new w
    first
      | (rw [show max n 0 = 0 by omega]; exact e _)
      | (rw [show max n 0 = n by omega]; exact e _)

theorem spendNil (k : Int) (hR : ∀ e, e = .returned (.bool false) → R e w) : Calls Try.prog 87 #[.pointer none, .int .i64 k] w R := by
  have HR := hide hR
  clear hR
  go_enter Try.func87, Try.ntmps87
  go_wp2_with (go_at_call 98; refine meterOutNil ?_; rintro e rfl)
  all_goals (exact HR.out _ rfl)

def spendOk (n k : Int) (b : Bool) : Bool := !b && decide (0 ≤ k) && decide (k ≤ n)
def spendLeft (n k : Int) (b : Bool) : Int := if b = true ∨ k < 0 then n else if k ≤ n then n - k else 0
def spendOut (n k : Int) (b : Bool) : Bool := b || (decide (0 ≤ k) && decide (n < k))

theorem spend {a : Nat} {n : Int} {b : Bool} (k : Int) (h : MeterAt w a n b) (hk2 : k ≤ 9223372036854775807) (hn : 0 ≤ n) (hn2 : n ≤ 9223372036854775807)
    (hR : ∀ e w', e = .returned (.bool (spendOk n k b)) → MeterAt w' a (spendLeft n k b) (spendOut n k b) → Keeps (· ≠ a) w w' → R e w') :
    Calls Try.prog 87 #[.pointer (some ⟨a, 0, none⟩), .int .i64 k] w R := by
  have HR := hide hR
  clear hR
  have c0 := h.c0
  have c1 := h.c1
  have f0 := free_at h 0
  have f1 := free_at h 1
  have H := hide h
  clear h
  by_cases h0 : k < 0
  · go_enter Try.func87, Try.ntmps87
    go_wp2
    refine HR.out _ _ (ret_bool ?_) ?_ (Keeps.refl _ _)
    · simp [spendOk]; omega
    · have := H.out; simpa [spendLeft, spendOut, h0, Int.not_le.2 h0] using this
  · cases b
    · by_cases h1 : n < k
      · go_enter Try.func87, Try.ntmps87
        go_wp2_with (go_at_call 98; refine meterOut H.out ?_; rintro e rfl)
        refine HR.out _ _ (ret_bool ?_) ?_ (((Keeps.refl _ _).setCell (by simp) _).setCell (by simp) _)
        · simp [spendOk]; omega
        · have := heap_setCell_at (heap_setCell_at H.out 0 (.int .i64 0)) 1 (.bool true)
          rw [show spendLeft n k false = 0 by unfold spendLeft; rw [if_neg (by simp; omega), if_neg (by omega)], show spendOut n k false = true by simp [spendOut]; omega]
          exact this
      · go_enter Try.func87, Try.ntmps87
        go_wp2_with (go_at_call 98; refine meterOut H.out ?_; rintro e rfl)
        refine HR.out _ _ (ret_bool ?_) ?_ ((Keeps.refl _ _).setCell (by simp) _)
        · simp [spendOk]; omega
        · have := heap_setCell_at H.out 0 (.int .i64 (n - k))
          rw [show spendLeft n k false = n - k by unfold spendLeft; rw [if_neg (by simp; omega), if_pos (by omega)], show spendOut n k false = false by simp [spendOut]; omega]
          exact this
    · go_enter Try.func87, Try.ntmps87
      go_wp2_with (go_at_call 98; refine meterOut H.out ?_; rintro e rfl)
      refine HR.out _ _ (ret_bool ?_) ?_ (Keeps.refl _ _)
      · simp [spendOk]
      · have := H.out; simpa [spendLeft, spendOut] using this

theorem spend_bounds {n k : Int} {b : Bool} (hn : 0 ≤ n) (hn2 : n ≤ 9223372036854775807) : 0 ≤ spendLeft n k b ∧ spendLeft n k b ≤ 9223372036854775807 := by
  unfold spendLeft; split
  · omega
  · split <;> omega

end Go.Proofs.Ytohhjdadhdibfaa
