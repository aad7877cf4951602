/- The walk of BddOfNothing. -/
import Derived.Test.YtameihkcajceeaaSortI
import Derived.Test.YtameihkcajceeaaLaw16
namespace Go.Proofs.Ytameihkcajceeaa
open Go.RowKit

attribute [local irreducible] wpQuiet

variable {R : Ending → World → Prop} {w : World}

theorem nilLen (hR : ∀ e, e = .returned (.int .i64 0) → R e w) : Calls Try.prog 47 #[.pointer none] w R := by
  have HR := hide hR
  clear hR
  go_enter Try.func47, Try.ntmps47
  go_wp2_with fail
  exact HR.out _ rfl

theorem nilTracks (hR : ∀ e, e = .returned (.int .i64 0) → R e w) : Calls Try.prog 55 #[.pointer none] w R := by
  have HR := hide hR
  clear hR
  go_enter Try.func55, Try.ntmps55
  go_wp2_with fail
  exact HR.out _ rfl

theorem nilIsC (i : Int) (hR : ∀ e, e = .returned (.bool false) → R e w) : Calls Try.prog 80 #[.pointer none, .int .i64 i] w R := by
  have HR := hide hR
  clear hR
  by_cases h : 0 ≤ i
  · go_enter Try.func80, Try.ntmps80
    go_wp2_with fail
    refine nilLen ?_; rintro e rfl
    have h2 : decide (i < 0) = false := by simp; omega
    go_wp2_with fail
    exact HR.out _ (ret_bool (by first | rfl | (simp; omega)))
  · go_enter Try.func80, Try.ntmps80
    go_wp2_with fail
    exact HR.out _ (ret_bool (by first | rfl | (simp; omega)))

theorem nilKids (i : Int) (hR : ∀ e, e = .returned (.tuple #[.int .i64 (-1), .int .i64 (-1)]) → R e w) : Calls Try.prog 51 #[.pointer none, .int .i64 i] w R := by
  have HR := hide hR
  clear hR
  go_enter Try.func51, Try.ntmps51
  go_wp2_with fail
  refine nilIsC i ?_; rintro e rfl
  go_wp2_with fail
  exact HR.out _ rfl

theorem nilLeaf (v : Int) (hR : ∀ e, e = .returned (.int .i64 (-1)) → R e w) : Calls Try.prog 52 #[.pointer none, .int .i64 v] w R := by
  have HR := hide hR
  clear hR
  go_enter Try.func52, Try.ntmps52
  go_wp2_with fail
  exact HR.out _ rfl

theorem nilMk (hR : ∀ e, e = .returned (.int .i64 (-1)) → R e w) : Calls Try.prog 53 #[.pointer none, .int .i64 0, .int .i64 0, .int .i64 0] w R := by
  have HR := hide hR
  clear hR
  go_enter Try.func53, Try.ntmps53
  go_wp2_with fail
  refine nilTracks ?_; rintro e rfl
  go_wp2_with fail
  exact HR.out _ rfl

theorem nilAt (i c : Int) (hR : ∀ e, e = .returned (.int .i64 (-1)) → R e w) : Calls Try.prog 54 #[.pointer none, .int .i64 i, .int .i64 c] w R := by
  have HR := hide hR
  clear hR
  go_enter Try.func54, Try.ntmps54
  go_wp2_with fail
  refine nilIsC i ?_; rintro e rfl
  go_wp2_with fail
  exact HR.out _ rfl

theorem nilTrack (i : Int) (hR : ∀ e, e = .returned (.int .i64 (-2)) → R e w) : Calls Try.prog 48 #[.pointer none, .int .i64 i] w R := by
  have HR := hide hR
  clear hR
  go_enter Try.func48, Try.ntmps48
  go_wp2_with fail
  refine nilIsC i ?_; rintro e rfl
  go_wp2_with fail
  exact HR.out _ rfl

theorem nilRow (i : Int) (hR : ∀ e, e = .returned (.slice none 0 0) → R e w) : Calls Try.prog 56 #[.pointer none, .int .i64 i] w R := by
  have HR := hide hR
  clear hR
  go_enter Try.func56, Try.ntmps56
  go_wp2_with fail
  refine nilIsC i ?_; rintro e rfl
  go_wp2_with fail
  exact HR.out _ rfl

theorem nilLeaves (i : Int) (hR : ∀ e, e = .returned (.slice none 0 0) → R e w) : Calls Try.prog 49 #[.pointer none, .int .i64 i] w R := by
  have HR := hide hR
  clear hR
  go_enter Try.func49, Try.ntmps49
  go_wp2_with fail
  refine nilRow i ?_; rintro e rfl
  go_wp2_with fail
  refine (Try.slices_Sort_int_none none 0 w).mono ?_; rintro e w1 ⟨rfl, rfl⟩
  go_wp2_with fail
  refine (Try.slices_Compact_int_empty none 0 w1).mono ?_; rintro e w2 ⟨rfl, rfl⟩
  go_wp2_with fail
  exact HR.out _ rfl

set_option maxRecDepth 10000 in
set_option maxHeartbeats 1000000 in
theorem bddOfNothingWalk (i c : Int) (w : World) (_ : InI64 i) (_ : InI64 c) :
    Calls Try.prog 14 #[.int .i64 i, .int .i64 c] w fun e w' => e = .returned (.bool true) ∧ Below w.heap.size w w' := by
  refine law_of fun R HR => ?_
  go_enter Try.func14, Try.ntmps14
  go_wp2_with fail
  refine nilKids i ?_; rintro e rfl
  go_wp2_with fail
  refine nilLeaf 1 ?_; rintro e rfl
  go_wp2_with fail
  refine nilMk ?_; rintro e rfl
  go_wp2_with fail
  have ka : Same w (w.alloc (.cells #[.int .i64 1] 3)) := (Keeps.refl _ w).alloc _
  generalize w.alloc (.cells #[.int .i64 1] 3) = w1 at ka ⊢
  refine storeOfNil _ ?_; rintro e rfl
  go_wp2_with fail
  refine nilAt i c ?_; rintro e rfl
  go_wp2_with fail
  refine nilTrack i ?_; rintro e rfl
  go_wp2_with fail
  refine nilLen ?_; rintro e rfl
  go_wp2_with fail
  refine nilTracks ?_; rintro e rfl
  go_wp2_with fail
  refine nilRow i ?_; rintro e rfl
  go_wp2_with fail
  refine nilLeaves i ?_; rintro e rfl
  go_wp2_with fail
  refine known16 ?_; rintro e w2 rfl k2
  go_wp2_with fail
  exact HR.out _ _ rfl ((ka.tr k2).mono fun _ _ _ => trivial)

end Go.Proofs.Ytameihkcajceeaa
