/- The walks of look.Reach, look.Lengths of no automaton. -/
import Derived.Test.YtbmpnfibebiaeaaLook
namespace Go.Proofs.Ytbmpnfibebiaeaa
open Go.RowKit

attribute [local irreducible] wpQuiet wpPlan wpPlanZ wpUp

variable {R : Ending → World → Prop} {w : World} {A : Au}

theorem indexFuncNil (g : Value) (hR : ∀ e, e = .returned (.int .i64 (-1)) → R e w) :
    Calls Try.prog 35 #[.slice none 0 0, g] w R := by
  have HR := hide hR
  clear hR
  go_enter Try.func35, Try.ntmps35
  go_wp2_with fail
  go_loopw [8] (fun i wr => i = .int .i64 0 ∧ wr = w) (fun _ _ => 0)
  case atStart => exact ⟨rfl, rfl⟩
  case round =>
    obtain ⟨rfl, rfl⟩ := hrel
    go_wp2_with fail
    exact HR.out _ rfl

theorem containsFuncNil (g : Value) (hR : ∀ e, e = .returned (.bool false) → R e w) :
    Calls Try.prog 45 #[.slice none 0 0, g] w R := by
  have HR := hide hR
  clear hR
  go_enter Try.func45, Try.ntmps45
  go_wp2_with fail
  refine indexFuncNil _ ?_; rintro e rfl
  go_wp2_with fail
  exact HR.out _ rfl

theorem lookEmptyNil (hR : ∀ e w', e = .returned (.bool true) → Same w w' → R e w') :
    Calls Try.prog 32 #[.pointer none] w R := by
  have HR := hide hR
  clear hR
  go_enter Try.func32, Try.ntmps32
  go_wp2_with fail
  refine lookReachNil ?_; rintro e rfl
  go_wp2_with fail
  refine containsFuncNil _ ?_; rintro e rfl
  go_wp2_with fail
  exact HR.out _ _ rfl (Keeps.refl _ w)

theorem lookShortestNil (hR : ∀ e w', e = .returned (.tuple #[.slice none 0 0, .bool false]) → Same w w' → R e w') :
    Calls Try.prog 22 #[.pointer none] w R := by
  have HR := hide hR
  clear hR
  go_enter Try.func22, Try.ntmps22
  go_wp2_with fail
  refine lookEmptyNil ?_; rintro e w1 rfl k1
  go_wp2_with fail
  exact HR.out _ _ rfl k1

end Go.Proofs.Ytbmpnfibebiaeaa
