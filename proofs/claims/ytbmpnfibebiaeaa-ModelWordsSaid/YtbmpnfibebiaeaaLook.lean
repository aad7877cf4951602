/- The walks of look.Reach, look.Lengths of no automaton. -/
import Derived.Test.YtbmpnfibebiaeaaLaw21
namespace Go.Proofs.Ytbmpnfibebiaeaa
open Go.RowKit

attribute [local irreducible] wpQuiet wpPlan wpPlanZ wpUp

variable {R : Ending → World → Prop} {w : World} {A : Au}

theorem lookReachNil (hR : ∀ e, e = .returned (.slice none 0 0) → R e w) :
    Calls Try.prog 46 #[.pointer none] w R := by
  have HR := hide hR
  clear hR
  go_enter Try.func46, Try.ntmps46
  go_wp2_with fail
  exact HR.out _ rfl

end Go.Proofs.Ytbmpnfibebiaeaa
