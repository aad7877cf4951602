/- The walks of look.Reach, look.Lengths of no automaton. -/
import Derived.Test.YtohhjdadhdibfaaLaw21
namespace Go.Proofs.Ytohhjdadhdibfaa
open Go.RowKit

attribute [local irreducible] wpQuiet wpPlan wpPlanZ wpUp

variable {R : Ending → World → Prop} {w : World} {A : Au}

theorem lookReachNil (hR : ∀ e, e = .returned (.slice none 0 0) → R e w) :
    Calls Try.prog 49 #[.pointer none] w R := by
  have HR := hide hR
  clear hR
  go_enter Try.func49, Try.ntmps49
  go_wp2_with fail
  exact HR.out _ rfl

theorem lookLengthsNil (most : Int) (hR : ∀ e, e = .returned (.slice none 0 0) → R e w) :
    Calls Try.prog 55 #[.pointer none, .int .i64 most] w R := by
  have HR := hide hR
  clear hR
  go_enter Try.func55, Try.ntmps55
  go_wp2_with fail
  exact HR.out _ rfl

end Go.Proofs.Ytohhjdadhdibfaa
