/- look.All, given look.Reach. -/
import Derived.Test.YtbmpnfibebiaeaaIdx
namespace Go.Proofs.Ytbmpnfibebiaeaa
open Go.RowKit

attribute [local irreducible] wpQuiet wpPlan wpPlanZ wpUp

variable {R : Ending → World → Prop} {w : World} {A : Au} {B d : Nat}

end Go.Proofs.Ytbmpnfibebiaeaa
