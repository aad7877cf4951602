/- The walk of AutoIs. -/
import Derived.Test.YtameihkcajceeaaTo
import Derived.Test.YtameihkcajceeaaSame19
namespace Go.Proofs.Ytameihkcajceeaa
open Go.RowKit

attribute [local irreducible] wpQuiet wpPlan wpPlanZ wpUp

variable {R : Ending → World → Prop} {w : World} {A : Au}

end Go.Proofs.Ytameihkcajceeaa
