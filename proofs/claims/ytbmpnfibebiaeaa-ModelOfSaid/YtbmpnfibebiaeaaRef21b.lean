/- The walks of sibylref21.Empty, sibylref21.All. -/
import Derived.Test.YtbmpnfibebiaeaaRef21
namespace Go.Proofs.Ytbmpnfibebiaeaa
open Go.RowKit

attribute [local irreducible] wpQuiet wpPlan wpPlanZ wpUp

variable {R : Ending → World → Prop} {w : World} {A : Au}

theorem any_take {l : List Int} {p : Int → Bool} {k : Nat} (hk : k < l.length) : (l.take (k + 1)).any p = ((l.take k).any p || p l[k]) := by
  rw [List.take_succ_eq_append_getElem hk, List.any_append]
  simp

end Go.Proofs.Ytbmpnfibebiaeaa
