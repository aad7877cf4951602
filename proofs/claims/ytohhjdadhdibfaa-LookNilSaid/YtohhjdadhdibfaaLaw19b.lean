/- The walk of AutoRuns. -/
import Derived.Test.YtohhjdadhdibfaaLaw19
import Derived.Test.YtohhjdadhdibfaaRun19
namespace Go.Proofs.Ytohhjdadhdibfaa
open Go.RowKit

variable {R : Ending → World → Prop} {w : World}

theorem mayB_ok {A : Au} (h : mayB A = true) : A.acc.length ≤ 40 ∧ A.next.length ≤ 40 ∧ AuOk A := by
  unfold mayB at h
  exact of_decide_eq_true h

end Go.Proofs.Ytohhjdadhdibfaa
