/- The walk of sibyllaw21.known; the law LookNil. -/
import Derived.Test.YtohhjdadhdibfaaShort
namespace Go.Proofs.Ytohhjdadhdibfaa
open Go.RowKit

attribute [local irreducible] wpQuiet wpPlan wpPlanZ wpUp

variable {R : Ending → World → Prop} {w : World} {A : Au} {B d : Nat}

theorem known21 (hR : ∀ e w', e = .returned (.bool true) → Same w w' → R e w') : Calls Try.prog 46 #[] w R := by
  have HR := hide hR
  clear hR
  obtain ⟨ha, hk⟩ := oneC_at w true
  have HA := hide ha
  have HK := hide hk
  clear ha hk
  go_enter Try.func46, Try.ntmps46
  go_wp2_with fail
  refine of21 HA.out (oneC_ok true) ?_; rintro e w1 d rfl d1 k1
  have HD := hide d1
  have HK1 := hide (HK.out.tr k1)
  clear d1 k1
  go_wp2_with fail
  refine lookShortest (K := 0) HD.out ⟨rfl, fun j hj => absurd hj (Nat.not_lt_zero _)⟩ ?_; rintro e w2 v rfl hi k2
  obtain ⟨a, c, rfl, _, _, _⟩ := hi.open
  have HK2 := hide (HK1.out.tr k2)
  clear hi k2
  go_wp2_with fail
  exact HR.out _ _ rfl HK2.out

/-- The law LookNil. -/
theorem lookNilWalk2 (most : Int) (w : World) (_ : InI64 most) :
    Calls Try.prog 14 #[.int .i64 most] w fun e w' => e = .returned (.bool true) ∧ Below w.heap.size w w' :=
  lookNilWalk (fun _ _ hR => known21 hR) most w

end Go.Proofs.Ytohhjdadhdibfaa
