/- The walks of look.Reach, look.Lengths of no automaton. -/
import Derived.Test.YtohhjdadhdibfaaLook
namespace Go.Proofs.Ytohhjdadhdibfaa
open Go.RowKit

attribute [local irreducible] wpQuiet wpPlan wpPlanZ wpUp

variable {R : Ending → World → Prop} {w : World} {A : Au}

theorem indexFuncNil (g : Value) (hR : ∀ e, e = .returned (.int .i64 (-1)) → R e w) :
    Calls Try.prog 79 #[.slice none 0 0, g] w R := by
  have HR := hide hR
  clear hR
  go_enter Try.func79, Try.ntmps79
  go_wp2_with fail
  go_loopw [8] (fun i wr => i = .int .i64 0 ∧ wr = w) (fun _ _ => 0)
  case atStart => exact ⟨rfl, rfl⟩
  case round =>
    obtain ⟨rfl, rfl⟩ := hrel
    go_wp2_with fail
    exact HR.out _ rfl

theorem containsFuncNil (g : Value) (hR : ∀ e, e = .returned (.bool false) → R e w) :
    Calls Try.prog 69 #[.slice none 0 0, g] w R := by
  have HR := hide hR
  clear hR
  go_enter Try.func69, Try.ntmps69
  go_wp2_with fail
  refine indexFuncNil _ ?_; rintro e rfl
  go_wp2_with fail
  exact HR.out _ rfl

theorem lookEmptyNil (hR : ∀ e w', e = .returned (.bool true) → Same w w' → R e w') :
    Calls Try.prog 51 #[.pointer none] w R := by
  have HR := hide hR
  clear hR
  go_enter Try.func51, Try.ntmps51
  go_wp2_with fail
  refine lookReachNil ?_; rintro e rfl
  go_wp2_with fail
  refine containsFuncNil _ ?_; rintro e rfl
  go_wp2_with fail
  exact HR.out _ _ rfl (Keeps.refl _ w)

theorem lookAllNil (hR : ∀ e w', e = .returned (.bool true) → Same w w' → R e w') :
    Calls Try.prog 53 #[.pointer none] w R := by
  have HR := hide hR
  clear hR
  have hbox := heap_new w (.cells #[.pointer none] 27)
  have c0 := cell_at hbox 0
  simp only [List.getElem?_toArray, List.getElem?_cons_zero] at c0
  have HK := hide ((Keeps.refl (fun _ => True) w).alloc (.cells #[.pointer none] 27))
  clear hbox
  go_enter Try.func53, Try.ntmps53
  go_wp2_with fail
  refine lookReachNil ?_; rintro e rfl
  go_wp2_with fail
  refine containsFuncNil _ ?_; rintro e rfl
  go_wp2_with fail
  exact HR.out _ _ rfl HK.out

theorem lookShortestNil (hR : ∀ e w', e = .returned (.tuple #[.slice none 0 0, .bool false]) → Same w w' → R e w') :
    Calls Try.prog 44 #[.pointer none] w R := by
  have HR := hide hR
  clear hR
  go_enter Try.func44, Try.ntmps44
  go_wp2_with fail
  refine lookEmptyNil ?_; rintro e w1 rfl k1
  go_wp2_with fail
  exact HR.out _ _ rfl k1

/-- The law LookNil, but for known. -/
theorem lookNilWalk (hknown : ∀ (w : World) (R : Ending → World → Prop), (∀ e w', e = .returned (.bool true) → Same w w' → R e w') → Calls Try.prog 46 #[] w R) (most : Int) (w : World) :
    Calls Try.prog 14 #[.int .i64 most] w fun e w' => e = .returned (.bool true) ∧ Below w.heap.size w w' := by
  refine law_of fun R HR => ?_
  have HKN := hide hknown
  clear hknown
  by_cases c1 : most < 0
  · go_enter Try.func14, Try.ntmps14
    go_wp2_with fail
    exact HR.out _ _ rfl (Keeps.refl _ w)
  by_cases c2 : 60 < most
  · go_enter Try.func14, Try.ntmps14
    go_wp2_with fail
    exact HR.out _ _ rfl (Keeps.refl _ w)
  go_enter Try.func14, Try.ntmps14
  go_wp2_with fail
  refine lookShortestNil ?_; rintro e w1 rfl k1
  have HK1 := hide k1
  clear k1
  go_wp2_with fail
  refine lookEmptyNil ?_; rintro e w2 rfl k2
  have HK2 := hide (HK1.out.tr k2)
  clear k2
  go_wp2_with fail
  refine lookAllNil ?_; rintro e w3 rfl k3
  have HK3 := hide (HK2.out.tr k3)
  clear k3
  go_wp2_with fail
  refine lookReachNil ?_; rintro e rfl
  go_wp2_with fail
  refine lookLengthsNil _ ?_; rintro e rfl
  go_wp2_with fail
  refine HKN.out _ _ ?_; rintro e w4 rfl k4
  go_wp2_with fail
  exact HR.out _ _ rfl ((HK3.out.tr k4).mono fun _ _ _ => trivial)

end Go.Proofs.Ytohhjdadhdibfaa
