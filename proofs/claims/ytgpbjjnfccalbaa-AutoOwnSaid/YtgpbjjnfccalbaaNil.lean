/- The walks of auto's functions over no automaton. -/
import Derived.Test.YtgpbjjnfccalbaaTo
namespace Go.Proofs.Ytgpbjjnfccalbaa
open Go.RowKit

attribute [local irreducible] wpQuiet wpPlan wpPlanZ wpUp

variable {R : Ending → World → Prop} {w : World}

theorem nilLen (hR : ∀ e, e = .returned (.int .i64 0) → R e w) : Calls Try.prog 83 #[.pointer none] w R := by
  have HR := hide hR
  clear hR
  go_enter Try.func83, Try.ntmps83
  go_wp2_with fail
  exact HR.out _ rfl

theorem nilTracks (hR : ∀ e, e = .returned (.int .i64 0) → R e w) : Calls Try.prog 25 #[.pointer none] w R := by
  have HR := hide hR
  clear hR
  go_enter Try.func25, Try.ntmps25
  go_wp2_with fail
  exact HR.out _ rfl

theorem nilIsStore (hR : ∀ e, e = .returned (.bool false) → R e w) : Calls Try.prog 59 #[.pointer none, .int .i64 (-1)] w R := by
  have HR := hide hR
  clear hR
  go_enter Try.func59, Try.ntmps59
  go_wp2_with fail
  exact HR.out _ rfl

theorem nilAt (hR : ∀ e, e = .returned (.int .i64 (-1)) → R e w) : Calls Try.prog 60 #[.pointer none, .int .i64 (-1), .int .i64 0] w R := by
  have HR := hide hR
  clear hR
  go_enter Try.func60, Try.ntmps60
  go_wp2_with fail
  refine nilIsStore ?_; rintro e rfl
  go_wp2_with fail
  exact HR.out _ rfl

theorem nilStore (hR : ∀ e, e = .returned (.pointer none) → R e w) : Calls Try.prog 24 #[.pointer none] w R := by
  have HR := hide hR
  clear hR
  go_enter Try.func24, Try.ntmps24
  go_wp2_with fail
  exact HR.out _ rfl

theorem nilStates (hR : ∀ e, e = .returned (.int .i64 0) → R e w) : Calls Try.prog 22 #[.pointer none] w R := by
  have HR := hide hR
  clear hR
  go_enter Try.func22, Try.ntmps22
  go_wp2_with fail
  exact HR.out _ rfl

theorem nilDTracks (hR : ∀ e, e = .returned (.int .i64 0) → R e w) : Calls Try.prog 23 #[.pointer none] w R := by
  have HR := hide hR
  clear hR
  go_enter Try.func23, Try.ntmps23
  go_wp2_with fail
  refine nilStore ?_; rintro e rfl
  go_wp2_with fail
  refine nilTracks ?_; rintro e rfl
  go_wp2_with fail
  exact HR.out _ rfl

theorem nilIs (hR : ∀ e, e = .returned (.bool false) → R e w) : Calls Try.prog 58 #[.pointer none, .int .i64 0] w R := by
  have HR := hide hR
  clear hR
  go_enter Try.func58, Try.ntmps58
  go_wp2_with fail
  refine nilStates ?_; rintro e rfl
  go_wp2_with fail
  exact HR.out _ rfl

theorem nilRoot (hR : ∀ e, e = .returned (.int .i64 (-1)) → R e w) : Calls Try.prog 20 #[.pointer none, .int .i64 0] w R := by
  have HR := hide hR
  clear hR
  go_enter Try.func20, Try.ntmps20
  go_wp2_with fail
  refine nilIs ?_; rintro e rfl
  go_wp2_with fail
  exact HR.out _ rfl

theorem nilStep (hR : ∀ e, e = .returned (.int .i64 (-1)) → R e w) : Calls Try.prog 28 #[.pointer none, .int .i64 0, .int .i64 0] w R := by
  have HR := hide hR
  clear hR
  go_enter Try.func28, Try.ntmps28
  go_wp2_with fail
  refine nilStore ?_; rintro e rfl
  go_wp2_with fail
  refine nilRoot ?_; rintro e rfl
  go_wp2_with fail
  refine nilAt ?_; rintro e rfl
  go_wp2_with fail
  exact HR.out _ rfl

theorem nilAccepts (hR : ∀ e, e = .returned (.bool false) → R e w) : Calls Try.prog 26 #[.pointer none, .int .i64 0] w R := by
  have HR := hide hR
  clear hR
  go_enter Try.func26, Try.ntmps26
  go_wp2_with fail
  refine nilIs ?_; rintro e rfl
  go_wp2_with fail
  exact HR.out _ rfl

theorem nilRun (v : Value) (hR : ∀ e, e = .returned (.tuple #[.int .i64 (-1), .bool false]) → R e w) : Calls Try.prog 17 #[.pointer none, v] w R := by
  have HR := hide hR
  clear hR
  go_enter Try.func17, Try.ntmps17
  go_wp2_with fail
  exact HR.out _ rfl

theorem nilTo (hR : ∀ e w', e = .returned (.agg #[.int .i64 0, .slice none 0 0, .slice none 0 0]) → Same w w' → R e w') : Calls Try.prog 41 #[.pointer none] w R := by
  have HR := hide hR
  clear hR
  have hb := heap_new w (.cells #[.int .i64 0, .slice none 0 0, .slice none 0 0] 25)
  have hk : Same w (w.alloc (.cells #[.int .i64 0, .slice none 0 0, .slice none 0 0] 25)) := (Keeps.refl _ w).alloc _
  go_enter Try.func41, Try.ntmps41
  go_wp2_with fail
  generalize w.alloc (.cells #[.int .i64 0, .slice none 0 0, .slice none 0 0] 25) = wz at hb hk ⊢
  have y0 : wz.cell? ⟨w.heap.size, 0, none⟩ = some (.int .i64 0) := cell_at hb 0
  have y1 : wz.cell? ⟨w.heap.size, 1, none⟩ = some (.slice none 0 0) := cell_at hb 1
  have y2 : wz.cell? ⟨w.heap.size, 2, none⟩ = some (.slice none 0 0) := cell_at hb 2
  refine bodyPost_ret (v := .agg #[.int .i64 0, .slice none 0 0, .slice none 0 0]) (by simp [results, Try.results41, go_sem, y0, y1, y2]) rfl ?_
  exact HR.out _ _ rfl hk

end Go.Proofs.Ytgpbjjnfccalbaa
