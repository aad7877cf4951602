/- The walk of AtomStates. -/
import Derived.Test.YtgpgbkoaopfjkaaKnown25
namespace Go.Proofs.Ytgpgbkoaopfjkaa
open Go.RowKit

attribute [local irreducible] wpQuiet wpPlan wpPlanZ wpUp

theorem atomStatesWalk (n : Int) (w : World) (_ : InI64 n) :
    Calls Try.prog 4 #[.int .i64 n] w fun e w' => e = .returned (.bool true) ∧ Below w.heap.size w w' := by
  refine law_of fun R HR => ?_
  by_cases h0 : n < 0
  · go_enter Try.func4, Try.ntmps4
    go_wp2_with fail
    exact HR.out _ _ rfl (Keeps.refl _ _)
  by_cases h1 : 20 < n
  · go_enter Try.func4, Try.ntmps4
    go_wp2_with fail
    exact HR.out _ _ rfl (Keeps.refl _ _)
  obtain ⟨N, rfl⟩ := Int.eq_ofNat_of_zero_le (show 0 ≤ n by omega)
  have hN : N ≤ 20 := by omega
  go_enter Try.func4, Try.ntmps4
  go_wp2_with fail
  refine atomOfGood (o := .num) (A := 0) (B := 0) (C := 0) (N := N) (n := 1) hN (by omega) (by omega) (by omega) (by omega) ⟨rfl, .inl rfl, by omega, by omega, by decide, by decide, by decide⟩ (core_lit (small64 (by omega)) (small64 (by omega)) (small64 (by omega)) (small64 (by omega))) ?_; rintro e w1 d1 rfl dd1 k1
  have HD1 := hide dd1
  have HK1 := hide k1
  clear dd1 k1
  go_wp2_with fail
  refine atomOfGood (o := .plus) (A := 0) (B := 1) (C := 0) (N := N) (n := 2) hN (by omega) (by omega) (by omega) (by omega) ⟨rfl, .inl rfl, by omega, by omega, by decide, by decide, by decide⟩ (core_lit (small64 (by omega)) (small64 (by omega)) (small64 (by omega)) (small64 (by omega))) ?_; rintro e w2 d2 rfl dd2 k2
  have HD2 := hide dd2
  have HD12 := hide (HD1.out.same k2)
  have HK2 := hide (HK1.out.tr k2)
  clear dd2 k2
  go_wp2_with fail
  refine dfaStates HD12.out ?_; rintro e rfl
  rw [num_states N (by omega), Int.natCast_add]
  go_wp2_with fail
  refine dfaStates HD2.out ?_; rintro e rfl
  rw [plus_states N (by omega), Int.natCast_add]
  go_wp2_with fail
  refine known25 ?_; rintro e w3 rfl k3
  have HK3 := hide (HK2.out.tr k3)
  clear k3
  go_wp2_with fail
  exact HR.out _ _ rfl (HK3.out.mono fun _ _ _ => trivial)

end Go.Proofs.Ytgpgbkoaopfjkaa
