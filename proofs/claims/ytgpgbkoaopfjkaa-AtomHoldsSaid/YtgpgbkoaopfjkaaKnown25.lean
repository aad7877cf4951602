/- The walk of sibyllaw25.known; the law AtomStates. -/
import Derived.Test.YtgpgbkoaopfjkaaAtomOf3
import Derived.Test.YtgpgbkoaopfjkaaAtomCnt
import Derived.Test.YtgpgbkoaopfjkaaPkA
namespace Go.Proofs.Ytgpgbkoaopfjkaa
open Go.RowKit

attribute [local irreducible] wpQuiet wpPlan wpPlanZ wpUp

variable {R : Ending → World → Prop} {w : World}

instance (o : AOp) (n : Int) (j : Nat) (v : Int) : Decidable (okVar o n j v) := by unfold okVar; infer_instance
instance (o : AOp) (a b c N n : Int) (kn : Nat) : Decidable (FieldsOk o a b c N n kn) := by unfold FieldsOk; infer_instance

theorem core_lit {o : AOp} {a b c n : Int} (ha : InI64 a) (hb : InI64 b) (hc : InI64 c) (hn : InI64 n) : CoreIn w 1 (.agg #[.string o.name, .int .i64 a, .int .i64 b, .int .i64 c, .int .i64 n, .slice none 0 0]) :=
  ⟨_, _, _, _, _, _, _, _, rfl, ⟨ha, hb, hc, hn, by cases o <;> decide, Nat.le_refl _, Nat.zero_le _⟩, .inl rfl⟩

theorem small64 {x : Nat} (h : x ≤ 64) : InI64 (x : Int) := by unfold InI64; omega

theorem known25 (hR : ∀ e w', e = .returned (.bool true) → Same w w' → R e w') : Calls Try.prog 11 #[] w R := by
  have HR := hide hR
  clear hR
  go_enter Try.func11, Try.ntmps11
  go_wp2_with fail
  refine atomOfGood (o := .tru) (A := 0) (B := 0) (C := 0) (N := 0) (n := 0) (by omega) (by omega) (by omega) (by omega) (by omega) (by decide) (core_lit (small64 (by omega)) (small64 (by omega)) (small64 (by omega)) (small64 (by omega))) ?_; rintro e w1 d1 rfl dd1 k1
  have HD1 := hide dd1
  have HK1 := hide k1
  clear dd1 k1
  go_wp2_with fail
  refine atomOfGood (o := .sing) (A := 0) (B := 0) (C := 0) (N := 0) (n := 1) (by omega) (by omega) (by omega) (by omega) (by omega) (by decide) (core_lit (small64 (by omega)) (small64 (by omega)) (small64 (by omega)) (small64 (by omega))) ?_; rintro e w2 d2 rfl dd2 k2
  have HD2 := hide dd2
  have HD12 := hide (HD1.out.same k2)
  have HK2 := hide (HK1.out.tr k2)
  clear dd2 k2
  go_wp2_with fail
  refine dfaStates HD12.out ?_; rintro e rfl
  rw [tru_states]
  go_wp2_with fail
  refine dfaStates HD2.out ?_; rintro e rfl
  rw [sing_states]
  go_wp2_with fail
  exact HR.out _ _ rfl HK2.out

end Go.Proofs.Ytgpgbkoaopfjkaa
