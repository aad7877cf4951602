/- The walks of sibylref25's steps. -/
import Derived.Test.YtgpgbkoaopfjkaaAtomOf2
import Derived.Lib.SlicesS
namespace Go.Proofs.Ytgpgbkoaopfjkaa
open Go.RowKit

attribute [local irreducible] wpQuiet wpPlan wpPlanZ wpUp

variable {R : Ending → World → Prop} {w : World}

/-- A bit as a number. -/
def bI (a : Bool) : Int := if a then 1 else 0

theorem bI_true : bI true = 1 := rfl
theorem bI_false : bI false = 0 := rfl

/-- The document's next state. -/
def stepO (o : AOp) (N s : Nat) (a b d : Bool) : Nat :=
  if s = 30 then 30 else
  match o with
  | .tru => 0
  | .sub => if a = true ∧ b = false then 30 else 0
  | .non => if a = true then 30 else 0
  | .uni => if d = (a || b) then 0 else 30
  | .int => if d = (a && b) then 0 else 30
  | .mns => if d = (a && !b) then 0 else 30
  | .flag => if s = 1 ∨ a = true then 1 else 30
  | .sing => if a = true then (if s = 0 then 1 else 30) else (if s ≤ 1 then s else 30)
  | .num => if s = N + 1 ∧ a = false then s else if N < s ∨ (s < N ∧ a = true) ∨ (s = N ∧ a = false) then 30 else s + 1
  | .less => if a = false ∧ b = false then s else if s = 0 ∧ a = true ∧ b = false then 1 else if s = 1 ∧ a = false ∧ b = true then 2 else 30
  | .plus => if s = N + 1 ∨ (s = 0 ∧ a = false) then (if a = false ∧ b = false then s else 30) else if s = 0 ∧ N = 0 then (if b = true then 1 else 30) else if s = 0 then (if b = false then 1 else 30)
      else if a = true ∨ (s < N ∧ b = true) ∨ (s = N ∧ b = false) then 30 else s + 1

theorem stepO_le {o : AOp} {N s : Nat} {a b d : Bool} (hs : s ≤ 30) : stepO o N s a b d ≤ 30 := by
  unfold stepO
  split
  · omega
  · cases o <;> simp only <;> (repeat' split) <;> omega

set_option maxHeartbeats 1000000 in
theorem refFlag {s : Nat} {a : Bool} (hs : s < 30) (hR : ∀ e w', e = .returned (.int .i64 (stepO .flag 0 s a false false : Int)) → Same w w' → R e w') :
    Calls Try.prog 56 #[.int .i64 (s : Int), .int .i64 (bI a)] w R := by
  have HR := hide hR
  clear hR
  have h30 : ¬ s = 30 := by omega
  cases a <;> by_cases h1 : s = 1
  all_goals
    have HV := hide (h1)
    first | subst h1 | (have hb : ((s : Int) == 1) = false := by rw [beq_eq_false_iff_ne]; omega)
    simp only [bI_true, bI_false]
    go_enter Try.func56, Try.ntmps56
    go_wp2_with fail
    refine HR.out _ _ (ret_int ?_) (Keeps.refl _ _)
    simp [stepO, h30, HV.out]

set_option maxHeartbeats 1000000 in
theorem refS2 {s : Nat} {a : Bool} (hs : s < 30) (hR : ∀ e w', e = .returned (.int .i64 (stepO .sing 0 s a false false : Int)) → Same w w' → R e w') :
    Calls Try.prog 57 #[.int .i64 (s : Int), .int .i64 (bI a)] w R := by
  have HR := hide hR
  clear hR
  rcases (show s = 0 ∨ s = 1 ∨ 1 < s by omega) with rfl | rfl | h1 <;> cases a
  all_goals
    have h30 := hide hs
    simp only [bI_true, bI_false]
    go_enter Try.func57, Try.ntmps57
    go_wp2_with fail
    refine HR.out _ _ (ret_int ?_) (Keeps.refl _ _)
    have := h30.out
    first | rfl | (simp [stepO, show ¬ s = 30 by omega, show ¬ s = 0 by omega, show ¬ s ≤ 1 by omega])

set_option maxHeartbeats 1000000 in
theorem refNum {N s : Nat} {a : Bool} (hN : N ≤ 20) (hs : s < 30) (hR : ∀ e w', e = .returned (.int .i64 (stepO .num N s a false false : Int)) → Same w w' → R e w') :
    Calls Try.prog 58 #[.int .i64 (N : Int), .int .i64 (s : Int), .int .i64 (bI a)] w R := by
  have HR := hide hR
  clear hR
  rcases (show s < N ∨ s = N ∨ s = N + 1 ∨ N + 1 < s by omega) with h1 | rfl | rfl | h1
  · have hb : ((s : Int) == (N : Int)) = false := by rw [beq_eq_false_iff_ne]; omega
    have hb2 : ((s : Int) == (N : Int) + 1) = false := by rw [beq_eq_false_iff_ne]; omega
    cases a <;>
    · simp only [bI_true, bI_false]
      go_enter Try.func58, Try.ntmps58
      go_wp2_with fail
      refine HR.out _ _ (ret_int ?_) (Keeps.refl _ _)
      simp [stepO, show ¬ s = 30 by omega, show ¬ s = N + 1 by omega, show ¬ N < s by omega, h1, show ¬ s = N by omega]
  · have hb2 : ((s : Int) == (s : Int) + 1) = false := by rw [beq_eq_false_iff_ne]; omega
    cases a <;>
    · simp only [bI_true, bI_false]
      go_enter Try.func58, Try.ntmps58
      go_wp2_with fail
      refine HR.out _ _ (ret_int ?_) (Keeps.refl _ _)
      simp [stepO, show ¬ s = 30 by omega]
  · cases a <;>
    · simp only [bI_true, bI_false]
      go_enter Try.func58, Try.ntmps58
      go_wp2_with fail
      refine HR.out _ _ (ret_int ?_) (Keeps.refl _ _)
      simp [stepO, show ¬ N + 1 = 30 by omega]
  · have hb2 : ((s : Int) == (N : Int) + 1) = false := by rw [beq_eq_false_iff_ne]; omega
    cases a <;>
    · simp only [bI_true, bI_false]
      go_enter Try.func58, Try.ntmps58
      go_wp2_with fail
      refine HR.out _ _ (ret_int ?_) (Keeps.refl _ _)
      simp [stepO, show ¬ s = 30 by omega, show ¬ s = N + 1 by omega, show N < s by omega]

set_option maxHeartbeats 1000000 in
theorem refLess {s : Nat} {a b : Bool} (hs : s < 30) (hR : ∀ e w', e = .returned (.int .i64 (stepO .less 0 s a b false : Int)) → Same w w' → R e w') :
    Calls Try.prog 59 #[.int .i64 (s : Int), .int .i64 (bI a), .int .i64 (bI b)] w R := by
  have HR := hide hR
  clear hR
  rcases (show s = 0 ∨ s = 1 ∨ 1 < s by omega) with rfl | rfl | h1
  · cases a <;> cases b <;>
    · simp only [bI_true, bI_false]
      go_enter Try.func59, Try.ntmps59
      go_wp2_with fail
      exact HR.out _ _ rfl (Keeps.refl _ _)
  · cases a <;> cases b <;>
    · simp only [bI_true, bI_false]
      go_enter Try.func59, Try.ntmps59
      go_wp2_with fail
      exact HR.out _ _ rfl (Keeps.refl _ _)
  · have hb : ((s : Int) == 0) = false := by rw [beq_eq_false_iff_ne]; omega
    have hb2 : ((s : Int) == 1) = false := by rw [beq_eq_false_iff_ne]; omega
    cases a <;> cases b <;>
    · simp only [bI_true, bI_false]
      go_enter Try.func59, Try.ntmps59
      go_wp2_with fail
      refine HR.out _ _ (ret_int ?_) (Keeps.refl _ _)
      simp [stepO, show ¬ s = 30 by omega, show ¬ s = 0 by omega, show ¬ s = 1 by omega]

set_option maxHeartbeats 2000000 in
theorem refPlus {N s : Nat} {a b : Bool} (hN : N ≤ 20) (hs : s < 30) (hR : ∀ e w', e = .returned (.int .i64 (stepO .plus N s a b false : Int)) → Same w w' → R e w') :
    Calls Try.prog 60 #[.int .i64 (N : Int), .int .i64 (s : Int), .int .i64 (bI a), .int .i64 (bI b)] w R := by
  have HR := hide hR
  clear hR
  rcases (show (s = 0 ∧ N = 0) ∨ (s = 0 ∧ 0 < N) ∨ (0 < s ∧ s < N) ∨ (0 < s ∧ s = N) ∨ s = N + 1 ∨ N + 1 < s by omega) with ⟨rfl, rfl⟩ | ⟨rfl, h1⟩ | ⟨h1, h2⟩ | ⟨h1, rfl⟩ | rfl | h1
  · cases a <;> cases b <;>
    · simp only [bI_true, bI_false]
      go_enter Try.func60, Try.ntmps60
      go_wp2_with fail
      exact HR.out _ _ rfl (Keeps.refl _ _)
  · have hb : ((N : Int) == 0) = false := by rw [beq_eq_false_iff_ne]; omega
    have hb2 : (0 == (N : Int) + 1) = false := by rw [beq_eq_false_iff_ne]; omega
    cases a <;> cases b <;>
    · simp only [bI_true, bI_false]
      go_enter Try.func60, Try.ntmps60
      go_wp2_with fail
      refine HR.out _ _ (ret_int ?_) (Keeps.refl _ _)
      simp [stepO, show ¬ N = 0 by omega]
  · have hb : ((s : Int) == 0) = false := by rw [beq_eq_false_iff_ne]; omega
    have hb2 : ((s : Int) == (N : Int) + 1) = false := by rw [beq_eq_false_iff_ne]; omega
    have hb3 : ((s : Int) == (N : Int)) = false := by rw [beq_eq_false_iff_ne]; omega
    cases a <;> cases b <;>
    · simp only [bI_true, bI_false]
      go_enter Try.func60, Try.ntmps60
      go_wp2_with fail
      refine HR.out _ _ (ret_int ?_) (Keeps.refl _ _)
      simp [stepO, show ¬ s = 30 by omega, show ¬ s = 0 by omega, show ¬ s = N + 1 by omega, show ¬ s = N by omega, h2]
  · have hb : ((s : Int) == 0) = false := by rw [beq_eq_false_iff_ne]; omega
    have hb2 : ((s : Int) == (s : Int) + 1) = false := by rw [beq_eq_false_iff_ne]; omega
    cases a <;> cases b <;>
    · simp only [bI_true, bI_false]
      go_enter Try.func60, Try.ntmps60
      go_wp2_with fail
      refine HR.out _ _ (ret_int ?_) (Keeps.refl _ _)
      simp [stepO, show ¬ s = 30 by omega, show ¬ s = 0 by omega]
  · have hb : ((N : Int) + 1 == 0) = false := by rw [beq_eq_false_iff_ne]; omega
    cases a <;> cases b <;>
    · simp only [bI_true, bI_false]
      go_enter Try.func60, Try.ntmps60
      go_wp2_with fail
      refine HR.out _ _ (ret_int ?_) (Keeps.refl _ _)
      simp [stepO, show ¬ N = 29 by omega]
  · have hb : ((s : Int) == 0) = false := by rw [beq_eq_false_iff_ne]; omega
    have hb2 : ((s : Int) == (N : Int) + 1) = false := by rw [beq_eq_false_iff_ne]; omega
    have hb3 : ((s : Int) == (N : Int)) = false := by rw [beq_eq_false_iff_ne]; omega
    cases a <;> cases b <;>
    · simp only [bI_true, bI_false]
      go_enter Try.func60, Try.ntmps60
      go_wp2_with fail
      refine HR.out _ _ (ret_int ?_) (Keeps.refl _ _)
      simp [stepO, show ¬ s = 30 by omega, show ¬ s = 0 by omega, show ¬ s = N + 1 by omega, show ¬ s = N by omega, show ¬ s < N by omega]

end Go.Proofs.Ytgpgbkoaopfjkaa
