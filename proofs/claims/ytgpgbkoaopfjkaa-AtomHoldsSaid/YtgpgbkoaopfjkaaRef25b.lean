/- The walks of sibylref25.step, accepts. -/
import Derived.Test.YtgpgbkoaopfjkaaRef25
namespace Go.Proofs.Ytgpgbkoaopfjkaa
open Go.RowKit

attribute [local irreducible] wpQuiet wpPlan wpPlanZ wpUp

variable {R : Ending → World → Prop} {w : World}

/-- Does the document's state accept? -/
def accO (o : AOp) (N s : Nat) : Bool :=
  if s = 30 then false else
  match o with
  | .flag | .sing => decide (s = 1)
  | .less => decide (s = 2)
  | .plus | .num => decide (s = N + 1)
  | _ => true

set_option maxRecDepth 10000 in
set_option maxHeartbeats 2000000 in
theorem refStep_tru {A B C : Int} {N s : Nat} {a b d : Bool} {ka : Option Addr} {kc : Nat} (hs : s < 30) (hR : ∀ e w', e = .returned (.int .i64 (stepO .tru N s a b d : Int)) → Same w w' → R e w') :
    Calls Try.prog 25 #[.agg #[.string (AOp.name .tru), .int .i64 A, .int .i64 B, .int .i64 C, .int .i64 (N : Int), .slice ka 0 kc], .int .i64 (s : Int), .int .i64 (bI a), .int .i64 (bI b), .int .i64 (bI d)] w R := by
  have HR := hide hR
  clear hR
  have HK := hide ((Keeps.refl (fun _ => True) w).alloc (.cells #[.string (AOp.name .tru), .int .i64 A, .int .i64 B, .int .i64 C, .int .i64 (N : Int), .slice ka 0 kc] 24))
  have hb30 : ((s : Int) == 30) = false := by rw [beq_eq_false_iff_ne]; omega
  unfold AOp.name at HK ⊢
  go_enter Try.func25, Try.ntmps25
  go_wp2_with fail
  refine HR.out _ _ (ret_int ?_) HK.out
  simp [stepO, show ¬ s = 30 by omega]

set_option maxRecDepth 10000 in
set_option maxHeartbeats 2000000 in
theorem refStep_sub {A B C : Int} {N s : Nat} {a b d : Bool} {ka : Option Addr} {kc : Nat} (hs : s < 30) (hR : ∀ e w', e = .returned (.int .i64 (stepO .sub N s a b d : Int)) → Same w w' → R e w') :
    Calls Try.prog 25 #[.agg #[.string (AOp.name .sub), .int .i64 A, .int .i64 B, .int .i64 C, .int .i64 (N : Int), .slice ka 0 kc], .int .i64 (s : Int), .int .i64 (bI a), .int .i64 (bI b), .int .i64 (bI d)] w R := by
  have HR := hide hR
  clear hR
  have HK := hide ((Keeps.refl (fun _ => True) w).alloc (.cells #[.string (AOp.name .sub), .int .i64 A, .int .i64 B, .int .i64 C, .int .i64 (N : Int), .slice ka 0 kc] 24))
  have hb30 : ((s : Int) == 30) = false := by rw [beq_eq_false_iff_ne]; omega
  unfold AOp.name at HK ⊢
  cases a <;> cases b <;>
  · simp only [bI_true, bI_false]
    go_enter Try.func25, Try.ntmps25
    go_wp2_with fail
    refine HR.out _ _ (ret_int ?_) HK.out
    simp [stepO, show ¬ s = 30 by omega]

set_option maxRecDepth 10000 in
set_option maxHeartbeats 2000000 in
theorem refStep_non {A B C : Int} {N s : Nat} {a b d : Bool} {ka : Option Addr} {kc : Nat} (hs : s < 30) (hR : ∀ e w', e = .returned (.int .i64 (stepO .non N s a b d : Int)) → Same w w' → R e w') :
    Calls Try.prog 25 #[.agg #[.string (AOp.name .non), .int .i64 A, .int .i64 B, .int .i64 C, .int .i64 (N : Int), .slice ka 0 kc], .int .i64 (s : Int), .int .i64 (bI a), .int .i64 (bI b), .int .i64 (bI d)] w R := by
  have HR := hide hR
  clear hR
  have HK := hide ((Keeps.refl (fun _ => True) w).alloc (.cells #[.string (AOp.name .non), .int .i64 A, .int .i64 B, .int .i64 C, .int .i64 (N : Int), .slice ka 0 kc] 24))
  have hb30 : ((s : Int) == 30) = false := by rw [beq_eq_false_iff_ne]; omega
  unfold AOp.name at HK ⊢
  cases a <;>
  · simp only [bI_true, bI_false]
    go_enter Try.func25, Try.ntmps25
    go_wp2_with fail
    refine HR.out _ _ (ret_int ?_) HK.out
    simp [stepO, show ¬ s = 30 by omega]

set_option maxRecDepth 10000 in
set_option maxHeartbeats 2000000 in
theorem refStep_uni {A B C : Int} {N s : Nat} {a b d : Bool} {ka : Option Addr} {kc : Nat} (hs : s < 30) (hR : ∀ e w', e = .returned (.int .i64 (stepO .uni N s a b d : Int)) → Same w w' → R e w') :
    Calls Try.prog 25 #[.agg #[.string (AOp.name .uni), .int .i64 A, .int .i64 B, .int .i64 C, .int .i64 (N : Int), .slice ka 0 kc], .int .i64 (s : Int), .int .i64 (bI a), .int .i64 (bI b), .int .i64 (bI d)] w R := by
  have HR := hide hR
  clear hR
  have HK := hide ((Keeps.refl (fun _ => True) w).alloc (.cells #[.string (AOp.name .uni), .int .i64 A, .int .i64 B, .int .i64 C, .int .i64 (N : Int), .slice ka 0 kc] 24))
  have hb30 : ((s : Int) == 30) = false := by rw [beq_eq_false_iff_ne]; omega
  unfold AOp.name at HK ⊢
  cases a <;> cases b <;> cases d <;>
  · simp only [bI_true, bI_false]
    go_enter Try.func25, Try.ntmps25
    go_wp2_with fail
    refine HR.out _ _ (ret_int ?_) HK.out
    simp [stepO, show ¬ s = 30 by omega]

set_option maxRecDepth 10000 in
set_option maxHeartbeats 2000000 in
theorem refStep_int {A B C : Int} {N s : Nat} {a b d : Bool} {ka : Option Addr} {kc : Nat} (hs : s < 30) (hR : ∀ e w', e = .returned (.int .i64 (stepO .int N s a b d : Int)) → Same w w' → R e w') :
    Calls Try.prog 25 #[.agg #[.string (AOp.name .int), .int .i64 A, .int .i64 B, .int .i64 C, .int .i64 (N : Int), .slice ka 0 kc], .int .i64 (s : Int), .int .i64 (bI a), .int .i64 (bI b), .int .i64 (bI d)] w R := by
  have HR := hide hR
  clear hR
  have HK := hide ((Keeps.refl (fun _ => True) w).alloc (.cells #[.string (AOp.name .int), .int .i64 A, .int .i64 B, .int .i64 C, .int .i64 (N : Int), .slice ka 0 kc] 24))
  have hb30 : ((s : Int) == 30) = false := by rw [beq_eq_false_iff_ne]; omega
  unfold AOp.name at HK ⊢
  cases a <;> cases b <;> cases d <;>
  · simp only [bI_true, bI_false]
    go_enter Try.func25, Try.ntmps25
    go_wp2_with fail
    refine HR.out _ _ (ret_int ?_) HK.out
    simp [stepO, show ¬ s = 30 by omega]

set_option maxRecDepth 10000 in
set_option maxHeartbeats 2000000 in
theorem refStep_mns {A B C : Int} {N s : Nat} {a b d : Bool} {ka : Option Addr} {kc : Nat} (hs : s < 30) (hR : ∀ e w', e = .returned (.int .i64 (stepO .mns N s a b d : Int)) → Same w w' → R e w') :
    Calls Try.prog 25 #[.agg #[.string (AOp.name .mns), .int .i64 A, .int .i64 B, .int .i64 C, .int .i64 (N : Int), .slice ka 0 kc], .int .i64 (s : Int), .int .i64 (bI a), .int .i64 (bI b), .int .i64 (bI d)] w R := by
  have HR := hide hR
  clear hR
  have HK := hide ((Keeps.refl (fun _ => True) w).alloc (.cells #[.string (AOp.name .mns), .int .i64 A, .int .i64 B, .int .i64 C, .int .i64 (N : Int), .slice ka 0 kc] 24))
  have hb30 : ((s : Int) == 30) = false := by rw [beq_eq_false_iff_ne]; omega
  unfold AOp.name at HK ⊢
  cases a <;> cases b <;> cases d <;>
  · simp only [bI_true, bI_false]
    go_enter Try.func25, Try.ntmps25
    go_wp2_with fail
    refine HR.out _ _ (ret_int ?_) HK.out
    simp [stepO, show ¬ s = 30 by omega]

set_option maxRecDepth 10000 in
set_option maxHeartbeats 2000000 in
theorem refStep_flag {A B C : Int} {N s : Nat} {a b d : Bool} {ka : Option Addr} {kc : Nat} (hs : s < 30) (hR : ∀ e w', e = .returned (.int .i64 (stepO .flag N s a b d : Int)) → Same w w' → R e w') :
    Calls Try.prog 25 #[.agg #[.string (AOp.name .flag), .int .i64 A, .int .i64 B, .int .i64 C, .int .i64 (N : Int), .slice ka 0 kc], .int .i64 (s : Int), .int .i64 (bI a), .int .i64 (bI b), .int .i64 (bI d)] w R := by
  have HR := hide hR
  clear hR
  have HK := hide ((Keeps.refl (fun _ => True) w).alloc (.cells #[.string (AOp.name .flag), .int .i64 A, .int .i64 B, .int .i64 C, .int .i64 (N : Int), .slice ka 0 kc] 24))
  have hb30 : ((s : Int) == 30) = false := by rw [beq_eq_false_iff_ne]; omega
  unfold AOp.name at HK ⊢
  go_enter Try.func25, Try.ntmps25
  go_wp2_with fail
  refine refFlag hs ?_; rintro e w1 rfl k1
  have HK1 := hide (HK.out.tr k1)
  clear k1
  go_wp2_with fail
  exact HR.out _ _ rfl HK1.out

set_option maxRecDepth 10000 in
set_option maxHeartbeats 2000000 in
theorem refStep_sing {A B C : Int} {N s : Nat} {a b d : Bool} {ka : Option Addr} {kc : Nat} (hs : s < 30) (hR : ∀ e w', e = .returned (.int .i64 (stepO .sing N s a b d : Int)) → Same w w' → R e w') :
    Calls Try.prog 25 #[.agg #[.string (AOp.name .sing), .int .i64 A, .int .i64 B, .int .i64 C, .int .i64 (N : Int), .slice ka 0 kc], .int .i64 (s : Int), .int .i64 (bI a), .int .i64 (bI b), .int .i64 (bI d)] w R := by
  have HR := hide hR
  clear hR
  have HK := hide ((Keeps.refl (fun _ => True) w).alloc (.cells #[.string (AOp.name .sing), .int .i64 A, .int .i64 B, .int .i64 C, .int .i64 (N : Int), .slice ka 0 kc] 24))
  have hb30 : ((s : Int) == 30) = false := by rw [beq_eq_false_iff_ne]; omega
  unfold AOp.name at HK ⊢
  go_enter Try.func25, Try.ntmps25
  go_wp2_with fail
  refine refS2 hs ?_; rintro e w1 rfl k1
  have HK1 := hide (HK.out.tr k1)
  clear k1
  go_wp2_with fail
  exact HR.out _ _ rfl HK1.out

set_option maxRecDepth 10000 in
set_option maxHeartbeats 2000000 in
theorem refStep_num {A B C : Int} {N s : Nat} {a b d : Bool} {ka : Option Addr} {kc : Nat} (hN : N ≤ 20) (hs : s < 30) (hR : ∀ e w', e = .returned (.int .i64 (stepO .num N s a b d : Int)) → Same w w' → R e w') :
    Calls Try.prog 25 #[.agg #[.string (AOp.name .num), .int .i64 A, .int .i64 B, .int .i64 C, .int .i64 (N : Int), .slice ka 0 kc], .int .i64 (s : Int), .int .i64 (bI a), .int .i64 (bI b), .int .i64 (bI d)] w R := by
  have HR := hide hR
  clear hR
  have HK := hide ((Keeps.refl (fun _ => True) w).alloc (.cells #[.string (AOp.name .num), .int .i64 A, .int .i64 B, .int .i64 C, .int .i64 (N : Int), .slice ka 0 kc] 24))
  have hb30 : ((s : Int) == 30) = false := by rw [beq_eq_false_iff_ne]; omega
  unfold AOp.name at HK ⊢
  go_enter Try.func25, Try.ntmps25
  go_wp2_with fail
  refine refNum hN hs ?_; rintro e w1 rfl k1
  have HK1 := hide (HK.out.tr k1)
  clear k1
  go_wp2_with fail
  exact HR.out _ _ rfl HK1.out

set_option maxRecDepth 10000 in
set_option maxHeartbeats 2000000 in
theorem refStep_less {A B C : Int} {N s : Nat} {a b d : Bool} {ka : Option Addr} {kc : Nat} (hs : s < 30) (hR : ∀ e w', e = .returned (.int .i64 (stepO .less N s a b d : Int)) → Same w w' → R e w') :
    Calls Try.prog 25 #[.agg #[.string (AOp.name .less), .int .i64 A, .int .i64 B, .int .i64 C, .int .i64 (N : Int), .slice ka 0 kc], .int .i64 (s : Int), .int .i64 (bI a), .int .i64 (bI b), .int .i64 (bI d)] w R := by
  have HR := hide hR
  clear hR
  have HK := hide ((Keeps.refl (fun _ => True) w).alloc (.cells #[.string (AOp.name .less), .int .i64 A, .int .i64 B, .int .i64 C, .int .i64 (N : Int), .slice ka 0 kc] 24))
  have hb30 : ((s : Int) == 30) = false := by rw [beq_eq_false_iff_ne]; omega
  unfold AOp.name at HK ⊢
  go_enter Try.func25, Try.ntmps25
  go_wp2_with fail
  refine refLess hs ?_; rintro e w1 rfl k1
  have HK1 := hide (HK.out.tr k1)
  clear k1
  go_wp2_with fail
  exact HR.out _ _ rfl HK1.out

set_option maxRecDepth 10000 in
set_option maxHeartbeats 2000000 in
theorem refStep_plus {A B C : Int} {N s : Nat} {a b d : Bool} {ka : Option Addr} {kc : Nat} (hN : N ≤ 20) (hs : s < 30) (hR : ∀ e w', e = .returned (.int .i64 (stepO .plus N s a b d : Int)) → Same w w' → R e w') :
    Calls Try.prog 25 #[.agg #[.string (AOp.name .plus), .int .i64 A, .int .i64 B, .int .i64 C, .int .i64 (N : Int), .slice ka 0 kc], .int .i64 (s : Int), .int .i64 (bI a), .int .i64 (bI b), .int .i64 (bI d)] w R := by
  have HR := hide hR
  clear hR
  have HK := hide ((Keeps.refl (fun _ => True) w).alloc (.cells #[.string (AOp.name .plus), .int .i64 A, .int .i64 B, .int .i64 C, .int .i64 (N : Int), .slice ka 0 kc] 24))
  have hb30 : ((s : Int) == 30) = false := by rw [beq_eq_false_iff_ne]; omega
  unfold AOp.name at HK ⊢
  go_enter Try.func25, Try.ntmps25
  go_wp2_with fail
  refine refPlus hN hs ?_; rintro e w1 rfl k1
  have HK1 := hide (HK.out.tr k1)
  clear k1
  go_wp2_with fail
  exact HR.out _ _ rfl HK1.out

set_option maxRecDepth 10000 in
set_option maxHeartbeats 1000000 in
theorem refStep30 {o : AOp} {A B C N : Int} {a b d : Int} {ka : Option Addr} {kc : Nat} (hR : ∀ e w', e = .returned (.int .i64 30) → Same w w' → R e w') :
    Calls Try.prog 25 #[.agg #[.string o.name, .int .i64 A, .int .i64 B, .int .i64 C, .int .i64 N, .slice ka 0 kc], .int .i64 30, .int .i64 a, .int .i64 b, .int .i64 d] w R := by
  have HR := hide hR
  clear hR
  have HK := hide ((Keeps.refl (fun _ => True) w).alloc (.cells #[.string o.name, .int .i64 A, .int .i64 B, .int .i64 C, .int .i64 N, .slice ka 0 kc] 24))
  go_enter Try.func25, Try.ntmps25
  go_wp2_with fail
  exact HR.out _ _ rfl HK.out

theorem refStep {o : AOp} {A B C : Int} {N s : Nat} {a b d : Bool} {ka : Option Addr} {kc : Nat} (hN : N ≤ 20) (hs : s ≤ 30) (hR : ∀ e w', e = .returned (.int .i64 (stepO o N s a b d : Int)) → Same w w' → R e w') :
    Calls Try.prog 25 #[.agg #[.string o.name, .int .i64 A, .int .i64 B, .int .i64 C, .int .i64 (N : Int), .slice ka 0 kc], .int .i64 (s : Int), .int .i64 (bI a), .int .i64 (bI b), .int .i64 (bI d)] w R := by
  rcases Nat.eq_or_lt_of_le hs with rfl | hs
  · exact refStep30 fun e w' he hk => hR e w' (by rw [he]; rfl) hk
  cases o with
  | tru => exact refStep_tru hs hR
  | sub => exact refStep_sub hs hR
  | non => exact refStep_non hs hR
  | uni => exact refStep_uni hs hR
  | int => exact refStep_int hs hR
  | mns => exact refStep_mns hs hR
  | sing => exact refStep_sing hs hR
  | flag => exact refStep_flag hs hR
  | less => exact refStep_less hs hR
  | plus => exact refStep_plus hN hs hR
  | num => exact refStep_num hN hs hR

set_option maxRecDepth 10000 in
set_option maxHeartbeats 2000000 in
theorem refAcc {o : AOp} {A B C : Int} {N s : Nat} {ka : Option Addr} {kc : Nat} (hN : N ≤ 20) (hs : s ≤ 30) (hR : ∀ e w', e = .returned (.bool (accO o N s)) → Same w w' → R e w') :
    Calls Try.prog 26 #[.agg #[.string o.name, .int .i64 A, .int .i64 B, .int .i64 C, .int .i64 (N : Int), .slice ka 0 kc], .int .i64 (s : Int)] w R := by
  have HR := hide hR
  clear hR
  have HK := hide ((Keeps.refl (fun _ => True) w).alloc (.cells #[.string o.name, .int .i64 A, .int .i64 B, .int .i64 C, .int .i64 (N : Int), .slice ka 0 kc] 24))
  rcases Nat.eq_or_lt_of_le hs with rfl | hs
  · go_enter Try.func26, Try.ntmps26
    go_wp2_with fail
    exact HR.out _ _ rfl HK.out
  have hb30 : ((s : Int) == 30) = false := by rw [beq_eq_false_iff_ne]; omega
  have h1 : ((s : Int) == 1) = decide (s = 1) := by
    cases h : decide (s = 1) with
    | true => rw [of_decide_eq_true h]; rfl
    | false => rw [beq_eq_false_iff_ne]; have := of_decide_eq_false h; omega
  have h2 : ((s : Int) == 2) = decide (s = 2) := by
    cases h : decide (s = 2) with
    | true => rw [of_decide_eq_true h]; rfl
    | false => rw [beq_eq_false_iff_ne]; have := of_decide_eq_false h; omega
  have h3 : ((s : Int) == (N : Int) + 1) = decide (s = N + 1) := by
    cases h : decide (s = N + 1) with
    | true => rw [of_decide_eq_true h]; simp
    | false => rw [beq_eq_false_iff_ne]; have := of_decide_eq_false h; omega
  have H123 := hide (And.intro h1 (And.intro h2 h3))
  clear h1 h2 h3
  cases o <;>
  · unfold AOp.name at HK ⊢
    go_enter Try.func26, Try.ntmps26
    go_wp2_with fail
    refine HR.out _ _ (ret_bool ?_) HK.out
    unfold accO
    rw [if_neg (show ¬ s = 30 by omega)]
    all_goals first | rfl | exact H123.out.1 | exact H123.out.2.1 | exact H123.out.2.2

end Go.Proofs.Ytgpgbkoaopfjkaa
