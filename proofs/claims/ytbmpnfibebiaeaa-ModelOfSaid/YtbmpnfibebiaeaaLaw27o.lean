/- The walk of ModelOf. -/
import Derived.Test.YtbmpnfibebiaeaaKnown27
import Derived.Test.YtbmpnfibebiaeaaRefOf27
namespace Go.Proofs.Ytbmpnfibebiaeaa
open Go.RowKit

attribute [local irreducible] wpQuiet wpPlan wpPlanZ wpUp

variable {R : Ending → World → Prop} {w : World} {A : Au} {B d : Nat}

set_option maxRecDepth 10000 in
set_option maxHeartbeats 4000000 in
theorem modelOfWalk (va : Value) (A : Au) (vd : Value) (D : List Dl) (w : World) (hA : AutoAt w va A) (hD : DeclsAt w vd D) :
    Calls Try.prog 3 #[va, vd] w fun e w' => e = .returned (.bool true) ∧ Below w.heap.size w w' := by
  refine law_of fun R HR => ?_
  have HA := hide hA
  have HD := hide hD
  obtain ⟨xa, xn, rfl, hacc, hnext, _⟩ := hA
  obtain ⟨aa, ac', rfl, _, hac2, _⟩ := hacc.open
  obtain ⟨na, nc, rfl, _⟩ := hnext.open
  obtain ⟨da, dc, rfl, hdc1, hdc2, _⟩ := hD.open
  unfold maxLen at hdc2
  have hA1 := heap_new w (.cells #[.int .i64 A.T, .slice aa A.acc.length ac', .slice na A.next.length nc] 25)
  have kA : Same w (w.alloc (.cells #[.int .i64 A.T, .slice aa A.acc.length ac', .slice na A.next.length nc] 25)) := (Keeps.refl _ w).alloc _
  clear hD
  go_enter Try.func3, Try.ntmps3
  go_wp2_with fail
  generalize w.alloc (.cells #[.int .i64 A.T, .slice aa A.acc.length ac', .slice na A.next.length nc] 25) = wb at hA1 kA ⊢
  have BXA := hide hA1
  have HKB := hide kA
  generalize w.heap.size = xb at hA1 BXA ⊢
  clear hA1 kA hacc hnext hac2
  refine may27 (HA.out.same HKB.out) ?_; rintro e w1 rfl k1
  cases hmA : mayB A with
  | false =>
    go_wp2_with fail
    exact HR.out _ _ rfl ((HKB.out.tr k1).mono fun _ _ _ => trivial)
  | true =>
  have HOK := hide (show AuOk A by unfold mayB at hmA; exact (of_decide_eq_true hmA).2.2)
  have HK1 := hide (HKB.out.tr k1)
  have hS := k1.at BXA.out trivial
  have BX1 := hide hS
  have q0 := cell_at hS 0; have q1 := cell_at hS 1; have q2 := cell_at hS 2; simp only [List.getElem?_toArray, List.getElem?_cons_zero, List.getElem?_cons_succ] at q0 q1 q2
  clear hmA k1 hS
  by_cases hlen : 20 < D.length
  · go_wp2_with fail
    exact HR.out _ _ rfl (HK1.out.mono fun _ _ _ => trivial)
  go_wp2_with fail
  refine of27 (HA.out.same HK1.out) HOK.out ?_; rintro e w2 d2 rfl dd2 k2
  have HD2 := hide dd2
  have HK2 := hide (HK1.out.tr k2)
  have BX2 := hide (k2.at BX1.out trivial)
  clear dd2 k2 q0 q1 q2
  go_wp2_with fail
  by_cases hex : (∃ K, Dst A K 0) ∧ A.T = (D.length : Int)
  · obtain ⟨⟨K, hd⟩, hT⟩ := hex
    have HDS := hide hd
    have HT := hide hT
    clear hd hT
    refine modelOf HD2.out (HD.out.same HK2.out) HDS.out HT.out ?_; rintro e w3 u3 rfl v3 k3
    have HV3 := hide v3
    obtain ⟨ua, uc, _, rfl, _, _, _⟩ := v3.open
    have HK3 := hide (HK2.out.tr k3)
    have hS := k3.at BX2.out trivial
    have q0 := cell_at hS 0; have q1 := cell_at hS 1; have q2 := cell_at hS 2; simp only [List.getElem?_toArray, List.getElem?_cons_zero, List.getElem?_cons_succ] at q0 q1 q2
    clear v3 k3 hS
    go_wp2_with fail
    refine refOf27 (HA.out.same HK3.out) HOK.out (HD.out.same HK3.out) HDS.out HT.out ?_; rintro e w4 u4 rfl v4 k4
    have HV4 := hide v4
    obtain ⟨ub, ud, _, rfl, _, _, _⟩ := v4.open
    have HV34 := hide (HV3.out.same k4)
    have HK4 := hide (HK3.out.tr k4)
    clear v4 k4 q0 q1 q2
    go_wp2_with fail
    refine refSame27 HV34.out HV4.out ?_; rintro e w5 rfl k5
    rw [show decide (valsOf D (greedy A K 0) = valsOf D (greedy A K 0)) = true by simp]
    have HK5 := hide (HK4.out.tr k5)
    clear k5
    go_wp2_with fail
    refine known27 ?_; rintro e w6 rfl k6
    have HK6 := hide (HK5.out.tr k6)
    clear k6
    go_wp2_with fail
    exact HR.out _ _ rfl (HK6.out.mono fun _ _ _ => trivial)
  · have HNO : Hid ((¬ ∃ K, Dst A K 0) ∨ A.T ≠ (D.length : Int)) := hide (by
      rcases Classical.em (∃ K, Dst A K 0) with h | h
      · exact .inr fun e => hex ⟨h, e⟩
      · exact .inl h)
    clear hex
    refine modelOfNot HD2.out (HD.out.same HK2.out) HNO.out ?_; rintro e w3 rfl k3
    have HK3 := hide (HK2.out.tr k3)
    have hS := k3.at BX2.out trivial
    have q0 := cell_at hS 0; have q1 := cell_at hS 1; have q2 := cell_at hS 2; simp only [List.getElem?_toArray, List.getElem?_cons_zero, List.getElem?_cons_succ] at q0 q1 q2
    clear k3 hS
    go_wp2_with fail
    refine refOf27Not (HA.out.same HK3.out) HOK.out (HD.out.same HK3.out) HNO.out ?_; rintro e w4 rfl k4
    have HK4 := hide (HK3.out.tr k4)
    clear k4 q0 q1 q2
    go_wp2_with fail
    refine refSame27 (vals_nil _) (vals_nil _) ?_; rintro e w5 rfl k5
    rw [show decide (([] : List Vl) = []) = true by simp]
    have HK5 := hide (HK4.out.tr k5)
    clear k5
    go_wp2_with fail
    refine known27 ?_; rintro e w6 rfl k6
    have HK6 := hide (HK5.out.tr k6)
    clear k6
    go_wp2_with fail
    exact HR.out _ _ rfl (HK6.out.mono fun _ _ _ => trivial)

end Go.Proofs.Ytbmpnfibebiaeaa
