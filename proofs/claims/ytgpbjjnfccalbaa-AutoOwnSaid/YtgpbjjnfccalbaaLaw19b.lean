/- The walk of AutoRuns. -/
import Derived.Test.YtgpbjjnfccalbaaLaw19
import Derived.Test.YtgpbjjnfccalbaaRun19
namespace Go.Proofs.Ytgpbjjnfccalbaa
open Go.RowKit

variable {R : Ending → World → Prop} {w : World}

theorem mayB_ok {A : Au} (h : mayB A = true) : A.acc.length ≤ 40 ∧ A.next.length ≤ 40 ∧ AuOk A := by
  unfold mayB at h
  exact of_decide_eq_true h

set_option maxHeartbeats 1000000 in
theorem autoRunsWalk (v : Value) (A : Au) (u : Value) (l : List Int) (w : World) (hA : AutoAt w v A) (hv : IntsAt w u l) :
    Calls Try.prog 3 #[v, u] w fun e w' => e = .returned (.bool true) ∧ Below w.heap.size w w' := by
  refine law_of fun R HR => ?_
  have HA := hide hA
  have HV := hide hv
  obtain ⟨va, vn, rfl, hacc, hnext, hT⟩ := hA
  obtain ⟨aa, ac, rfl, _⟩ := hacc.open
  obtain ⟨na, nc, rfl, _⟩ := hnext.open
  obtain ⟨wa, wc, rfl, he1, he2, _⟩ := hv.open
  unfold maxLen at he2
  have hk : Same w (w.alloc (.cells #[.int .i64 A.T, .slice aa A.acc.length ac, .slice na A.next.length nc] 25)) := (Keeps.refl _ w).alloc _
  have hbox := heap_new w (.cells #[.int .i64 A.T, .slice aa A.acc.length ac, .slice na A.next.length nc] 25)
  have HB := hide hbox
  have HK := hide hk
  clear hacc hnext hT hv hbox hk
  cases hm : mayB A with
  | false =>
    go_enter Try.func3, Try.ntmps3
    go_wp2_with fail
    refine may19 (HA.out.same HK.out) ?_; rintro e w1 rfl k1
    rw [hm]
    go_wp2_with fail
    exact HR.out _ _ rfl ((HK.out.tr k1).mono fun _ _ _ => trivial)
  | true =>
    by_cases hl : 200 < l.length
    · go_enter Try.func3, Try.ntmps3
      go_wp2_with fail
      refine may19 (HA.out.same HK.out) ?_; rintro e w1 rfl k1
      rw [hm]
      go_wp2_with fail
      exact HR.out _ _ rfl ((HK.out.tr k1).mono fun _ _ _ => trivial)
    · have HOK := hide (mayB_ok hm).2.2
      go_enter Try.func3, Try.ntmps3
      go_wp2_with fail
      refine may19 (HA.out.same HK.out) ?_; rintro e w1 rfl k1
      rw [hm]
      have b1 := k1.at HB.out trivial
      have HK1 := hide (HK.out.tr k1)
      clear k1
      have q0 := cell_at b1 0
      have q1 := cell_at b1 1
      have q2 := cell_at b1 2
      simp only [List.getElem?_toArray, List.getElem?_cons_zero, List.getElem?_cons_succ] at q0 q1 q2
      have B1 := hide b1
      clear b1
      go_wp2_with fail
      refine of19 (HA.out.same HK1.out) HOK.out ?_; rintro e w2 d rfl d2 k2
      clear q0 q1 q2
      have HK2 := hide (HK1.out.tr k2)
      have b2 := k2.at B1.out trivial
      clear k2
      have q0 := cell_at b2 0
      have q1 := cell_at b2 1
      have q2 := cell_at b2 2
      simp only [List.getElem?_toArray, List.getElem?_cons_zero, List.getElem?_cons_succ] at q0 q1 q2
      have B2 := hide b2
      clear b2
      go_wp2_with fail
      refine dfaRun d2 (HV.out.same HK2.out) ?_; rintro e w3 rfl k3
      clear q0 q1 q2
      have HK3 := hide (HK2.out.tr k3)
      have b3 := k3.at B2.out trivial
      clear k3 d2
      have q0 := cell_at b3 0
      have q1 := cell_at b3 1
      have q2 := cell_at b3 2
      simp only [List.getElem?_toArray, List.getElem?_cons_zero, List.getElem?_cons_succ] at q0 q1 q2
      clear b3
      go_wp2_with fail
      refine refRun (HA.out.same HK3.out) HOK.out (HV.out.same HK3.out) ?_; rintro e w4 rfl k4
      have HK4 := hide (HK3.out.tr k4)
      clear k4 q0 q1 q2
      generalize runA A l = r
      generalize accA A r = b
      go_wp2_with fail
      refine known19 ?_; rintro e w5 rfl k5
      go_wp2_with fail
      exact HR.out _ _ rfl ((HK4.out.tr k5).mono fun _ _ _ => trivial)

end Go.Proofs.Ytgpbjjnfccalbaa
