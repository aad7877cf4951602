/- The walk of LookLengths. -/
import Derived.Test.YtohhjdadhdibfaaRefLen
import Derived.Test.YtohhjdadhdibfaaKnown21
namespace Go.Proofs.Ytohhjdadhdibfaa
open Go.RowKit

attribute [local irreducible] wpQuiet wpPlan wpPlanZ wpUp

set_option maxRecDepth 10000 in
set_option maxHeartbeats 4000000 in
theorem lookLengthsWalk (va : Value) (A : Au) (most : Int) (w : World) (hA : AutoAt w va A) (_ : InI64 most) :
    Calls Try.prog 13 #[va, .int .i64 most] w fun e w' => e = .returned (.bool true) ∧ Below w.heap.size w w' := by
  refine law_of fun R HR => ?_
  have HA := hide hA
  obtain ⟨xa, xn, rfl, hacc, hnext, hT⟩ := hA
  obtain ⟨aa, ac', rfl, _⟩ := hacc.open
  obtain ⟨na, nc, rfl, _⟩ := hnext.open
  have hA1 := heap_new w (.cells #[.int .i64 A.T, .slice aa A.acc.length ac', .slice na A.next.length nc] 25)
  have kA : Same w (w.alloc (.cells #[.int .i64 A.T, .slice aa A.acc.length ac', .slice na A.next.length nc] 25)) := (Keeps.refl _ w).alloc _
  go_enter Try.func13, Try.ntmps13
  go_wp2_with fail
  generalize w.alloc (.cells #[.int .i64 A.T, .slice aa A.acc.length ac', .slice na A.next.length nc] 25) = wb at hA1 kA ⊢
  have BXA := hide hA1
  have HKB := hide kA
  generalize w.heap.size = xb at hA1 BXA ⊢
  clear hA1 kA hacc hnext
  refine may21 (HA.out.same HKB.out) ?_; rintro e w1 rfl k1
  have hS := k1.at BXA.out trivial
  have HK1 := hide (HKB.out.tr k1)
  have q0 := cell_at hS 0; have q1 := cell_at hS 1; have q2 := cell_at hS 2; simp only [List.getElem?_toArray, List.getElem?_cons_zero, List.getElem?_cons_succ] at q0 q1 q2
  have BX1 := hide hS
  clear k1 hS
  unfold InI64 at hT
  cases hmA : mayB A with
  | false =>
    go_wp2_with fail
    exact HR.out _ _ rfl (HK1.out.mono fun _ _ _ => trivial)
  | true =>
  have HOK := hide (show AuOk A by unfold mayB at hmA; exact (of_decide_eq_true hmA).2.2)
  clear hmA
  by_cases c1 : most < 0
  · go_wp2_with fail
    exact HR.out _ _ rfl (HK1.out.mono fun _ _ _ => trivial)
  by_cases c2 : 60 < most
  · go_wp2_with fail
    exact HR.out _ _ rfl (HK1.out.mono fun _ _ _ => trivial)
  by_cases c3 : 3 < A.T
  · go_wp2_with fail
    exact HR.out _ _ rfl (HK1.out.mono fun _ _ _ => trivial)
  obtain ⟨mn, rfl⟩ := Int.eq_ofNat_of_zero_le (show 0 ≤ most by omega)
  have HM60 : Hid (mn ≤ 60) := hide (by omega)
  go_wp2_with fail
  clear c1 c2 c3
  have kd : Same w1 w1.drew := Keeps.drew (Keeps.refl (fun _ => True) w1)
  refine wp_region_plan (.take 0 (.take 2 (.take 4 (.take 5 (.one 1 (.one 3 (.one 6 (.one 7 (.take 8 (.one 9 (.take 10 (.take 11 .done)))))))))))) (fun w' => w'.heap[xb]? = some (.cells #[.int .i64 A.T, .slice aa A.acc.length ac', .slice na A.next.length nc] 25 (0, 0))) (by kernel_rfl) (by kernel_rfl) (kd.at BX1.out trivial) ?_
  iterate 4
    (first
       | (apply pl_pass
          case ho => rfl
          case hw => rfl
          go_simp)
       | (apply pl_take
          case ho => rfl
          case hw => rfl
          case hv =>
            intro w' hS
            (have q0 := cell_at hS 0; have q1 := cell_at hS 1; have q2 := cell_at hS 2; simp only [List.getElem?_toArray, List.getElem?_cons_zero, List.getElem?_cons_succ] at q0 q1 q2)
            go_simp
            exact rfl
          go_simp))
  refine pl_one (up_do rfl rfl fun K hK1 => ?_)
  go_simp
  refine of21 (HA.out.same (HK1.out.tr kd)) HOK.out ?_; rintro e w2 d2 rfl dd2 k2
  have c2 := kd.tr k2
  refine hK1 _ _ _ (c2.at BX1.out trivial) (fun _ h => h) ?_
  clear hK1 K
  refine pl_one (up_do rfl rfl fun K hK1 => ?_)
  go_simp
  refine lookLengths dd2 HM60.out ?_; rintro e w3 v3 rfl i3 k3
  have c3 := c2.tr k3
  refine hK1 _ _ _ (c3.at BX1.out trivial) (fun _ h => h) ?_
  clear hK1 K
  refine pl_one (up_do rfl rfl fun K hK1 => ?_)
  go_simp
  refine refLengths (HA.out.same (HK1.out.tr c3)) HOK.out HM60.out ?_; rintro e w4 v4 rfl i4 k4
  have c4 := c3.tr k4
  refine hK1 _ _ _ (c4.at BX1.out trivial) (fun _ h => h) ?_
  clear hK1 K
  refine pl_one (up_do rfl rfl fun K hK1 => ?_)
  go_simp
  refine sameInts (i3.same k4) i4 ?_; rintro e w5 rfl k5
  have c5 := c4.tr k5
  refine hK1 _ _ _ (c5.at BX1.out trivial) (fun _ h => h) ?_
  clear hK1 K
  iterate 1
    (first
       | (apply pl_pass
          case ho => rfl
          case hw => rfl
          go_simp)
       | (apply pl_take
          case ho => rfl
          case hw => rfl
          case hv =>
            intro w' hS
            (skip)
            go_simp
            exact rfl
          go_simp))
  refine pl_one (up_do rfl rfl fun K hK1 => ?_)
  go_simp
  refine known21 ?_; rintro e w6 rfl k6
  have c6 := c5.tr k6
  refine hK1 _ _ _ (c6.at BX1.out trivial) (fun _ h => h) ?_
  clear hK1 K
  iterate 2
    (first
       | (apply pl_pass
          case ho => rfl
          case hw => rfl
          go_simp)
       | (apply pl_take
          case ho => rfl
          case hw => rfl
          case hv =>
            intro w' hS
            (skip)
            go_simp
            exact rfl
          go_simp))
  refine pl_done ?_
  have HF := hide ((HK1.out.tr c6).mono (S' := (· < w.heap.size)) fun _ _ _ => trivial)
  clear kd c2 c3 c4 c5 c6 k2 k3 k4 k5 k6 i3 i4 dd2 q0 q1 q2
  go_wp2_with fail
  exact HR.out _ _ rfl HF.out

end Go.Proofs.Ytohhjdadhdibfaa
