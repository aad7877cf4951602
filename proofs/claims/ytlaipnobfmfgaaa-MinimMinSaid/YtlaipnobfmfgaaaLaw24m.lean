/- The walk of sibyllaw24.MinimMin. -/
import Derived.Test.YtlaipnobfmfgaaaLaw24
import Derived.Test.YtlaipnobfmfgaaaMinRef5
namespace Go.Proofs.Ytlaipnobfmfgaaa
open Go.RowKit

attribute [local irreducible] wpQuiet wpPlan wpPlanZ wpUp

variable {R : Ending → World → Prop} {w : World} {A : Au}

set_option maxRecDepth 10000 in
set_option maxHeartbeats 8000000 in
theorem minimMinWalk (va : Value) (A : Au) (w : World) (hA : AutoAt w va A) :
    Calls Try.prog 3 #[va] w fun e w' => e = .returned (.bool true) ∧ Below w.heap.size w w' := by
  refine law_of fun R HR => ?_
  have HA := hide hA
  obtain ⟨xa, xn, rfl, hacc, hnext, _⟩ := hA
  obtain ⟨aa, ac', rfl, _, hac2, _⟩ := hacc.open
  obtain ⟨na, nc, rfl, _⟩ := hnext.open
  unfold maxLen at hac2
  have hA1 := heap_new w (.cells #[.int .i64 A.T, .slice aa A.acc.length ac', .slice na A.next.length nc] 25)
  have kA : Same w (w.alloc (.cells #[.int .i64 A.T, .slice aa A.acc.length ac', .slice na A.next.length nc] 25)) := (Keeps.refl _ w).alloc _
  go_enter Try.func3, Try.ntmps3
  go_wp2_with fail
  generalize w.alloc (.cells #[.int .i64 A.T, .slice aa A.acc.length ac', .slice na A.next.length nc] 25) = wb at hA1 kA ⊢
  have BXA := hide hA1
  have HKB := hide kA
  generalize w.heap.size = xb at hA1 BXA ⊢
  have q0 := cell_at hA1 0; have q1 := cell_at hA1 1; have q2 := cell_at hA1 2; simp only [List.getElem?_toArray, List.getElem?_cons_zero, List.getElem?_cons_succ] at q0 q1 q2
  clear hA1 kA hacc hnext
  go_wp2_with fail
  refine may24 (HA.out.same HKB.out) ?_; rintro e w1 rfl k1
  cases hmA : mayB A with
  | false =>
    go_wp2_with fail
    exact HR.out _ _ rfl ((HKB.out.tr k1).mono fun _ _ _ => trivial)
  | true =>
  have HOK := hide (show AuOk A by unfold mayB at hmA; exact (of_decide_eq_true hmA).2.2)
  have HMOK := hide (min_ok HOK.out)
  have HSI : Hid (∀ y ∈ (stab A).map Int.ofNat, InI64 y) := hide (nat_ints fun y hy => by have := clsK_lt A _ y hy; have := HOK.out.1.2.2.2.1; omega)
  have hS := k1.at BXA.out trivial
  have HK1 := hide (HKB.out.tr k1)
  have q0 := cell_at hS 0; have q1 := cell_at hS 1; have q2 := cell_at hS 2; simp only [List.getElem?_toArray, List.getElem?_cons_zero, List.getElem?_cons_succ] at q0 q1 q2
  have BX1 := hide hS
  clear hmA hS k1
  go_wp2_with fail
  refine of24 (HA.out.same HK1.out) HOK.out ?_; rintro e w2 d2 rfl dd2 k2
  have HD2 := hide dd2
  have HK2 := hide (HK1.out.tr k2)
  have BX2 := hide (k2.at BX1.out trivial)
  clear dd2 k2 q0 q1 q2
  go_wp2_with fail
  refine minMin HD2.out ?_; rintro e w3 d3 rfl dd3 k3
  have HD3 := hide dd3
  have HK3 := hide (HK2.out.tr k3)
  have BX3 := hide (k3.at BX2.out trivial)
  clear dd3 k3
  go_wp2_with fail
  have kd : Same w3 w3.drew := Keeps.drew (Keeps.refl (fun _ => True) w3)
  refine wp_region_plan (.take 0 (.take 1 (.take 2 (.take 3 (.take 4 (.take 5 (.take 6 (.take 7 (.take 9 (.one 8 (.one 10 (.one 11 (.take 12 (.take 13 (.take 14 (.take 17 (.one 15 (.one 16 (.one 18 (.one 19 (.take 20 (.take 21 (.one 22 (.take 23 (.take 24 .done))))))))))))))))))))))))) (fun w' => w'.heap[xb]? = some (.cells #[.int .i64 A.T, .slice aa A.acc.length ac', .slice na A.next.length nc] 25 (0, 0))) (by kernel_rfl) (by kernel_rfl) (kd.at BX3.out trivial) ?_
  iterate 9
    (first
       | (apply pl_pass
          case ho => rfl
          case hw => rfl
          go_simp)
       | (apply pl_take
          case ho => rfl
          case hw => rfl
          case hv =>
            intro w' hS
            (have q0 := cell_at hS 0; have q1 := cell_at hS 1; have q2 := cell_at hS 2; simp only [List.getElem?_toArray, List.getElem?_cons_zero, List.getElem?_cons_succ] at q0 q1 q2)
            go_simp
            exact rfl
          go_simp))
  refine pl_one (up_do rfl rfl fun K hK1 => ?_)
  go_simp
  refine dfaTo (HD3.out.same kd) ?_; rintro e w4 v4 rfl o4 k4
  have c4 := kd.tr k4
  refine hK1 _ _ _ (c4.at BX3.out trivial) (fun _ h => h) ?_
  clear hK1 K
  refine pl_one (up_do rfl rfl fun K hK1 => ?_)
  go_simp
  refine refMin (HA.out.same (HK3.out.tr c4)) HOK.out ?_; rintro e w5 v5 rfl o5 k5
  have c5 := c4.tr k5
  refine hK1 _ _ _ (c5.at BX3.out trivial) (fun _ h => h) ?_
  clear hK1 K
  refine pl_one (up_do rfl rfl fun K hK1 => ?_)
  go_simp
  refine refSameA ((o4.auto HMOK.out).same k5) o5 ?_; rintro e w6 rfl k6
  have c6 := c5.tr k6
  refine hK1 _ _ _ (c6.at BX3.out trivial) (fun _ h => h) ?_
  clear hK1 K
  iterate 4
    (first
       | (apply pl_pass
          case ho => rfl
          case hw => rfl
          go_simp)
       | (apply pl_take
          case ho => rfl
          case hw => rfl
          case hv =>
            intro w' hS
            (have q0 := cell_at hS 0; have q1 := cell_at hS 1; have q2 := cell_at hS 2; simp only [List.getElem?_toArray, List.getElem?_cons_zero, List.getElem?_cons_succ] at q0 q1 q2)
            go_simp
            exact rfl
          go_simp))
  refine pl_one (up_do rfl rfl fun K hK1 => ?_)
  go_simp
  refine of24 (HA.out.same (HK3.out.tr c6)) HOK.out ?_; rintro e w7 d7 rfl dd7 k7
  have c7 := c6.tr k7
  refine hK1 _ _ _ (c7.at BX3.out trivial) (fun _ h => h) ?_
  clear hK1 K
  refine pl_one (up_do rfl rfl fun K hK1 => ?_)
  go_simp
  refine minClasses dd7 ?_; rintro e w8 u8 rfl o8 k8
  have c8 := c7.tr k8
  refine hK1 _ _ _ (c8.at BX3.out trivial) (fun _ h => h) ?_
  clear hK1 K
  refine pl_one (up_do rfl rfl fun K hK1 => ?_)
  go_simp
  refine refClasses (HA.out.same (HK3.out.tr c8)) HOK.out ?_; rintro e w9 u9 rfl o9 k9
  have c9 := c8.tr k9
  refine hK1 _ _ _ (c9.at BX3.out trivial) (fun _ h => h) ?_
  clear hK1 K
  refine pl_one (up_do rfl rfl fun K hK1 => ?_)
  go_simp
  refine sameInts ((o8.ints HSI.out).same k9) o9 ?_; rintro e w10 rfl k10
  rw [decide_eq_true rfl]
  have c10 := c9.tr k10
  refine hK1 _ _ _ (c10.at BX3.out trivial) (fun _ h => h) ?_
  clear hK1 K
  iterate 2
    (first
       | (apply pl_pass
          case ho => rfl
          case hw => rfl
          go_simp)
       | (apply pl_take
          case ho => rfl
          case hw => rfl
          case hv =>
            intro w' hS
            (skip)
            go_simp
            exact rfl
          go_simp))
  refine pl_one (up_do rfl rfl fun K hK1 => ?_)
  go_simp
  refine known24 ?_; rintro e w11 rfl k11
  have c11 := c10.tr k11
  refine hK1 _ _ _ (c11.at BX3.out trivial) (fun _ h => h) ?_
  clear hK1 K
  iterate 2
    (first
       | (apply pl_pass
          case ho => rfl
          case hw => rfl
          go_simp)
       | (apply pl_take
          case ho => rfl
          case hw => rfl
          case hv =>
            intro w' hS
            (skip)
            go_simp
            exact rfl
          go_simp))
  refine pl_done ?_
  have HF := hide ((HK3.out.tr c11).mono (S' := (· < w.heap.size)) fun _ _ _ => trivial)
  clear kd c4 c5 c6 c7 c8 c9 c10 c11 k4 k5 k6 k7 k8 k9 k10 k11 o4 o5 o8 o9 dd7
  go_wp2_with fail
  exact HR.out _ _ rfl HF.out

end Go.Proofs.Ytlaipnobfmfgaaa
