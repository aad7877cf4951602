/- The walk of ProdNot. -/
import Derived.Test.YtameihkcajceeaaLaw20
import Derived.Test.YtameihkcajceeaaRef20n
namespace Go.Proofs.Ytameihkcajceeaa
open Go.RowKit

attribute [local irreducible] wpQuiet wpPlan wpPlanZ wpUp

set_option maxRecDepth 10000 in
set_option maxHeartbeats 1000000 in
theorem prodNotWalk (va : Value) (A : Au) (w : World) (hA : AutoAt w va A) :
    Calls Try.prog 3 #[va] w fun e w' => e = .returned (.bool true) ∧ Below w.heap.size w w' := by
  refine law_of fun R HR => ?_
  have HA := hide hA
  obtain ⟨xa, xn, rfl, hacc, hnext, _⟩ := hA
  obtain ⟨aa, ac, rfl, _⟩ := hacc.open
  obtain ⟨na, nc, rfl, _⟩ := hnext.open
  have hA1 := heap_new w (.cells #[.int .i64 A.T, .slice aa A.acc.length ac, .slice na A.next.length nc] 25)
  have kA : Same w (w.alloc (.cells #[.int .i64 A.T, .slice aa A.acc.length ac, .slice na A.next.length nc] 25)) := (Keeps.refl _ w).alloc _
  go_enter Try.func3, Try.ntmps3
  go_wp2_with fail
  generalize w.alloc (.cells #[.int .i64 A.T, .slice aa A.acc.length ac, .slice na A.next.length nc] 25) = wb at hA1 kA ⊢
  have BXA := hide hA1
  have HKB := hide kA
  clear hA1 kA hacc hnext
  refine may20 (HA.out.same HKB.out) ?_; rintro e w1 rfl k1
  cases hmA : mayB A with
  | false =>
    go_wp2_with fail
    exact HR.out _ _ rfl ((HKB.out.tr k1).mono fun _ _ _ => trivial)
  | true =>
  have HOKA := hide (mayB_ok hmA).2.2
  have HNOK := hide (notAu_ok HOKA.out)
  have hS := k1.at BXA.out trivial
  have q0 := cell_at hS 0; have q1 := cell_at hS 1; have q2 := cell_at hS 2; simp only [List.getElem?_toArray, List.getElem?_cons_zero, List.getElem?_cons_succ] at q0 q1 q2
  have BXA1 := hide hS
  have HK1 := hide (HKB.out.tr k1)
  clear hmA hS k1
  go_wp2_with fail
  refine of20 (HA.out.same HK1.out) HOKA.out ?_; rintro e w2 d2 rfl dd2 k2
  have HK2 := hide (HK1.out.tr k2)
  have BXA2 := hide (k2.at BXA1.out trivial)
  have D2 := hide dd2
  clear k2 dd2 q0 q1 q2
  go_wp2_with fail
  refine prodNot D2.out ?_; rintro e w3 d3 rfl dd3 k3
  have HK3 := hide (HK2.out.tr k3)
  have BXA3 := hide (k3.at BXA2.out trivial)
  have D3 := hide dd3
  clear k3 dd3
  go_wp2_with fail
  have kd : Same w3 w3.drew := Keeps.drew (Keeps.refl (fun _ => True) w3)
  refine wp_region_plan (.take 0 (.take 1 (.take 2 (.take 3 (.take 4 (.take 5 (.take 6 (.take 7 (.take 9 (.one 8 (.one 10 (.one 11 (.take 12 (.take 13 .done)))))))))))))) (fun w' => w'.heap[w.heap.size]? = some (.cells #[.int .i64 A.T, .slice aa A.acc.length ac, .slice na A.next.length nc] 25 (0, 0))) (by kernel_rfl) (by kernel_rfl) (kd.at BXA3.out trivial) ?_
  iterate 9
    (first
       | (apply pl_pass
          case ho => rfl
          case hw => rfl
          go_simp)
       | (apply pl_take
          case ho => rfl
          case hw => rfl
          case hv =>
            intro w' hS
            (have q0 := cell_at hS 0; have q1 := cell_at hS 1; have q2 := cell_at hS 2; simp only [List.getElem?_toArray, List.getElem?_cons_zero, List.getElem?_cons_succ] at q0 q1 q2)
            go_simp
            exact rfl
          go_simp))
  refine pl_one (up_do rfl rfl fun K hK1 => ?_)
  go_simp
  refine dfaTo (D3.out.same kd) ?_; rintro e w4 v4 rfl o4 k4
  have k4' := kd.tr k4
  refine hK1 _ _ _ (k4'.at BXA3.out trivial) (fun _ h => h) ?_
  clear hK1 K
  refine pl_one (up_do rfl rfl fun K hK1 => ?_)
  go_simp
  refine refNot (HA.out.same (HK3.out.tr k4')) HOKA.out ?_; rintro e w5 v5 rfl a5 k5
  have k5' := k4'.tr k5
  refine hK1 _ _ _ (k5'.at BXA3.out trivial) (fun _ h => h) ?_
  clear hK1 K
  refine pl_one (up_do rfl rfl fun K hK1 => ?_)
  go_simp
  refine refSameA ((o4.auto HNOK.out).same k5) a5 ?_; rintro e w6 rfl k6
  have k6' := k5'.tr k6
  refine hK1 _ _ _ (k6'.at BXA3.out trivial) (fun _ h => h) ?_
  clear hK1 K
  iterate 2
    (first
       | (apply pl_pass
          case ho => rfl
          case hw => rfl
          go_simp)
       | (apply pl_take
          case ho => rfl
          case hw => rfl
          case hv =>
            intro w' hS
            (skip)
            go_simp
            exact rfl
          go_simp))
  refine pl_done ?_
  have HK6 := hide (HK3.out.tr k6')
  have BXA6 := hide (k6'.at BXA3.out trivial)
  have D6 := hide (D3.out.same k6')
  clear k4 k5 k6 k4' k5' k6' kd a5 o4
  go_wp2_with fail
  refine prodNot D6.out ?_; rintro e w7 d7 rfl dd7 k7
  rw [notAu_not] at dd7
  have HK7 := hide (HK6.out.tr k7)
  have BXA7 := hide (k7.at BXA6.out trivial)
  have D7 := hide dd7
  clear k7 dd7
  go_wp2_with fail
  have kd : Same w7 w7.drew := Keeps.drew (Keeps.refl (fun _ => True) w7)
  refine wp_region_plan (.take 0 (.take 1 (.take 2 (.take 3 (.take 4 (.take 5 (.take 6 (.take 7 (.take 9 (.one 8 (.one 10 (.take 11 (.take 12 (.one 13 (.take 14 (.take 15 .done)))))))))))))))) (fun w' => w'.heap[w.heap.size]? = some (.cells #[.int .i64 A.T, .slice aa A.acc.length ac, .slice na A.next.length nc] 25 (0, 0))) (by kernel_rfl) (by kernel_rfl) (kd.at BXA7.out trivial) ?_
  iterate 9
    (first
       | (apply pl_pass
          case ho => rfl
          case hw => rfl
          go_simp)
       | (apply pl_take
          case ho => rfl
          case hw => rfl
          case hv =>
            intro w' hS
            (have q0 := cell_at hS 0; have q1 := cell_at hS 1; have q2 := cell_at hS 2; simp only [List.getElem?_toArray, List.getElem?_cons_zero, List.getElem?_cons_succ] at q0 q1 q2)
            go_simp
            exact rfl
          go_simp))
  refine pl_one (up_do rfl rfl fun K hK1 => ?_)
  go_simp
  refine dfaTo (D7.out.same kd) ?_; rintro e w8 v8 rfl o8 k8
  have k8' := kd.tr k8
  refine hK1 _ _ _ (k8'.at BXA7.out trivial) (fun _ h => h) ?_
  clear hK1 K
  refine pl_one (up_do rfl rfl fun K hK1 => ?_)
  go_simp
  refine refSameA (o8.auto HOKA.out) (HA.out.same (HK7.out.tr k8')) ?_; rintro e w9 rfl k9
  have k9' := k8'.tr k9
  refine hK1 _ _ _ (k9'.at BXA7.out trivial) (fun _ h => h) ?_
  clear hK1 K
  iterate 2
    (first
       | (apply pl_pass
          case ho => rfl
          case hw => rfl
          go_simp)
       | (apply pl_take
          case ho => rfl
          case hw => rfl
          case hv =>
            intro w' hS
            (skip)
            go_simp
            exact rfl
          go_simp))
  refine pl_one (up_do rfl rfl fun K hK1 => ?_)
  go_simp
  refine known20 ?_; rintro e w10 rfl k10
  have hb := k9'.at BXA7.out trivial
  refine hK1 _ _ _ (k10.at hb (heap_lt hb)) (fun _ h => h) ?_
  clear hK1 K
  iterate 2
    (first
       | (apply pl_pass
          case ho => rfl
          case hw => rfl
          go_simp)
       | (apply pl_take
          case ho => rfl
          case hw => rfl
          case hv =>
            intro w' hS
            (skip)
            go_simp
            exact rfl
          go_simp))
  refine pl_done ?_
  have HK9 := hide (HK7.out.tr k9')
  have hfin : Keeps (· < w.heap.size) w w10 := HK9.out.trans k10 fun z hz _ => ⟨trivial, Nat.lt_of_lt_of_le hz HK9.out.size⟩
  have HF := hide hfin
  clear hfin hb k8 k8' k9 k9' k10 kd o8
  go_wp2_with fail
  exact HR.out _ _ rfl HF.out

end Go.Proofs.Ytameihkcajceeaa
