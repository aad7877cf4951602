/- The walk of sibyllaw24.MinimSame. -/
import Derived.Test.YtlaipnobfmfgaaaLaw24
import Derived.Test.YtlaipnobfmfgaaaEq
import Derived.Test.YtlaipnobfmfgaaaRefSame24
namespace Go.Proofs.Ytlaipnobfmfgaaa
open Go.RowKit

attribute [local irreducible] wpQuiet wpPlan wpPlanZ wpUp

variable {R : Ending → World → Prop} {w : World} {A : Au}

set_option maxRecDepth 10000 in
set_option maxHeartbeats 8000000 in
theorem minimSameWalk (va : Value) (A : Au) (vc : Value) (C : Au) (w : World) (hA : AutoAt w va A) (hC : AutoAt w vc C) :
    Calls Try.prog 5 #[va, vc] w fun e w' => e = .returned (.bool true) ∧ Below w.heap.size w w' := by
  refine law_of fun R HR => ?_
  have HA := hide hA
  have HC := hide hC
  obtain ⟨va, vn, rfl, hacc, hnext, hT⟩ := hA
  obtain ⟨ua, un, rfl, hacc2, hnext2, _⟩ := hC
  obtain ⟨aa, ac, rfl, _⟩ := hacc.open
  obtain ⟨na, nc, rfl, _⟩ := hnext.open
  obtain ⟨ba, bc, rfl, _⟩ := hacc2.open
  obtain ⟨ma, mc, rfl, _⟩ := hnext2.open
  have h1 := heap_new w (.cells #[.int .i64 A.T, .slice aa A.acc.length ac, .slice na A.next.length nc] 25)
  have e1 : (w.alloc (.cells #[.int .i64 A.T, .slice aa A.acc.length ac, .slice na A.next.length nc] 25)).heap.size = w.heap.size + 1 := by simp
  have k1 : Same w (w.alloc (.cells #[.int .i64 A.T, .slice aa A.acc.length ac, .slice na A.next.length nc] 25)) := (Keeps.refl _ w).alloc _
  have h2 := heap_new (w.alloc (.cells #[.int .i64 A.T, .slice aa A.acc.length ac, .slice na A.next.length nc] 25)) (.cells #[.int .i64 C.T, .slice ba C.acc.length bc, .slice ma C.next.length mc] 25)
  rw [e1] at h2
  have h3 := heap_old h1 (.cells #[.int .i64 C.T, .slice ba C.acc.length bc, .slice ma C.next.length mc] 25)
  have k2 := k1.alloc (.cells #[.int .i64 C.T, .slice ba C.acc.length bc, .slice ma C.next.length mc] 25)
  have q0 := cell_at h3 0; have q1 := cell_at h3 1; have q2 := cell_at h3 2
  have p0 := cell_at h2 0; have p1 := cell_at h2 1; have p2 := cell_at h2 2
  simp only [List.getElem?_toArray, List.getElem?_cons_zero, List.getElem?_cons_succ] at q0 q1 q2 p0 p1 p2
  clear hacc hnext hT hacc2 hnext2 h1 e1 k1
  go_enter Try.func5, Try.ntmps5
  go_wp2_with fail
  generalize (w.alloc (.cells #[.int .i64 A.T, .slice aa A.acc.length ac, .slice na A.next.length nc] 25)).alloc (.cells #[.int .i64 C.T, .slice ba C.acc.length bc, .slice ma C.next.length mc] 25) = w1 at h2 h3 k2 q0 q1 q2 p0 p1 p2 ⊢
  have B1 := hide h3
  have B2 := hide h2
  have HK := hide k2
  clear h2 h3 k2
  refine may24 (HA.out.same HK.out) ?_; rintro e w2 rfl k2
  have HK2 := hide (HK.out.tr k2)
  have B1 := hide (k2.at B1.out trivial)
  have B2 := hide (k2.at B2.out trivial)
  have p0 := Keeps.cell k2 p0 trivial
  have p1 := Keeps.cell k2 p1 trivial
  have p2 := Keeps.cell k2 p2 trivial
  clear k2 q0 q1 q2
  cases hmA : mayB A with
  | false =>
    go_wp2_with fail
    exact HR.out _ _ rfl (HK2.out.mono fun _ _ _ => trivial)
  | true =>
  have HOA := hide (show AuOk A by unfold mayB at hmA; exact (of_decide_eq_true hmA).2.2)
  clear hmA
  go_wp2_with fail
  refine may24 (HC.out.same HK2.out) ?_; rintro e w3 rfl k3
  have HK3 := hide (HK2.out.tr k3)
  have B1 := hide (k3.at B1.out trivial)
  have B2 := hide (k3.at B2.out trivial)
  clear k3 p0 p1 p2
  cases hmC : mayB C with
  | false =>
    go_wp2_with fail
    exact HR.out _ _ rfl (HK3.out.mono fun _ _ _ => trivial)
  | true =>
  have HOC := hide (show AuOk C by unfold mayB at hmC; exact (of_decide_eq_true hmC).2.2)
  clear hmC
  go_wp2_with fail
  have kd : Same w3 w3.drew := Keeps.drew (Keeps.refl (fun _ => True) w3)
  obtain ⟨q, hq⟩ : ∃ q, q = decide (minAu A = minAu C) := ⟨_, rfl⟩
  have HQ := hide hq
  clear hq
  refine wp_region_plan (.take 0 (.take 2 (.take 5 (.take 6 (.one 1 (.one 3 (.one 4 (.one 7 (.take 8 (.take 9 (.take 10 (.take 12 (.one 11 (.one 13 (.one 14 (.take 15 (.take 16 (.take 17 (.one 18 (.one 19 (.take 20 (.take 21 (.take 22 (.take 23 (.one 24 (.one 25 (.take 26 (.take 27 (.take 28 (.one 29 (.take 30 (.take 31 .done)))))))))))))))))))))))))))))))) (fun w' => w'.heap[w.heap.size]? = some (.cells #[.int .i64 A.T, .slice aa A.acc.length ac, .slice na A.next.length nc] 25 (0, 0)) ∧ w'.heap[w.heap.size + 1]? = some (.cells #[.int .i64 C.T, .slice ba C.acc.length bc, .slice ma C.next.length mc] 25 (0, 0))) (by kernel_rfl) (by kernel_rfl) ⟨kd.at B1.out trivial, kd.at B2.out trivial⟩ ?_
  iterate 4
    (first
       | (apply pl_pass
          case ho => rfl
          case hw => rfl
          go_simp)
       | (apply pl_take
          case ho => rfl
          case hw => rfl
          case hv =>
            intro w' hS
            (have q0 := cell_at hS.1 0; have q1 := cell_at hS.1 1; have q2 := cell_at hS.1 2; have p0 := cell_at hS.2 0; have p1 := cell_at hS.2 1; have p2 := cell_at hS.2 2; simp only [List.getElem?_toArray, List.getElem?_cons_zero, List.getElem?_cons_succ] at q0 q1 q2 p0 p1 p2)
            go_simp
            exact rfl
          go_simp))
  refine pl_one (up_do rfl rfl fun K hK1 => ?_)
  go_simp
  refine of24 (HA.out.same (HK3.out.tr kd)) HOA.out ?_; rintro e w4 d4 rfl o4 k4
  have c4 := kd.tr k4
  refine hK1 _ _ _ ⟨c4.at B1.out trivial, c4.at B2.out trivial⟩ (fun _ h => h) ?_
  clear hK1 K
  refine pl_one (up_do rfl rfl fun K hK1 => ?_)
  go_simp
  refine of24 (HC.out.same (HK3.out.tr c4)) HOC.out ?_; rintro e w5 d5 rfl o5 k5
  have c5 := c4.tr k5
  refine hK1 _ _ _ ⟨c5.at B1.out trivial, c5.at B2.out trivial⟩ (fun _ h => h) ?_
  clear hK1 K
  refine pl_one (up_do rfl rfl fun K hK1 => ?_)
  go_simp
  refine minSame (o4.same k5) o5 ?_; rintro e w6 rfl k6
  rw [← HQ.out]
  have c6 := c5.tr k6
  refine hK1 _ _ _ ⟨c6.at B1.out trivial, c6.at B2.out trivial⟩ (fun _ h => h) ?_
  clear hK1 K o4 o5
  refine pl_one (up_do rfl rfl fun K hK1 => ?_)
  go_simp
  refine refSame24 (HA.out.same (HK3.out.tr c6)) (HC.out.same (HK3.out.tr c6)) HOA.out HOC.out ?_; rintro e w7 rfl k7
  rw [← HQ.out]
  have c7 := c6.tr k7
  refine hK1 _ _ _ ⟨c7.at B1.out trivial, c7.at B2.out trivial⟩ (fun _ h => h) ?_
  clear hK1 K
  iterate 4
    (first
       | (apply pl_pass
          case ho => rfl
          case hw => rfl
          go_simp)
       | (apply pl_take
          case ho => rfl
          case hw => rfl
          case hv =>
            intro w' hS
            (have q0 := cell_at hS.1 0; have q1 := cell_at hS.1 1; have q2 := cell_at hS.1 2; have p0 := cell_at hS.2 0; have p1 := cell_at hS.2 1; have p2 := cell_at hS.2 2; simp only [List.getElem?_toArray, List.getElem?_cons_zero, List.getElem?_cons_succ] at q0 q1 q2 p0 p1 p2)
            go_simp
            exact rfl
          go_simp))
  refine pl_one (up_do rfl rfl fun K hK1 => ?_)
  go_simp
  refine of24 (HA.out.same (HK3.out.tr c7)) HOA.out ?_; rintro e w8 d8 rfl o8 k8
  have c8 := c7.tr k8
  refine hK1 _ _ _ ⟨c8.at B1.out trivial, c8.at B2.out trivial⟩ (fun _ h => h) ?_
  clear hK1 K
  refine pl_one (up_do rfl rfl fun K hK1 => ?_)
  go_simp
  refine of24 (HA.out.same (HK3.out.tr c8)) HOA.out ?_; rintro e w9 d9 rfl o9 k9
  have c9 := c8.tr k9
  refine hK1 _ _ _ ⟨c9.at B1.out trivial, c9.at B2.out trivial⟩ (fun _ h => h) ?_
  clear hK1 K
  refine pl_one (up_do rfl rfl fun K hK1 => ?_)
  go_simp
  refine minSame (o8.same k9) o9 ?_; rintro e w10 rfl k10
  rw [decide_eq_true rfl]
  have c10 := c9.tr k10
  refine hK1 _ _ _ ⟨c10.at B1.out trivial, c10.at B2.out trivial⟩ (fun _ h => h) ?_
  clear hK1 K o8 o9
  iterate 3
    (first
       | (apply pl_pass
          case ho => rfl
          case hw => rfl
          go_simp)
       | (apply pl_take
          case ho => rfl
          case hw => rfl
          case hv =>
            intro w' hS
            (have q0 := cell_at hS.1 0; have q1 := cell_at hS.1 1; have q2 := cell_at hS.1 2; have p0 := cell_at hS.2 0; have p1 := cell_at hS.2 1; have p2 := cell_at hS.2 2; simp only [List.getElem?_toArray, List.getElem?_cons_zero, List.getElem?_cons_succ] at q0 q1 q2 p0 p1 p2)
            go_simp
            exact rfl
          go_simp))
  refine pl_one (up_do rfl rfl fun K hK1 => ?_)
  go_simp
  refine of24 (HA.out.same (HK3.out.tr c10)) HOA.out ?_; rintro e w11 d11 rfl o11 k11
  have c11 := c10.tr k11
  refine hK1 _ _ _ ⟨c11.at B1.out trivial, c11.at B2.out trivial⟩ (fun _ h => h) ?_
  clear hK1 K
  refine pl_one (up_do rfl rfl fun K hK1 => ?_)
  go_simp
  refine minSameNilL o11 ?_; rintro e w12 rfl k12
  have c12 := c11.tr k12
  refine hK1 _ _ _ ⟨c12.at B1.out trivial, c12.at B2.out trivial⟩ (fun _ h => h) ?_
  clear hK1 K o11
  iterate 4
    (first
       | (apply pl_pass
          case ho => rfl
          case hw => rfl
          go_simp)
       | (apply pl_take
          case ho => rfl
          case hw => rfl
          case hv =>
            intro w' hS
            (have q0 := cell_at hS.1 0; have q1 := cell_at hS.1 1; have q2 := cell_at hS.1 2; have p0 := cell_at hS.2 0; have p1 := cell_at hS.2 1; have p2 := cell_at hS.2 2; simp only [List.getElem?_toArray, List.getElem?_cons_zero, List.getElem?_cons_succ] at q0 q1 q2 p0 p1 p2)
            go_simp
            exact rfl
          go_simp))
  refine pl_one (up_do rfl rfl fun K hK1 => ?_)
  go_simp
  refine of24 (HA.out.same (HK3.out.tr c12)) HOA.out ?_; rintro e w13 d13 rfl o13 k13
  have c13 := c12.tr k13
  refine hK1 _ _ _ ⟨c13.at B1.out trivial, c13.at B2.out trivial⟩ (fun _ h => h) ?_
  clear hK1 K
  refine pl_one (up_do rfl rfl fun K hK1 => ?_)
  go_simp
  refine minSameNilR o13 ?_; rintro e w14 rfl k14
  have c14 := c13.tr k14
  refine hK1 _ _ _ ⟨c14.at B1.out trivial, c14.at B2.out trivial⟩ (fun _ h => h) ?_
  clear hK1 K o13
  iterate 3
    (first
       | (apply pl_pass
          case ho => rfl
          case hw => rfl
          go_simp)
       | (apply pl_take
          case ho => rfl
          case hw => rfl
          case hv =>
            intro w' hS
            (skip)
            go_simp
            exact rfl
          go_simp))
  refine pl_one (up_do rfl rfl fun K hK1 => ?_)
  go_simp
  refine known24 ?_; rintro e w15 rfl k15
  have c15 := c14.tr k15
  refine hK1 _ _ _ ⟨c15.at B1.out trivial, c15.at B2.out trivial⟩ (fun _ h => h) ?_
  clear hK1 K
  iterate 2
    (first
       | (apply pl_pass
          case ho => rfl
          case hw => rfl
          go_simp)
       | (apply pl_take
          case ho => rfl
          case hw => rfl
          case hv =>
            intro w' hS
            (skip)
            go_simp
            exact rfl
          go_simp))
  refine pl_done ?_
  have HF := hide ((HK3.out.tr c15).mono (S' := (· < w.heap.size)) fun _ _ _ => trivial)
  clear kd c4 c5 c6 c7 c8 c9 c10 c11 c12 c13 c14 c15 k4 k5 k6 k7 k8 k9 k10 k11 k12 k13 k14 k15
  go_wp2_with fail
  exact HR.out _ _ rfl HF.out

end Go.Proofs.Ytlaipnobfmfgaaa
