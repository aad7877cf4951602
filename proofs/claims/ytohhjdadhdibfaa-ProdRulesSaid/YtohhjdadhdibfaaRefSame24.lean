/- The walk of sibylref24.Same. -/
import Derived.Test.YtohhjdadhdibfaaMinRef5
import Derived.Test.YtohhjdadhdibfaaSame19g
namespace Go.Proofs.Ytohhjdadhdibfaa
open Go.RowKit

attribute [local irreducible] wpQuiet wpPlan wpPlanZ wpUp

variable {R : Ending → World → Prop} {w : World} {A C : Au}

set_option maxRecDepth 10000 in
set_option maxHeartbeats 4000000 in
theorem refSame24 {v u : Value} (hA : AutoAt w v A) (hB : AutoAt w u C) (hokA : AuOk A) (hokC : AuOk C) (hR : ∀ e w', e = .returned (.bool (decide (minAu A = minAu C))) → Same w w' → R e w') :
    Calls Try.prog 24 #[v, u] w R := by
  have HR := hide hR
  clear hR
  have HA := hide hA
  have HB := hide hB
  have HOA := hide hokA
  have HOC := hide hokC
  obtain ⟨va, vn, rfl, hacc, hnext, hT⟩ := hA
  obtain ⟨ua, un, rfl, hacc2, hnext2, _⟩ := hB
  obtain ⟨aa, ac, rfl, _⟩ := hacc.open
  obtain ⟨na, nc, rfl, _⟩ := hnext.open
  obtain ⟨ba, bc, rfl, _⟩ := hacc2.open
  obtain ⟨ma, mc, rfl, _⟩ := hnext2.open
  have h1 := heap_new w (.cells #[.int .i64 A.T, .slice aa A.acc.length ac, .slice na A.next.length nc] 25)
  have e1 : (w.alloc (.cells #[.int .i64 A.T, .slice aa A.acc.length ac, .slice na A.next.length nc] 25)).heap.size = w.heap.size + 1 := by simp
  have k1 : Same w (w.alloc (.cells #[.int .i64 A.T, .slice aa A.acc.length ac, .slice na A.next.length nc] 25)) := (Keeps.refl _ w).alloc _
  have h2 := heap_new (w.alloc (.cells #[.int .i64 A.T, .slice aa A.acc.length ac, .slice na A.next.length nc] 25)) (.cells #[.int .i64 C.T, .slice ba C.acc.length bc, .slice ma C.next.length mc] 25)
  rw [e1] at h2
  have h3 := heap_old h1 (.cells #[.int .i64 C.T, .slice ba C.acc.length bc, .slice ma C.next.length mc] 25)
  have k2 := k1.alloc (.cells #[.int .i64 C.T, .slice ba C.acc.length bc, .slice ma C.next.length mc] 25)
  clear hacc hnext hT hacc2 hnext2 h1 e1 k1 hokA hokC
  go_enter Try.func24, Try.ntmps24
  go_wp2_with fail
  generalize (w.alloc (.cells #[.int .i64 A.T, .slice aa A.acc.length ac, .slice na A.next.length nc] 25)).alloc (.cells #[.int .i64 C.T, .slice ba C.acc.length bc, .slice ma C.next.length mc] 25) = w1 at h2 h3 k2 ⊢
  have kd : Same w1 w1.drew := Keeps.drew (Keeps.refl (fun _ => True) w1)
  have B1 := hide h3
  have B2 := hide h2
  have HK := hide k2
  clear h2 h3 k2
  by_cases hTT : A.T = C.T
  · have hb : (A.T == C.T) = true := by simpa using hTT
    clear hTT
    refine wp_region_plan (.take 0 (.take 1 (.take 2 (.take 3 (.take 4 (.take 5 (.take 6 (.take 8 (.one 7 (.one 9 (.one 10 (.take 11 (.take 12 .done))))))))))))) (fun w' => w'.heap[w.heap.size]? = some (.cells #[.int .i64 A.T, .slice aa A.acc.length ac, .slice na A.next.length nc] 25 (0, 0)) ∧ w'.heap[w.heap.size + 1]? = some (.cells #[.int .i64 C.T, .slice ba C.acc.length bc, .slice ma C.next.length mc] 25 (0, 0))) (by kernel_rfl) (by kernel_rfl) ⟨kd.at B1.out trivial, kd.at B2.out trivial⟩ ?_
    iterate 8
      (first
         | (apply pl_pass
            case ho => rfl
            case hw => rfl
            go_simp)
         | (apply pl_take
            case ho => rfl
            case hw => rfl
            case hv =>
              intro w' hS
              (have q0 := cell_at hS.1 0; have q1 := cell_at hS.1 1; have q2 := cell_at hS.1 2; have p0 := cell_at hS.2 0; have p1 := cell_at hS.2 1; have p2 := cell_at hS.2 2; simp only [List.getElem?_toArray, List.getElem?_cons_zero, List.getElem?_cons_succ] at q0 q1 q2 p0 p1 p2)
              go_simp
              exact rfl
            go_simp))
    refine pl_one (up_do rfl rfl fun K hK1 => ?_)
    go_simp
    refine refMin (HA.out.same (HK.out.tr kd)) HOA.out ?_; rintro e w4 v4 rfl o4 k4
    have c4 := kd.tr k4
    refine hK1 _ _ _ ⟨c4.at B1.out trivial, c4.at B2.out trivial⟩ (fun _ h => h) ?_
    clear hK1 K
    refine pl_one (up_do rfl rfl fun K hK1 => ?_)
    go_simp
    refine refMin (HB.out.same (HK.out.tr c4)) HOC.out ?_; rintro e w5 v5 rfl o5 k5
    have c5 := c4.tr k5
    refine hK1 _ _ _ ⟨c5.at B1.out trivial, c5.at B2.out trivial⟩ (fun _ h => h) ?_
    clear hK1 K
    refine pl_one (up_do rfl rfl fun K hK1 => ?_)
    go_simp
    refine refSame (o4.same k5) o5 ?_; rintro e w6 rfl k6
    have c6 := c5.tr k6
    refine hK1 _ _ _ ⟨c6.at B1.out trivial, c6.at B2.out trivial⟩ (fun _ h => h) ?_
    clear hK1 K
    generalize decide (minAu A = minAu C) = ans at HR
    iterate 2
      (first
         | (apply pl_pass
            case ho => rfl
            case hw => rfl
            go_simp)
         | (apply pl_take
            case ho => rfl
            case hw => rfl
            case hv =>
              intro w' hS
              (skip)
              go_simp
              exact rfl
            go_simp))
    refine pl_done ?_
    have HF := hide (HK.out.tr c6)
    clear kd c4 c5 c6 k4 k5 k6 o4 o5
    go_wp2_with fail
    exact HR.out _ _ rfl HF.out
  · have hb : (A.T == C.T) = false := by simpa using hTT
    have HF : Hid (false = decide (minAu A = minAu C)) := hide (decide_eq_false fun e => hTT (show (minAu A).T = (minAu C).T by rw [e])).symm
    clear hTT
    have z0 := cell_at B1.out 0
    have z1 := cell_at B2.out 0
    simp only [List.getElem?_toArray, List.getElem?_cons_zero] at z0 z1
    refine wp_region_same (by kernel_rfl) (by kernel_rfl) ?_
    iterate 13
      (apply wpQuiet_step
       intro K hK
       first
         | (apply quiet_skip
            case hw => rfl
            go_simp
            refine hK _ ?_; clear hK K)
         | (apply quiet_do
            case hw => rfl
            case h =>
              intro w' hw'
              (have y0 := Keeps.cell hw' z0 trivial; have y1 := Keeps.cell hw' z1 trivial)
              go_simp
              first | exact rfl | (fail)
            go_simp
            refine hK _ ?_; clear hK K))
    apply wpQuiet_nil
    intro w2 k2
    have HK2 := hide (HK.out.tr k2)
    clear kd z0 z1 k2
    go_wp2_with fail
    exact HR.out _ _ (ret_bool HF.out) HK2.out

end Go.Proofs.Ytohhjdadhdibfaa
