/- The walk of LookTells. -/
import Derived.Test.YtohhjdadhdibfaaRefShort
import Derived.Test.YtohhjdadhdibfaaKnown21
namespace Go.Proofs.Ytohhjdadhdibfaa
open Go.RowKit

attribute [local irreducible] wpQuiet wpPlan wpPlanZ wpUp

/-- What the last region tells, whatever the two words are. -/
theorem greedy_uniq {A : Au} (h : AuOk A) {K : Nat} (hd : Dst A K 0) {v : List Nat} (hv : LeastW A v) : v = greedy A K 0 := hv.uniq (least_greedy h hd)

theorem no_dst {A : Au} (h : AuOk A) {K : Nat} (hd : Dst A K 0) (hn : ∀ v, InR A v → ac A (runN A 0 v) = false) : False := by
  have h1 := (least_greedy h hd).acc
  rw [hn _ (least_greedy h hd).inr] at h1
  cases h1

theorem no_least {A : Au} (hn : ¬ ∃ K, Dst A K 0) {v : List Nat} (hv : LeastW A v) : False := hn (Dst.of_can (can_run v 0 hv.inr hv.acc))

set_option maxRecDepth 10000 in
set_option maxHeartbeats 8000000 in
theorem lookTellsWalk (va : Value) (A : Au) (w : World) (hA : AutoAt w va A) :
    Calls Try.prog 11 #[va] w fun e w' => e = .returned (.bool true) ∧ Below w.heap.size w w' := by
  refine law_of fun R HR => ?_
  have HA := hide hA
  obtain ⟨xa, xn, rfl, hacc, hnext, _⟩ := hA
  obtain ⟨aa, ac', rfl, _⟩ := hacc.open
  obtain ⟨na, nc, rfl, _⟩ := hnext.open
  have hA1 := heap_new w (.cells #[.int .i64 A.T, .slice aa A.acc.length ac', .slice na A.next.length nc] 25)
  have kA : Same w (w.alloc (.cells #[.int .i64 A.T, .slice aa A.acc.length ac', .slice na A.next.length nc] 25)) := (Keeps.refl _ w).alloc _
  go_enter Try.func11, Try.ntmps11
  go_wp2_with fail
  generalize w.alloc (.cells #[.int .i64 A.T, .slice aa A.acc.length ac', .slice na A.next.length nc] 25) = wb at hA1 kA ⊢
  have BXA := hide hA1
  have HKB := hide kA
  generalize w.heap.size = xb at hA1 BXA ⊢
  clear hA1 kA hacc hnext
  refine may21 (HA.out.same HKB.out) ?_; rintro e w1 rfl k1
  cases hmA : mayB A with
  | false =>
    go_wp2_with fail
    exact HR.out _ _ rfl ((HKB.out.tr k1).mono fun _ _ _ => trivial)
  | true =>
  have HOK := hide (show AuOk A by unfold mayB at hmA; exact (of_decide_eq_true hmA).2.2)
  have hS := k1.at BXA.out trivial
  have q0 := cell_at hS 0; have q1 := cell_at hS 1; have q2 := cell_at hS 2; simp only [List.getElem?_toArray, List.getElem?_cons_zero, List.getElem?_cons_succ] at q0 q1 q2
  have BX1 := hide hS
  have HK1 := hide (HKB.out.tr k1)
  clear hmA hS k1
  go_wp2_with fail
  refine of21 (HA.out.same HK1.out) HOK.out ?_; rintro e w2 d2 rfl dd2 k2
  have HD2 := hide dd2
  have HK2 := hide (HK1.out.tr k2)
  have BX2 := hide (k2.at BX1.out trivial)
  clear dd2 k2 q0 q1 q2
  go_wp2_with fail
  have hS := BX2.out
  by_cases hex : ∃ K, Dst A K 0
  · obtain ⟨K, hd⟩ := hex
    have HDS := hide hd
    clear hd hS
    refine lookShortest HD2.out HDS.out ?_; rintro e w3 v3 rfl i3 k3
    obtain ⟨va3, vc3, rfl, _, _, _⟩ := i3.open
    have HI3 := hide i3
    rw [List.length_map] at HI3 ⊢
    have HK3 := hide (HK2.out.tr k3)
    have hS := k3.at BX2.out trivial
    have BX3 := hide hS
    have HK23 := hide k3
    clear i3 k3
    have q0 := cell_at hS 0; have q1 := cell_at hS 1; have q2 := cell_at hS 2; simp only [List.getElem?_toArray, List.getElem?_cons_zero, List.getElem?_cons_succ] at q0 q1 q2
    clear hS
    go_wp2_with fail
    refine refShortest (HA.out.same HK3.out) HOK.out ?_ ?_
    · rintro e w4 v4 x rfl hlw i4 k4
      obtain rfl := greedy_uniq HOK.out HDS.out hlw
      have HI4 := hide i4
      have HI34 := hide (HI3.out.same k4)
      have HK4 := hide (HK3.out.tr k4)
      have HK24 := hide (HK23.out.tr k4)
      have BX4 := hide (k4.at BX3.out trivial)
      clear hlw i4 k4 q0 q1 q2
      go_wp2_with fail
      have kd : Same w4 w4.drew := Keeps.drew (Keeps.refl (fun _ => True) w4)
      refine wp_region_plan (.take 0 (.take 2 (.one 1 (.one 3 (.one 4 (.take 5 (.take 6 (.take 8 (.one 7 (.one 9 (.take 10 (.take 11 (.take 12 (.take 13 (.take 15 (.one 14 (.one 16 (.take 17 (.take 18 (.take 19 (.take 20 (.take 21 (.one 22 (.take 23 (.take 24 (.take 25 (.take 26 (.take 27 (.take 28 (.take 29 (.one 30 (.take 31 (.take 32 .done))))))))))))))))))))))))))))))))) (fun w' => w'.heap[xb]? = some (.cells #[.int .i64 A.T, .slice aa A.acc.length ac', .slice na A.next.length nc] 25 (0, 0))) (by kernel_rfl) (by kernel_rfl) (kd.at BX4.out trivial) ?_
      iterate 2
        (first
           | (apply pl_pass
              case ho => rfl
              case hw => rfl
              go_simp)
           | (apply pl_take
              case ho => rfl
              case hw => rfl
              case hv =>
                intro w' hS
                (have q0 := cell_at hS 0; have q1 := cell_at hS 1; have q2 := cell_at hS 2; simp only [List.getElem?_toArray, List.getElem?_cons_zero, List.getElem?_cons_succ] at q0 q1 q2)
                go_simp
                exact rfl
              go_simp))
      refine pl_one (up_do rfl rfl fun K hK1 => ?_)
      go_simp
      refine lookReach (HD2.out.same (HK24.out.tr kd)) ?_; rintro e y1 u1 rfl i1 j1
      have c1 := kd.tr j1
      refine hK1 _ _ _ (c1.at BX4.out trivial) (fun _ h => h) ?_
      clear hK1 K
      refine pl_one (up_do rfl rfl fun K hK1 => ?_)
      go_simp
      refine refReach (HA.out.same (HK4.out.tr c1)) HOK.out ?_; rintro e y2 u2 rfl i2 j2
      have c2 := c1.tr j2
      refine hK1 _ _ _ (c2.at BX4.out trivial) (fun _ h => h) ?_
      clear hK1 K
      refine pl_one (up_do rfl rfl fun K hK1 => ?_)
      go_simp
      refine sameInts (i1.same j2) i2 ?_; rintro e y3 he j3
      have c3 := c2.tr j3
      simp only [decide_true] at he
      subst he
      refine hK1 _ _ _ (c3.at BX4.out trivial) (fun _ h => h) ?_
      clear hK1 K
      iterate 3
        (first
           | (apply pl_pass
              case ho => rfl
              case hw => rfl
              go_simp)
           | (apply pl_take
              case ho => rfl
              case hw => rfl
              case hv =>
                intro w' hS
                (have q0 := cell_at hS 0; have q1 := cell_at hS 1; have q2 := cell_at hS 2; simp only [List.getElem?_toArray, List.getElem?_cons_zero, List.getElem?_cons_succ] at q0 q1 q2)
                go_simp
                exact rfl
              go_simp))
      refine pl_one (up_do rfl rfl fun K hK1 => ?_)
      go_simp
      refine lookEmptyR (HD2.out.same (HK24.out.tr c3)) ?_; rintro e y4 rfl j4
      have c4 := c3.tr j4
      refine hK1 _ _ _ (c4.at BX4.out trivial) (fun _ h => h) ?_
      clear hK1 K
      refine pl_one (up_do rfl rfl fun K hK1 => ?_)
      go_simp
      refine refEmpty (HA.out.same (HK4.out.tr c4)) HOK.out ?_; rintro e y5 rfl j5
      have c5 := c4.tr j5
      refine hK1 _ _ _ (c5.at BX4.out trivial) (fun _ h => h) ?_
      clear hK1 K
      iterate 5
        (first
           | (apply pl_pass
              case ho => rfl
              case hw => rfl
              go_simp)
           | (apply pl_take
              case ho => rfl
              case hw => rfl
              case hv =>
                intro w' hS
                (have q0 := cell_at hS 0; have q1 := cell_at hS 1; have q2 := cell_at hS 2; simp only [List.getElem?_toArray, List.getElem?_cons_zero, List.getElem?_cons_succ] at q0 q1 q2)
                go_simp
                exact rfl
              go_simp))
      refine pl_one (up_do rfl rfl fun K hK1 => ?_)
      go_simp
      refine lookAllR (HD2.out.same (HK24.out.tr c5)) ?_; rintro e y6 rfl j6
      have c6 := c5.tr j6
      refine hK1 _ _ _ (c6.at BX4.out trivial) (fun _ h => h) ?_
      clear hK1 K
      refine pl_one (up_do rfl rfl fun K hK1 => ?_)
      go_simp
      refine refAll (HA.out.same (HK4.out.tr c6)) HOK.out ?_; rintro e y7 rfl j7
      have c7 := c6.tr j7
      refine hK1 _ _ _ (c7.at BX4.out trivial) (fun _ h => h) ?_
      clear hK1 K
      iterate 5
        (first
           | (apply pl_pass
              case ho => rfl
              case hw => rfl
              go_simp)
           | (apply pl_take
              case ho => rfl
              case hw => rfl
              case hv =>
                intro w' hS
                (have q0 := cell_at hS 0; have q1 := cell_at hS 1; have q2 := cell_at hS 2; simp only [List.getElem?_toArray, List.getElem?_cons_zero, List.getElem?_cons_succ] at q0 q1 q2)
                go_simp
                exact rfl
              go_simp))
      refine pl_one (up_do rfl rfl fun K hK1 => ?_)
      go_simp
      refine sameInts (HI34.out.same c7) (HI4.out.same c7) ?_; rintro e y8 he j8
      have c8 := c7.tr j8
      simp only [decide_true] at he
      subst he
      refine hK1 _ _ _ (c8.at BX4.out trivial) (fun _ h => h) ?_
      clear hK1 K
      iterate 7
        (first
           | (apply pl_pass
              case ho => rfl
              case hw => rfl
              go_simp)
           | (apply pl_take
              case ho => rfl
              case hw => rfl
              case hv =>
                intro w' hS
                (have q0 := cell_at hS 0; have q1 := cell_at hS 1; have q2 := cell_at hS 2; simp only [List.getElem?_toArray, List.getElem?_cons_zero, List.getElem?_cons_succ] at q0 q1 q2)
                go_simp
                exact rfl
              go_simp))
      refine pl_one (up_do rfl rfl fun K hK1 => ?_)
      go_simp
      refine known21 ?_; rintro e y9 rfl j9
      have c9 := c8.tr j9
      refine hK1 _ _ _ (c9.at BX4.out trivial) (fun _ h => h) ?_
      clear hK1 K
      iterate 2
        (first
           | (apply pl_pass
              case ho => rfl
              case hw => rfl
              go_simp)
           | (apply pl_take
              case ho => rfl
              case hw => rfl
              case hv =>
                intro w' hS
                (have q0 := cell_at hS 0; have q1 := cell_at hS 1; have q2 := cell_at hS 2; simp only [List.getElem?_toArray, List.getElem?_cons_zero, List.getElem?_cons_succ] at q0 q1 q2)
                go_simp
                exact rfl
              go_simp))
      refine pl_done ?_
      have HF := hide ((HK4.out.tr c9).mono (S' := (· < w.heap.size)) fun _ _ _ => trivial)
      clear kd c1 c2 c3 c4 c5 c6 c7 c8 c9 j1 j2 j3 j4 j5 j6 j7 j8 j9 i1 i2
      go_wp2_with fail
      exact HR.out _ _ rfl HF.out
    · rintro e w4 rfl hno k4
      exact (no_dst HOK.out HDS.out hno).elim
  · have HEX := hide hex
    clear hex hS
    refine lookShortestNot HD2.out HEX.out ?_; rintro e w3 rfl k3
    have HK3 := hide (HK2.out.tr k3)
    have hS := k3.at BX2.out trivial
    have BX3 := hide hS
    have HK23 := hide k3
    clear k3
    have q0 := cell_at hS 0; have q1 := cell_at hS 1; have q2 := cell_at hS 2; simp only [List.getElem?_toArray, List.getElem?_cons_zero, List.getElem?_cons_succ] at q0 q1 q2
    clear hS
    go_wp2_with fail
    refine refShortest (HA.out.same HK3.out) HOK.out ?_ ?_
    · rintro e w4 v4 x rfl hlw i4 k4
      exact (no_least HEX.out hlw).elim
    · rintro e w4 rfl hno k4
      have HNIL : Hid (IntsAt w4 (.slice none 0 0) []) := hide (OwnInts.ints (B := 0) (World.ownsRow_nil _ _ _ _) (by simp))
      have HK4 := hide (HK3.out.tr k4)
      have HK24 := hide (HK23.out.tr k4)
      have BX4 := hide (k4.at BX3.out trivial)
      clear hno k4 q0 q1 q2
      go_wp2_with fail
      have kd : Same w4 w4.drew := Keeps.drew (Keeps.refl (fun _ => True) w4)
      refine wp_region_plan (.take 0 (.take 2 (.one 1 (.one 3 (.one 4 (.take 5 (.take 6 (.take 8 (.one 7 (.one 9 (.take 10 (.take 11 (.take 12 (.take 13 (.take 15 (.one 14 (.one 16 (.take 17 (.take 18 (.take 19 (.take 20 (.take 21 (.one 22 (.take 23 (.take 24 (.take 25 (.take 26 (.take 27 (.take 28 (.take 29 (.one 30 (.take 31 (.take 32 .done))))))))))))))))))))))))))))))))) (fun w' => w'.heap[xb]? = some (.cells #[.int .i64 A.T, .slice aa A.acc.length ac', .slice na A.next.length nc] 25 (0, 0))) (by kernel_rfl) (by kernel_rfl) (kd.at BX4.out trivial) ?_
      iterate 2
        (first
           | (apply pl_pass
              case ho => rfl
              case hw => rfl
              go_simp)
           | (apply pl_take
              case ho => rfl
              case hw => rfl
              case hv =>
                intro w' hS
                (have q0 := cell_at hS 0; have q1 := cell_at hS 1; have q2 := cell_at hS 2; simp only [List.getElem?_toArray, List.getElem?_cons_zero, List.getElem?_cons_succ] at q0 q1 q2)
                go_simp
                exact rfl
              go_simp))
      refine pl_one (up_do rfl rfl fun K hK1 => ?_)
      go_simp
      refine lookReach (HD2.out.same (HK24.out.tr kd)) ?_; rintro e y1 u1 rfl i1 j1
      have c1 := kd.tr j1
      refine hK1 _ _ _ (c1.at BX4.out trivial) (fun _ h => h) ?_
      clear hK1 K
      refine pl_one (up_do rfl rfl fun K hK1 => ?_)
      go_simp
      refine refReach (HA.out.same (HK4.out.tr c1)) HOK.out ?_; rintro e y2 u2 rfl i2 j2
      have c2 := c1.tr j2
      refine hK1 _ _ _ (c2.at BX4.out trivial) (fun _ h => h) ?_
      clear hK1 K
      refine pl_one (up_do rfl rfl fun K hK1 => ?_)
      go_simp
      refine sameInts (i1.same j2) i2 ?_; rintro e y3 he j3
      have c3 := c2.tr j3
      simp only [decide_true] at he
      subst he
      refine hK1 _ _ _ (c3.at BX4.out trivial) (fun _ h => h) ?_
      clear hK1 K
      iterate 3
        (first
           | (apply pl_pass
              case ho => rfl
              case hw => rfl
              go_simp)
           | (apply pl_take
              case ho => rfl
              case hw => rfl
              case hv =>
                intro w' hS
                (have q0 := cell_at hS 0; have q1 := cell_at hS 1; have q2 := cell_at hS 2; simp only [List.getElem?_toArray, List.getElem?_cons_zero, List.getElem?_cons_succ] at q0 q1 q2)
                go_simp
                exact rfl
              go_simp))
      refine pl_one (up_do rfl rfl fun K hK1 => ?_)
      go_simp
      refine lookEmptyR (HD2.out.same (HK24.out.tr c3)) ?_; rintro e y4 rfl j4
      have c4 := c3.tr j4
      refine hK1 _ _ _ (c4.at BX4.out trivial) (fun _ h => h) ?_
      clear hK1 K
      refine pl_one (up_do rfl rfl fun K hK1 => ?_)
      go_simp
      refine refEmpty (HA.out.same (HK4.out.tr c4)) HOK.out ?_; rintro e y5 rfl j5
      have c5 := c4.tr j5
      refine hK1 _ _ _ (c5.at BX4.out trivial) (fun _ h => h) ?_
      clear hK1 K
      iterate 5
        (first
           | (apply pl_pass
              case ho => rfl
              case hw => rfl
              go_simp)
           | (apply pl_take
              case ho => rfl
              case hw => rfl
              case hv =>
                intro w' hS
                (have q0 := cell_at hS 0; have q1 := cell_at hS 1; have q2 := cell_at hS 2; simp only [List.getElem?_toArray, List.getElem?_cons_zero, List.getElem?_cons_succ] at q0 q1 q2)
                go_simp
                exact rfl
              go_simp))
      refine pl_one (up_do rfl rfl fun K hK1 => ?_)
      go_simp
      refine lookAllR (HD2.out.same (HK24.out.tr c5)) ?_; rintro e y6 rfl j6
      have c6 := c5.tr j6
      refine hK1 _ _ _ (c6.at BX4.out trivial) (fun _ h => h) ?_
      clear hK1 K
      refine pl_one (up_do rfl rfl fun K hK1 => ?_)
      go_simp
      refine refAll (HA.out.same (HK4.out.tr c6)) HOK.out ?_; rintro e y7 rfl j7
      have c7 := c6.tr j7
      refine hK1 _ _ _ (c7.at BX4.out trivial) (fun _ h => h) ?_
      clear hK1 K
      iterate 5
        (first
           | (apply pl_pass
              case ho => rfl
              case hw => rfl
              go_simp)
           | (apply pl_take
              case ho => rfl
              case hw => rfl
              case hv =>
                intro w' hS
                (have q0 := cell_at hS 0; have q1 := cell_at hS 1; have q2 := cell_at hS 2; simp only [List.getElem?_toArray, List.getElem?_cons_zero, List.getElem?_cons_succ] at q0 q1 q2)
                go_simp
                exact rfl
              go_simp))
      refine pl_one (up_do rfl rfl fun K hK1 => ?_)
      go_simp
      refine sameInts (HNIL.out.same c7) (HNIL.out.same c7) ?_; rintro e y8 he j8
      have c8 := c7.tr j8
      simp only [decide_true] at he
      subst he
      refine hK1 _ _ _ (c8.at BX4.out trivial) (fun _ h => h) ?_
      clear hK1 K
      iterate 7
        (first
           | (apply pl_pass
              case ho => rfl
              case hw => rfl
              go_simp)
           | (apply pl_take
              case ho => rfl
              case hw => rfl
              case hv =>
                intro w' hS
                (have q0 := cell_at hS 0; have q1 := cell_at hS 1; have q2 := cell_at hS 2; simp only [List.getElem?_toArray, List.getElem?_cons_zero, List.getElem?_cons_succ] at q0 q1 q2)
                go_simp
                exact rfl
              go_simp))
      refine pl_one (up_do rfl rfl fun K hK1 => ?_)
      go_simp
      refine known21 ?_; rintro e y9 rfl j9
      have c9 := c8.tr j9
      refine hK1 _ _ _ (c9.at BX4.out trivial) (fun _ h => h) ?_
      clear hK1 K
      iterate 2
        (first
           | (apply pl_pass
              case ho => rfl
              case hw => rfl
              go_simp)
           | (apply pl_take
              case ho => rfl
              case hw => rfl
              case hv =>
                intro w' hS
                (have q0 := cell_at hS 0; have q1 := cell_at hS 1; have q2 := cell_at hS 2; simp only [List.getElem?_toArray, List.getElem?_cons_zero, List.getElem?_cons_succ] at q0 q1 q2)
                go_simp
                exact rfl
              go_simp))
      refine pl_done ?_
      have HF := hide ((HK4.out.tr c9).mono (S' := (· < w.heap.size)) fun _ _ _ => trivial)
      clear kd c1 c2 c3 c4 c5 c6 c7 c8 c9 j1 j2 j3 j4 j5 j6 j7 j8 j9 i1 i2
      go_wp2_with fail
      exact HR.out _ _ rfl HF.out

end Go.Proofs.Ytohhjdadhdibfaa
