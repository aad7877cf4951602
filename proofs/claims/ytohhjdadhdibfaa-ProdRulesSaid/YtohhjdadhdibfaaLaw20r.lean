/- The walk of ProdRules. -/
import Derived.Test.YtohhjdadhdibfaaLaw20b
import Derived.Test.YtohhjdadhdibfaaRulesLaw
import Derived.Test.YtohhjdadhdibfaaRefSame24
namespace Go.Proofs.Ytohhjdadhdibfaa
open Go.RowKit

attribute [local irreducible] wpQuiet wpPlan wpPlanZ wpUp

variable {R : Ending → World → Prop} {w : World} {A B : Au}

theorem Keeps.old_tr {n : Nat} {a b c : World} (h : Keeps (· < n) a b) (k : Keeps (· < b.heap.size) b c) : Keeps (· < n) a c :=
  h.trans k fun _ hz hzz => ⟨hzz, Nat.lt_of_lt_of_le hz h.size⟩

set_option maxRecDepth 10000 in
set_option maxHeartbeats 8000000 in
theorem prodRulesWalk (va : Value) (A : Au) (vb : Value) (B : Au) (w : World) (hA : AutoAt w va A) (hB : AutoAt w vb B) :
    Calls Try.prog 5 #[va, vb] w fun e w' => e = .returned (.bool true) ∧ Below w.heap.size w w' := by
  refine law_of fun R HR => ?_
  have HA := hide hA
  have HB := hide hB
  obtain ⟨xa, xn, rfl, hacc, hnext, _⟩ := hA
  obtain ⟨aa, ac, rfl, _⟩ := hacc.open
  obtain ⟨na, nc, rfl, _⟩ := hnext.open
  obtain ⟨ya, yn, rfl, hacc2, hnext2, _⟩ := hB
  obtain ⟨ba, bc, rfl, _⟩ := hacc2.open
  obtain ⟨ma, mc, rfl, _⟩ := hnext2.open
  have hA1 := heap_new w (.cells #[.int .i64 A.T, .slice aa A.acc.length ac, .slice na A.next.length nc] 25)
  have eA : (w.alloc (.cells #[.int .i64 A.T, .slice aa A.acc.length ac, .slice na A.next.length nc] 25)).heap.size = w.heap.size + 1 := by simp
  have kA : Same w (w.alloc (.cells #[.int .i64 A.T, .slice aa A.acc.length ac, .slice na A.next.length nc] 25)) := (Keeps.refl _ w).alloc _
  have hB1 := heap_new (w.alloc (.cells #[.int .i64 A.T, .slice aa A.acc.length ac, .slice na A.next.length nc] 25)) (.cells #[.int .i64 B.T, .slice ba B.acc.length bc, .slice ma B.next.length mc] 25)
  have kB : Same (w.alloc (.cells #[.int .i64 A.T, .slice aa A.acc.length ac, .slice na A.next.length nc] 25)) ((w.alloc (.cells #[.int .i64 A.T, .slice aa A.acc.length ac, .slice na A.next.length nc] 25)).alloc (.cells #[.int .i64 B.T, .slice ba B.acc.length bc, .slice ma B.next.length mc] 25)) := (Keeps.refl _ _).alloc _
  rw [eA] at hB1
  have hA2 := kB.at hA1 trivial
  have hkw := kA.tr kB
  go_enter Try.func5, Try.ntmps5
  go_wp2_with fail
  generalize (w.alloc (.cells #[.int .i64 A.T, .slice aa A.acc.length ac, .slice na A.next.length nc] 25)).alloc (.cells #[.int .i64 B.T, .slice ba B.acc.length bc, .slice ma B.next.length mc] 25) = wb at hA2 hB1 hkw ⊢
  have BXA := hide hA2
  have BXB := hide hB1
  have HKB := hide hkw
  clear hA1 eA kA hB1 kB hA2 hkw hacc hnext hacc2 hnext2
  refine may20 (HA.out.same HKB.out) ?_; rintro e w1 rfl k1
  cases hmA : mayB A with
  | false =>
    go_wp2_with fail
    exact HR.out _ _ rfl ((HKB.out.tr k1).mono fun _ _ _ => trivial)
  | true =>
  have HMA := hide hmA
  clear hmA
  have a1 := k1.at BXA.out trivial
  have c1 := k1.at BXB.out trivial
  have p0 := cell_at c1 0
  have p1 := cell_at c1 1
  have p2 := cell_at c1 2
  simp only [List.getElem?_toArray, List.getElem?_cons_zero, List.getElem?_cons_succ] at p0 p1 p2
  have BXA1 := hide a1
  have BXB1 := hide c1
  have HK1 := hide (HKB.out.tr k1)
  clear a1 c1 k1
  go_wp2_with fail
  refine may20 (HB.out.same HK1.out) ?_; rintro e v2 rfl k2
  cases hmB : mayB B with
  | false =>
    go_wp2_with fail
    exact HR.out _ _ rfl ((HK1.out.tr k2).mono fun _ _ _ => trivial)
  | true =>
  have HMB := hide hmB
  have HOKA := hide (mayB_ok HMA.out).2.2
  have HOKB := hide (mayB_ok hmB).2.2
  have a2 := k2.at BXA1.out trivial
  have c2 := k2.at BXB1.out trivial
  have HBX2 := hide (And.intro a2 c2)
  have HO2 : Hid (Keeps (· < w.heap.size) w v2) := hide ((HK1.out.tr k2).mono fun _ _ _ => trivial)
  have q0 := cell_at a2 0
  have q1 := cell_at a2 1
  have q2 := cell_at a2 2
  have r0 := cell_at c2 0
  have r1 := cell_at c2 1
  have r2 := cell_at c2 2
  simp only [List.getElem?_toArray, List.getElem?_cons_zero, List.getElem?_cons_succ] at q0 q1 q2 r0 r1 r2
  clear hmB a2 c2 k2 p0 p1 p2
  by_cases hT : A.T = B.T
  case neg =>
    have hne : (A.T != B.T) = true := by simp [hT]
    clear hT
    go_wp2_with fail
    exact HR.out _ _ rfl HO2.out
  have hne : (A.T != B.T) = false := by simp [hT]
  have HT := hide hT
  clear hT
  obtain ⟨P, hP⟩ : ∃ P : Nat, P = A.acc.length * B.acc.length := ⟨_, rfl⟩
  have hPb : P ≤ 1600 := by rw [hP]; exact Nat.le_trans (Nat.mul_le_mul (mayB_ok HMA.out).1 (mayB_ok HMB.out).1) (by decide)
  have hmul : wrap64 ((A.acc.length : Int) * (B.acc.length : Int)) = (P : Int) := by
    rw [← Int.natCast_mul, ← hP]; exact IntWalk.wrap64_in _ (by omega)
  have HP := hide hP
  clear hP hPb
  by_cases c1 : (300 : Int) < (P : Int)
  · go_wp2_with fail
    exact HR.out _ _ rfl HO2.out
  have HP3 : Hid (P ≤ 300) := hide (by omega)
  by_cases c2 : (17 : Int) < (A.acc.length : Int)
  · go_wp2_with fail
    exact HR.out _ _ rfl HO2.out
  have HFAB : Hid (A.acc.length * B.acc.length ≤ 300) := hide (by rw [← HP.out]; exact HP3.out)
  have HFBA : Hid (B.acc.length * A.acc.length ≤ 300) := hide (by rw [Nat.mul_comm]; exact HFAB.out)
  have HFAA : Hid (A.acc.length * A.acc.length ≤ 300) := hide (Nat.le_trans (Nat.mul_le_mul (show A.acc.length ≤ 17 by omega) (show A.acc.length ≤ 17 by omega)) (by decide))
  go_wp2_with fail
  clear c1 c2 hne hmul q0 q1 q2 r0 r1 r2
  have kd : Same v2 v2.drew := Keeps.drew (Keeps.refl (fun _ => True) v2)
  refine wp_region_plan (.take 0 (.take 2 (.one 1 (.one 3 (.one 4 (.one 5 (.take 6 (.take 7 (.take 8 (.take 9 (.take 10 .done))))))))))) (fun w' => w'.heap[w.heap.size]? = some (.cells #[.int .i64 A.T, .slice aa A.acc.length ac, .slice na A.next.length nc] 25 (0, 0)) ∧ w'.heap[w.heap.size + 1]? = some (.cells #[.int .i64 B.T, .slice ba B.acc.length bc, .slice ma B.next.length mc] 25 (0, 0))) (by kernel_rfl) (by kernel_rfl) ⟨kd.at HBX2.out.1 trivial, kd.at HBX2.out.2 trivial⟩ ?_
  iterate 2
    (first
       | (apply pl_pass
          case ho => rfl
          case hw => rfl
          go_simp)
       | (apply pl_take
          case ho => rfl
          case hw => rfl
          case hv =>
            intro w' hS
            (have q0 := cell_at hS.1 0; have q1 := cell_at hS.1 1; have q2 := cell_at hS.1 2; have r0 := cell_at hS.2 0; have r1 := cell_at hS.2 1; have r2 := cell_at hS.2 2; simp only [List.getElem?_toArray, List.getElem?_cons_zero, List.getElem?_cons_succ] at q0 q1 q2 r0 r1 r2)
            go_simp
            exact rfl
          go_simp))
  refine pl_one (up_do rfl rfl fun K hK1 => ?_)
  go_simp
  refine of20 (HA.out.old (HO2.out.tr_same kd)) HOKA.out ?_; rintro e wa da rfl dda ka
  have ka' := kd.tr ka
  refine hK1 _ _ _ ⟨ka'.at HBX2.out.1 trivial, ka'.at HBX2.out.2 trivial⟩ (fun _ h => h) ?_
  clear hK1 K
  refine pl_one (up_do rfl rfl fun K hK1 => ?_)
  go_simp
  refine of20 (HB.out.old (HO2.out.tr_same ka')) HOKB.out ?_; rintro e wb db rfl ddb kb
  have kb' := ka'.tr kb
  refine hK1 _ _ _ ⟨kb'.at HBX2.out.1 trivial, kb'.at HBX2.out.2 trivial⟩ (fun _ h => h) ?_
  clear hK1 K
  refine pl_one (up_do rfl rfl fun K hK1 => ?_)
  go_simp
  refine meterNew 1000 ?_; rintro e wc rfl mt kc
  rw [show max (1000 : Int) 0 = 1000 by decide] at mt
  have kc' := kb'.tr kc
  refine hK1 _ _ _ ⟨kc'.at HBX2.out.1 trivial, kc'.at HBX2.out.2 trivial⟩ (fun _ h => h) ?_
  clear hK1 K
  refine pl_one (up_do rfl rfl fun K hK1 => ?_)
  go_simp
  refine prodBoth (w0 := wb) (dda.same kb) ddb kc HT.out 8 (by decide) mt (Nat.le_refl _) (by decide) (by decide) ?_ (fun h => absurd h (by have := HFAB.out; omega))
  rintro e v3 dd3 rfl ddn kn
  have hbx3 : v3.heap[w.heap.size]? = some (.cells #[.int .i64 A.T, .slice aa A.acc.length ac, .slice na A.next.length nc] 25 (0, 0)) ∧ v3.heap[w.heap.size + 1]? = some (.cells #[.int .i64 B.T, .slice ba B.acc.length bc, .slice ma B.next.length mc] 25 (0, 0)) := ⟨kn.at (kb'.at HBX2.out.1 trivial) (heap_lt (kb'.at HBX2.out.1 trivial)), kn.at (kb'.at HBX2.out.2 trivial) (heap_lt (kb'.at HBX2.out.2 trivial))⟩
  refine hK1 _ _ _ hbx3 (fun _ h => h) ?_
  clear hK1 K
  iterate 5
    (first
       | (apply pl_pass
          case ho => rfl
          case hw => rfl
          go_simp)
       | (apply pl_take
          case ho => rfl
          case hw => rfl
          case hv =>
            intro w' hS
            (skip)
            go_simp
            exact rfl
          go_simp))
  refine pl_done ?_
  have HBX3 := hide hbx3
  have HQ3 : Hid (Keeps (· < v2.heap.size) v2 v3) := hide (Keeps.old_tr (kb'.mono fun _ _ _ => trivial) kn)
  have HO3 := hide (Keeps.old_tr HO2.out HQ3.out)
  have HDP3 := hide (ddn.below (B' := v2.heap.size) kb'.size)
  have HPK3 := hide ddn.ok
  clear kd ka ka' kb kb' kc kc' kn hbx3 dda ddb ddn mt
  go_wp2_with fail
  have kd : Same v3 v3.drew := Keeps.drew (Keeps.refl (fun _ => True) v3)
  refine wp_region_plan (.take 0 (.take 2 (.one 1 (.one 3 (.one 4 (.one 5 (.take 6 (.take 7 (.take 8 (.take 9 (.take 10 .done))))))))))) (fun w' => w'.heap[w.heap.size]? = some (.cells #[.int .i64 A.T, .slice aa A.acc.length ac, .slice na A.next.length nc] 25 (0, 0)) ∧ w'.heap[w.heap.size + 1]? = some (.cells #[.int .i64 B.T, .slice ba B.acc.length bc, .slice ma B.next.length mc] 25 (0, 0))) (by kernel_rfl) (by kernel_rfl) ⟨kd.at HBX3.out.1 trivial, kd.at HBX3.out.2 trivial⟩ ?_
  iterate 2
    (first
       | (apply pl_pass
          case ho => rfl
          case hw => rfl
          go_simp)
       | (apply pl_take
          case ho => rfl
          case hw => rfl
          case hv =>
            intro w' hS
            (have q0 := cell_at hS.1 0; have q1 := cell_at hS.1 1; have q2 := cell_at hS.1 2; have r0 := cell_at hS.2 0; have r1 := cell_at hS.2 1; have r2 := cell_at hS.2 2; simp only [List.getElem?_toArray, List.getElem?_cons_zero, List.getElem?_cons_succ] at q0 q1 q2 r0 r1 r2)
            go_simp
            exact rfl
          go_simp))
  refine pl_one (up_do rfl rfl fun K hK1 => ?_)
  go_simp
  refine of20 (HB.out.old (HO3.out.tr_same kd)) HOKB.out ?_; rintro e wa da rfl dda ka
  have ka' := kd.tr ka
  refine hK1 _ _ _ ⟨ka'.at HBX3.out.1 trivial, ka'.at HBX3.out.2 trivial⟩ (fun _ h => h) ?_
  clear hK1 K
  refine pl_one (up_do rfl rfl fun K hK1 => ?_)
  go_simp
  refine of20 (HA.out.old (HO3.out.tr_same ka')) HOKA.out ?_; rintro e wb db rfl ddb kb
  have kb' := ka'.tr kb
  refine hK1 _ _ _ ⟨kb'.at HBX3.out.1 trivial, kb'.at HBX3.out.2 trivial⟩ (fun _ h => h) ?_
  clear hK1 K
  refine pl_one (up_do rfl rfl fun K hK1 => ?_)
  go_simp
  refine meterNew 1000 ?_; rintro e wc rfl mt kc
  rw [show max (1000 : Int) 0 = 1000 by decide] at mt
  have kc' := kb'.tr kc
  refine hK1 _ _ _ ⟨kc'.at HBX3.out.1 trivial, kc'.at HBX3.out.2 trivial⟩ (fun _ h => h) ?_
  clear hK1 K
  refine pl_one (up_do rfl rfl fun K hK1 => ?_)
  go_simp
  refine prodBoth (w0 := wb) (dda.same kb) ddb kc HT.out.symm 8 (by decide) mt (Nat.le_refl _) (by decide) (by decide) ?_ (fun h => absurd h (by have := HFBA.out; omega))
  rintro e v4 dd4 rfl ddn kn
  have hbx4 : v4.heap[w.heap.size]? = some (.cells #[.int .i64 A.T, .slice aa A.acc.length ac, .slice na A.next.length nc] 25 (0, 0)) ∧ v4.heap[w.heap.size + 1]? = some (.cells #[.int .i64 B.T, .slice ba B.acc.length bc, .slice ma B.next.length mc] 25 (0, 0)) := ⟨kn.at (kb'.at HBX3.out.1 trivial) (heap_lt (kb'.at HBX3.out.1 trivial)), kn.at (kb'.at HBX3.out.2 trivial) (heap_lt (kb'.at HBX3.out.2 trivial))⟩
  refine hK1 _ _ _ hbx4 (fun _ h => h) ?_
  clear hK1 K
  iterate 5
    (first
       | (apply pl_pass
          case ho => rfl
          case hw => rfl
          go_simp)
       | (apply pl_take
          case ho => rfl
          case hw => rfl
          case hv =>
            intro w' hS
            (skip)
            go_simp
            exact rfl
          go_simp))
  refine pl_done ?_
  have HBX4 := hide hbx4
  have HQ4 : Hid (Keeps (· < v3.heap.size) v3 v4) := hide (Keeps.old_tr (kb'.mono fun _ _ _ => trivial) kn)
  have HO4 := hide (Keeps.old_tr HO3.out HQ4.out)
  have HDP4 := hide (ddn.below (B' := v3.heap.size) kb'.size)
  have HPK4 := hide ddn.ok
  have HDP3 := hide (HDP3.out.keep HQ4.out fun b _ hb => hb)
  clear kd ka ka' kb kb' kc kc' kn hbx4 dda ddb ddn mt
  go_wp2_with fail
  have kd : Same v4 v4.drew := Keeps.drew (Keeps.refl (fun _ => True) v4)
  refine wp_region_plan (.take 0 (.take 2 (.one 1 (.one 3 (.one 4 (.one 5 (.take 6 (.take 7 (.take 8 (.take 9 (.take 10 .done))))))))))) (fun w' => w'.heap[w.heap.size]? = some (.cells #[.int .i64 A.T, .slice aa A.acc.length ac, .slice na A.next.length nc] 25 (0, 0)) ∧ w'.heap[w.heap.size + 1]? = some (.cells #[.int .i64 B.T, .slice ba B.acc.length bc, .slice ma B.next.length mc] 25 (0, 0))) (by kernel_rfl) (by kernel_rfl) ⟨kd.at HBX4.out.1 trivial, kd.at HBX4.out.2 trivial⟩ ?_
  iterate 2
    (first
       | (apply pl_pass
          case ho => rfl
          case hw => rfl
          go_simp)
       | (apply pl_take
          case ho => rfl
          case hw => rfl
          case hv =>
            intro w' hS
            (have q0 := cell_at hS.1 0; have q1 := cell_at hS.1 1; have q2 := cell_at hS.1 2; have r0 := cell_at hS.2 0; have r1 := cell_at hS.2 1; have r2 := cell_at hS.2 2; simp only [List.getElem?_toArray, List.getElem?_cons_zero, List.getElem?_cons_succ] at q0 q1 q2 r0 r1 r2)
            go_simp
            exact rfl
          go_simp))
  refine pl_one (up_do rfl rfl fun K hK1 => ?_)
  go_simp
  refine of20 (HA.out.old (HO4.out.tr_same kd)) HOKA.out ?_; rintro e wa da rfl dda ka
  have ka' := kd.tr ka
  refine hK1 _ _ _ ⟨ka'.at HBX4.out.1 trivial, ka'.at HBX4.out.2 trivial⟩ (fun _ h => h) ?_
  clear hK1 K
  refine pl_one (up_do rfl rfl fun K hK1 => ?_)
  go_simp
  refine of20 (HA.out.old (HO4.out.tr_same ka')) HOKA.out ?_; rintro e wb db rfl ddb kb
  have kb' := ka'.tr kb
  refine hK1 _ _ _ ⟨kb'.at HBX4.out.1 trivial, kb'.at HBX4.out.2 trivial⟩ (fun _ h => h) ?_
  clear hK1 K
  refine pl_one (up_do rfl rfl fun K hK1 => ?_)
  go_simp
  refine meterNew 1000 ?_; rintro e wc rfl mt kc
  rw [show max (1000 : Int) 0 = 1000 by decide] at mt
  have kc' := kb'.tr kc
  refine hK1 _ _ _ ⟨kc'.at HBX4.out.1 trivial, kc'.at HBX4.out.2 trivial⟩ (fun _ h => h) ?_
  clear hK1 K
  refine pl_one (up_do rfl rfl fun K hK1 => ?_)
  go_simp
  refine prodBoth (w0 := wb) (dda.same kb) ddb kc rfl 8 (by decide) mt (Nat.le_refl _) (by decide) (by decide) ?_ (fun h => absurd h (by have := HFAA.out; omega))
  rintro e v5 dd5 rfl ddn kn
  have hbx5 : v5.heap[w.heap.size]? = some (.cells #[.int .i64 A.T, .slice aa A.acc.length ac, .slice na A.next.length nc] 25 (0, 0)) ∧ v5.heap[w.heap.size + 1]? = some (.cells #[.int .i64 B.T, .slice ba B.acc.length bc, .slice ma B.next.length mc] 25 (0, 0)) := ⟨kn.at (kb'.at HBX4.out.1 trivial) (heap_lt (kb'.at HBX4.out.1 trivial)), kn.at (kb'.at HBX4.out.2 trivial) (heap_lt (kb'.at HBX4.out.2 trivial))⟩
  refine hK1 _ _ _ hbx5 (fun _ h => h) ?_
  clear hK1 K
  iterate 5
    (first
       | (apply pl_pass
          case ho => rfl
          case hw => rfl
          go_simp)
       | (apply pl_take
          case ho => rfl
          case hw => rfl
          case hv =>
            intro w' hS
            (skip)
            go_simp
            exact rfl
          go_simp))
  refine pl_done ?_
  have HBX5 := hide hbx5
  have HQ5 : Hid (Keeps (· < v4.heap.size) v4 v5) := hide (Keeps.old_tr (kb'.mono fun _ _ _ => trivial) kn)
  have HO5 := hide (Keeps.old_tr HO4.out HQ5.out)
  have HDP5 := hide (ddn.below (B' := v4.heap.size) kb'.size)
  have HPK5 := hide ddn.ok
  have HDP3 := hide (HDP3.out.keep HQ5.out fun b _ hb => hb)
  have HDP4 := hide (HDP4.out.keep HQ5.out fun b _ hb => hb)
  clear kd ka ka' kb kb' kc kc' kn hbx5 dda ddb ddn mt
  have q0 := cell_at HBX5.out.1 0; have q1 := cell_at HBX5.out.1 1; have q2 := cell_at HBX5.out.1 2; have r0 := cell_at HBX5.out.2 0; have r1 := cell_at HBX5.out.2 1; have r2 := cell_at HBX5.out.2 2; simp only [List.getElem?_toArray, List.getElem?_cons_zero, List.getElem?_cons_succ] at q0 q1 q2 r0 r1 r2
  go_wp2_with fail
  refine of20 (HA.out.old HO5.out) HOKA.out ?_; rintro e v6 do6 rfl ddo kn
  have HQ6 := hide (kn.mono (S' := (· < v5.heap.size)) fun _ _ _ => trivial)
  have HO6 := hide (HO5.out.tr_same kn)
  have HBX6 := hide (And.intro (kn.at HBX5.out.1 trivial) (kn.at HBX5.out.2 trivial))
  have HDP3 := hide (HDP3.out.same kn)
  have HDP4 := hide (HDP4.out.same kn)
  have HDP5 := hide (HDP5.out.same kn)
  have HDO := hide ddo
  clear kn ddo q0 q1 q2 r0 r1 r2
  go_wp2_with fail
  refine prodNot HDO.out ?_; rintro e v7 dn7 rfl ddn kn
  have HQ7 := hide (kn.mono (S' := (· < v6.heap.size)) fun _ _ _ => trivial)
  have HO7 := hide (HO6.out.tr_same kn)
  have HBX7 := hide (And.intro (kn.at HBX6.out.1 trivial) (kn.at HBX6.out.2 trivial))
  have HDP3 := hide (HDP3.out.same kn)
  have HDP4 := hide (HDP4.out.same kn)
  have HDP5 := hide (HDP5.out.same kn)
  have HDNA := hide ddn
  clear kn ddn HDO
  have q0 := cell_at HBX7.out.1 0; have q1 := cell_at HBX7.out.1 1; have q2 := cell_at HBX7.out.1 2; have r0 := cell_at HBX7.out.2 0; have r1 := cell_at HBX7.out.2 1; have r2 := cell_at HBX7.out.2 2; simp only [List.getElem?_toArray, List.getElem?_cons_zero, List.getElem?_cons_succ] at q0 q1 q2 r0 r1 r2
  go_wp2_with fail
  refine of20 (HB.out.old HO7.out) HOKB.out ?_; rintro e v8 do8 rfl ddo kn
  have HQ8 := hide (kn.mono (S' := (· < v7.heap.size)) fun _ _ _ => trivial)
  have HO8 := hide (HO7.out.tr_same kn)
  have HBX8 := hide (And.intro (kn.at HBX7.out.1 trivial) (kn.at HBX7.out.2 trivial))
  have HDP3 := hide (HDP3.out.same kn)
  have HDP4 := hide (HDP4.out.same kn)
  have HDP5 := hide (HDP5.out.same kn)
  have HDNA := hide (HDNA.out.same kn)
  have HDO := hide ddo
  clear kn ddo q0 q1 q2 r0 r1 r2
  go_wp2_with fail
  refine prodNot HDO.out ?_; rintro e v9 dn9 rfl ddn kn
  have HQ9 := hide (kn.mono (S' := (· < v8.heap.size)) fun _ _ _ => trivial)
  have HO9 := hide (HO8.out.tr_same kn)
  have HBX9 := hide (And.intro (kn.at HBX8.out.1 trivial) (kn.at HBX8.out.2 trivial))
  have HDP3 := hide (HDP3.out.same kn)
  have HDP4 := hide (HDP4.out.same kn)
  have HDP5 := hide (HDP5.out.same kn)
  have HDNA := hide (HDNA.out.same kn)
  have HDNB := hide ddn
  clear kn ddn HDO
  go_wp2_with fail
  refine meterNew 1000 ?_; rintro e wc rfl mt kc
  rw [show max (1000 : Int) 0 = 1000 by decide] at mt
  go_wp2_with fail
  refine prodBoth (w0 := v9) HDNA.out HDNB.out kc HT.out 14 (by decide) mt (Nat.le_refl _) (by decide) (by decide) ?_ (fun h => absurd h (by rw [not_length, not_length]; have := HFAB.out; omega))
  rintro e v10 dd10 rfl ddn kn
  have HBX10 := hide (And.intro (kn.at HBX9.out.1 (heap_lt HBX9.out.1)) (kn.at HBX9.out.2 (heap_lt HBX9.out.2)))
  have HO10 := hide (Keeps.old_tr HO9.out kn)
  have HPK10 := hide ddn.ok
  have HDO := hide ddn
  have HDP3 := hide (HDP3.out.keep kn fun b _ hb => hb)
  have HDP4 := hide (HDP4.out.keep kn fun b _ hb => hb)
  have HDP5 := hide (HDP5.out.keep kn fun b _ hb => hb)
  clear kn ddn mt kc
  go_wp2_with fail
  refine prodNot HDO.out ?_; rintro e v11 dn11 rfl ddn kn
  have HQ11 := hide (kn.mono (S' := (· < v10.heap.size)) fun _ _ _ => trivial)
  have HO11 := hide (HO10.out.tr_same kn)
  have HBX11 := hide (And.intro (kn.at HBX10.out.1 trivial) (kn.at HBX10.out.2 trivial))
  have HDP3 := hide (HDP3.out.same kn)
  have HDP4 := hide (HDP4.out.same kn)
  have HDP5 := hide (HDP5.out.same kn)
  have HDN := hide ddn
  clear kn ddn HDO
  go_wp2_with fail
  have R1 := hide (rule_turn HOKA.out HOKB.out HT.out HPK3.out HPK4.out)
  have R2 := hide (rule_same HOKA.out HPK5.out)
  have R3 := hide (rule_not HOKA.out HOKB.out HPK3.out HPK10.out)
  have HNK := hide (notAu_ok HPK10.out)
  have kd : Same v11 v11.drew := Keeps.drew (Keeps.refl (fun _ => True) v11)
  refine wp_region_plan (.take 0 (.take 1 (.take 2 (.take 3 (.take 4 (.take 5 (.take 6 (.take 7 (.take 9 (.one 8 (.one 10 (.one 11 (.take 12 (.take 13 (.take 14 (.take 16 (.one 15 (.one 17 (.take 18 (.take 19 (.take 20 (.take 22 (.one 21 (.one 23 (.one 24 (.take 25 (.take 26 (.one 27 (.take 28 (.take 29 .done)))))))))))))))))))))))))))))) (fun w' => w'.heap[w.heap.size]? = some (.cells #[.int .i64 A.T, .slice aa A.acc.length ac, .slice na A.next.length nc] 25 (0, 0)) ∧ w'.heap[w.heap.size + 1]? = some (.cells #[.int .i64 B.T, .slice ba B.acc.length bc, .slice ma B.next.length mc] 25 (0, 0))) (by kernel_rfl) (by kernel_rfl) ⟨kd.at HBX11.out.1 trivial, kd.at HBX11.out.2 trivial⟩ ?_
  iterate 9
    (first
       | (apply pl_pass
          case ho => rfl
          case hw => rfl
          go_simp)
       | (apply pl_take
          case ho => rfl
          case hw => rfl
          case hv =>
            intro w' hS
            (have q0 := cell_at hS.1 0; have q1 := cell_at hS.1 1; have q2 := cell_at hS.1 2; have r0 := cell_at hS.2 0; have r1 := cell_at hS.2 1; have r2 := cell_at hS.2 2; simp only [List.getElem?_toArray, List.getElem?_cons_zero, List.getElem?_cons_succ] at q0 q1 q2 r0 r1 r2)
            go_simp
            exact rfl
          go_simp))
  refine pl_one (up_do rfl rfl fun K hK1 => ?_)
  go_simp
  refine dfaTo (HDP3.out.same kd) ?_; rintro e u1 x1 rfl o1 k1
  have c1 := kd.tr k1
  refine hK1 _ _ _ ⟨c1.at HBX11.out.1 trivial, c1.at HBX11.out.2 trivial⟩ (fun _ h => h) ?_
  clear hK1 K
  refine pl_one (up_do rfl rfl fun K hK1 => ?_)
  go_simp
  refine dfaTo (HDP4.out.same c1) ?_; rintro e u2 x2 rfl o2 k2
  have c2 := c1.tr k2
  refine hK1 _ _ _ ⟨c2.at HBX11.out.1 trivial, c2.at HBX11.out.2 trivial⟩ (fun _ h => h) ?_
  clear hK1 K
  refine pl_one (up_do rfl rfl fun K hK1 => ?_)
  go_simp
  refine refSame24 ((o1.auto HPK3.out).same k2) (o2.auto HPK4.out) HPK3.out HPK4.out ?_; rintro e u3 rfl k3
  rw [decide_eq_true R1.out]
  have c3 := c2.tr k3
  refine hK1 _ _ _ ⟨c3.at HBX11.out.1 trivial, c3.at HBX11.out.2 trivial⟩ (fun _ h => h) ?_
  clear hK1 K
  clear o1 o2
  iterate 4
    (first
       | (apply pl_pass
          case ho => rfl
          case hw => rfl
          go_simp)
       | (apply pl_take
          case ho => rfl
          case hw => rfl
          case hv =>
            intro w' hS
            (have q0 := cell_at hS.1 0; have q1 := cell_at hS.1 1; have q2 := cell_at hS.1 2; have r0 := cell_at hS.2 0; have r1 := cell_at hS.2 1; have r2 := cell_at hS.2 2; simp only [List.getElem?_toArray, List.getElem?_cons_zero, List.getElem?_cons_succ] at q0 q1 q2 r0 r1 r2)
            go_simp
            exact rfl
          go_simp))
  refine pl_one (up_do rfl rfl fun K hK1 => ?_)
  go_simp
  refine dfaTo (HDP5.out.same c3) ?_; rintro e u4 x4 rfl o4 k4
  have c4 := c3.tr k4
  refine hK1 _ _ _ ⟨c4.at HBX11.out.1 trivial, c4.at HBX11.out.2 trivial⟩ (fun _ h => h) ?_
  clear hK1 K
  refine pl_one (up_do rfl rfl fun K hK1 => ?_)
  go_simp
  refine refSame24 (o4.auto HPK5.out) (HA.out.old (HO11.out.tr_same c4)) HPK5.out HOKA.out ?_; rintro e u5 rfl k5
  rw [decide_eq_true R2.out]
  have c5 := c4.tr k5
  refine hK1 _ _ _ ⟨c5.at HBX11.out.1 trivial, c5.at HBX11.out.2 trivial⟩ (fun _ h => h) ?_
  clear hK1 K
  clear o4
  iterate 4
    (first
       | (apply pl_pass
          case ho => rfl
          case hw => rfl
          go_simp)
       | (apply pl_take
          case ho => rfl
          case hw => rfl
          case hv =>
            intro w' hS
            (skip)
            go_simp
            exact rfl
          go_simp))
  refine pl_one (up_do rfl rfl fun K hK1 => ?_)
  go_simp
  refine dfaTo (HDN.out.same c5) ?_; rintro e u6 x6 rfl o6 k6
  have c6 := c5.tr k6
  refine hK1 _ _ _ ⟨c6.at HBX11.out.1 trivial, c6.at HBX11.out.2 trivial⟩ (fun _ h => h) ?_
  clear hK1 K
  refine pl_one (up_do rfl rfl fun K hK1 => ?_)
  go_simp
  refine dfaTo (HDP3.out.same c6) ?_; rintro e u7 x7 rfl o7 k7
  have c7 := c6.tr k7
  refine hK1 _ _ _ ⟨c7.at HBX11.out.1 trivial, c7.at HBX11.out.2 trivial⟩ (fun _ h => h) ?_
  clear hK1 K
  refine pl_one (up_do rfl rfl fun K hK1 => ?_)
  go_simp
  refine refSame24 ((o6.auto HNK.out).same k7) (o7.auto HPK3.out) HNK.out HPK3.out ?_; rintro e u8 rfl k8
  rw [decide_eq_true R3.out]
  have c8 := c7.tr k8
  refine hK1 _ _ _ ⟨c8.at HBX11.out.1 trivial, c8.at HBX11.out.2 trivial⟩ (fun _ h => h) ?_
  clear hK1 K
  clear o6 o7
  iterate 2
    (first
       | (apply pl_pass
          case ho => rfl
          case hw => rfl
          go_simp)
       | (apply pl_take
          case ho => rfl
          case hw => rfl
          case hv =>
            intro w' hS
            (skip)
            go_simp
            exact rfl
          go_simp))
  have HB13 := hide (And.intro (c8.at HBX11.out.1 trivial) (c8.at HBX11.out.2 trivial))
  have HO13 := hide (HO11.out.tr_same c8)
  refine pl_one (up_do rfl rfl fun K hK1 => ?_)
  go_simp
  refine known20 ?_; rintro e uz rfl kz
  refine hK1 _ _ _ ⟨kz.at HB13.out.1 (heap_lt HB13.out.1), kz.at HB13.out.2 (heap_lt HB13.out.2)⟩ (fun _ h => h) ?_
  clear hK1 K
  iterate 2
    (first
       | (apply pl_pass
          case ho => rfl
          case hw => rfl
          go_simp)
       | (apply pl_take
          case ho => rfl
          case hw => rfl
          case hv =>
            intro w' hS
            (skip)
            go_simp
            exact rfl
          go_simp))
  refine pl_done ?_
  have HF := hide (Keeps.old_tr HO13.out kz)
  clear kd c1 k1 c2 k2 c3 k3 c4 k4 c5 k5 c6 k6 c7 k7 c8 k8 kz
  go_wp2_with fail
  exact HR.out _ _ rfl HF.out

end Go.Proofs.Ytohhjdadhdibfaa
