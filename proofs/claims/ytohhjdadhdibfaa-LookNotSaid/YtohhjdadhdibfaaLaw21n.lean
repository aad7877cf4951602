/- The walk of LookNot. -/
import Derived.Test.YtohhjdadhdibfaaKnown21
import Derived.Test.YtohhjdadhdibfaaRef20n
namespace Go.Proofs.Ytohhjdadhdibfaa
open Go.RowKit

attribute [local irreducible] wpQuiet wpPlan wpPlanZ wpUp

variable {A : Au}

theorem nx_not (A : Au) (s c : Nat) : nx (notAu A) s c = nx A s c := rfl

theorem rch_not {s : Nat} : Rch (notAu A) s ↔ Rch A s := by
  constructor
  · intro h
    induction h with
    | zero => exact .zero
    | step _ hc ih => exact Rch.step ih hc
  · intro h
    induction h with
    | zero => exact .zero
    | step _ hc ih => exact Rch.step (A := notAu A) ih hc

theorem rchL_not (h : AuOk A) : rchL (notAu A) = rchL A :=
  rise_unique (rchL_rising _) (rchL_rising _) fun x => by
    rw [mem_rchL h, mem_rchL (notAu_ok h)]
    exact ⟨fun ⟨s, e, hs⟩ => ⟨s, e, rch_not.1 hs⟩, fun ⟨s, e, hs⟩ => ⟨s, e, rch_not.2 hs⟩⟩

theorem acc_not {s : Nat} (hs : s < A.acc.length) : accA (notAu A) (s : Int) = !accA A (s : Int) := by
  rw [accA_ac hs, accA_ac (by simpa [notAu] using hs)]
  simp [ac, notAu, List.getD_eq_getElem?_getD, List.getElem?_eq_getElem hs]

theorem any_all (h : AuOk A) : (rchL (notAu A)).any (fun x => !accA (notAu A) x) = (rchL A).any (accA A) ∧ (rchL (notAu A)).any (accA (notAu A)) = (rchL A).any (fun x => !accA A x) := by
  rw [rchL_not h]
  have key : ∀ x ∈ rchL A, accA (notAu A) x = !accA A x := fun x hx => by
    obtain ⟨s, rfl, hs⟩ := (mem_rchL h).1 hx
    exact acc_not (hs.lt h)
  constructor
  · rw [Bool.eq_iff_iff, List.any_eq_true, List.any_eq_true]
    constructor
    · rintro ⟨x, hx, hp⟩; rw [key x hx] at hp; exact ⟨x, hx, by simpa using hp⟩
    · rintro ⟨x, hx, hp⟩; exact ⟨x, hx, by rw [key x hx]; simpa using hp⟩
  · rw [Bool.eq_iff_iff, List.any_eq_true, List.any_eq_true]
    constructor
    · rintro ⟨x, hx, hp⟩; rw [key x hx] at hp; exact ⟨x, hx, hp⟩
    · rintro ⟨x, hx, hp⟩; exact ⟨x, hx, by rw [key x hx]; exact hp⟩

set_option maxRecDepth 10000 in
set_option maxHeartbeats 4000000 in
theorem lookNotWalk (va : Value) (A : Au) (w : World) (hA : AutoAt w va A) :
    Calls Try.prog 12 #[va] w fun e w' => e = .returned (.bool true) ∧ Below w.heap.size w w' := by
  refine law_of fun R HR => ?_
  have HA := hide hA
  obtain ⟨xa, xn, rfl, hacc, hnext, _⟩ := hA
  obtain ⟨aa, ac, rfl, _⟩ := hacc.open
  obtain ⟨na, nc, rfl, _⟩ := hnext.open
  have hA1 := heap_new w (.cells #[.int .i64 A.T, .slice aa A.acc.length ac, .slice na A.next.length nc] 25)
  have kA : Same w (w.alloc (.cells #[.int .i64 A.T, .slice aa A.acc.length ac, .slice na A.next.length nc] 25)) := (Keeps.refl _ w).alloc _
  go_enter Try.func12, Try.ntmps12
  go_wp2_with fail
  generalize w.alloc (.cells #[.int .i64 A.T, .slice aa A.acc.length ac, .slice na A.next.length nc] 25) = wb at hA1 kA ⊢
  have BXA := hide hA1
  have HKB := hide kA
  clear hA1 kA hacc hnext
  refine may21 (HA.out.same HKB.out) ?_; rintro e w1 rfl k1
  cases hmA : mayB A with
  | false =>
    go_wp2_with fail
    exact HR.out _ _ rfl ((HKB.out.tr k1).mono fun _ _ _ => trivial)
  | true =>
  have HOKA := hide (show AuOk A by unfold mayB at hmA; exact (of_decide_eq_true hmA).2.2)
  have HNOK := hide (notAu_ok HOKA.out)
  have HANY := hide (any_all HOKA.out)
  have hS := k1.at BXA.out trivial
  have q0 := cell_at hS 0; have q1 := cell_at hS 1; have q2 := cell_at hS 2; simp only [List.getElem?_toArray, List.getElem?_cons_zero, List.getElem?_cons_succ] at q0 q1 q2
  have BXA1 := hide hS
  have HK1 := hide (HKB.out.tr k1)
  clear hmA hS k1
  go_wp2_with fail
  refine refNot (HA.out.same HK1.out) HOKA.out ?_; rintro e w2 u rfl aN k2
  have HN := hide aN
  obtain ⟨ya, yn, rfl, hacc2, hnext2, _⟩ := aN
  obtain ⟨ba, bc, rfl, _⟩ := hacc2.open
  obtain ⟨ma, mc, rfl, _⟩ := hnext2.open
  have BXA2 := hide (k2.at BXA1.out trivial)
  have HK2 := hide (HK1.out.tr k2)
  clear k2 q0 q1 q2 hacc2 hnext2
  go_wp2_with fail
  have hN1 := heap_new w2 (.cells #[.int .i64 (notAu A).T, .slice ba (notAu A).acc.length bc, .slice ma (notAu A).next.length mc] 25)
  have kN : Same w2 (w2.alloc (.cells #[.int .i64 (notAu A).T, .slice ba (notAu A).acc.length bc, .slice ma (notAu A).next.length mc] 25)) := (Keeps.refl _ w2).alloc _
  generalize w2.alloc (.cells #[.int .i64 (notAu A).T, .slice ba (notAu A).acc.length bc, .slice ma (notAu A).next.length mc] 25) = w3 at hN1 kN ⊢
  generalize w2.heap.size = nb at hN1 ⊢
  have BXN := hide hN1
  have BXA3 := hide (kN.at BXA2.out trivial)
  have HK3 := hide (HK2.out.tr kN)
  have HN3 := hide (HN.out.same kN)
  clear hN1 kN
  have kd : Same w3 w3.drew := Keeps.drew (Keeps.refl (fun _ => True) w3)
  refine wp_region_plan (.take 0 (.take 3 (.one 1 (.one 2 (.one 4 (.one 5 (.take 6 (.take 7 (.take 8 (.take 11 (.one 9 (.one 10 (.one 12 (.one 13 (.take 14 (.take 15 (.take 16 (.one 17 (.take 18 (.take 19 .done)))))))))))))))))))) (fun w' => w'.heap[w.heap.size]? = some (.cells #[.int .i64 A.T, .slice aa A.acc.length ac, .slice na A.next.length nc] 25 (0, 0)) ∧ w'.heap[nb]? = some (.cells #[.int .i64 (notAu A).T, .slice ba (notAu A).acc.length bc, .slice ma (notAu A).next.length mc] 25 (0, 0))) (by kernel_rfl) (by kernel_rfl) ⟨kd.at BXA3.out trivial, kd.at BXN.out trivial⟩ ?_
  iterate 2
    (first
       | (apply pl_pass
          case ho => rfl
          case hw => rfl
          go_simp)
       | (apply pl_take
          case ho => rfl
          case hw => rfl
          case hv =>
            intro w' hS
            (have q0 := cell_at hS.1 0; have q1 := cell_at hS.1 1; have q2 := cell_at hS.1 2; have r0 := cell_at hS.2 0; have r1 := cell_at hS.2 1; have r2 := cell_at hS.2 2; simp only [List.getElem?_toArray, List.getElem?_cons_zero, List.getElem?_cons_succ] at q0 q1 q2 r0 r1 r2)
            go_simp
            exact rfl
          go_simp))
  refine pl_one (up_do rfl rfl fun K hK1 => ?_)
  go_simp
  refine of21 (HA.out.same (HK3.out.tr kd)) HOKA.out ?_; rintro e v1 x1 rfl d1 k1
  have c1 := kd.tr k1
  refine hK1 _ _ _ ⟨c1.at BXA3.out trivial, c1.at BXN.out trivial⟩ (fun _ h => h) ?_
  clear hK1 K
  refine pl_one (up_do rfl rfl fun K hK1 => ?_)
  go_simp
  refine lookEmptyR d1 ?_; rintro e v2 rfl k2
  have c2 := c1.tr k2
  refine hK1 _ _ _ ⟨c2.at BXA3.out trivial, c2.at BXN.out trivial⟩ (fun _ h => h) ?_
  clear hK1 K
  refine pl_one (up_do rfl rfl fun K hK1 => ?_)
  go_simp
  refine of21 (HN3.out.same c2) HNOK.out ?_; rintro e v3 x3 rfl d3 k3
  have c3 := c2.tr k3
  refine hK1 _ _ _ ⟨c3.at BXA3.out trivial, c3.at BXN.out trivial⟩ (fun _ h => h) ?_
  clear hK1 K
  refine pl_one (up_do rfl rfl fun K hK1 => ?_)
  go_simp
  refine lookAllR d3 ?_; rintro e v4 he k4
  have c4 := c3.tr k4
  rw [HANY.out.1] at he
  subst he
  refine hK1 _ _ _ ⟨c4.at BXA3.out trivial, c4.at BXN.out trivial⟩ (fun _ h => h) ?_
  clear hK1 K
  iterate 4
    (first
       | (apply pl_pass
          case ho => rfl
          case hw => rfl
          go_simp)
       | (apply pl_take
          case ho => rfl
          case hw => rfl
          case hv =>
            intro w' hS
            (have q0 := cell_at hS.1 0; have q1 := cell_at hS.1 1; have q2 := cell_at hS.1 2; have r0 := cell_at hS.2 0; have r1 := cell_at hS.2 1; have r2 := cell_at hS.2 2; simp only [List.getElem?_toArray, List.getElem?_cons_zero, List.getElem?_cons_succ] at q0 q1 q2 r0 r1 r2)
            go_simp
            exact rfl
          go_simp))
  refine pl_one (up_do rfl rfl fun K hK1 => ?_)
  go_simp
  refine of21 (HA.out.same (HK3.out.tr c4)) HOKA.out ?_; rintro e v5 x5 rfl d5 k5
  have c5 := c4.tr k5
  refine hK1 _ _ _ ⟨c5.at BXA3.out trivial, c5.at BXN.out trivial⟩ (fun _ h => h) ?_
  clear hK1 K
  refine pl_one (up_do rfl rfl fun K hK1 => ?_)
  go_simp
  refine lookAllR d5 ?_; rintro e v6 rfl k6
  have c6 := c5.tr k6
  refine hK1 _ _ _ ⟨c6.at BXA3.out trivial, c6.at BXN.out trivial⟩ (fun _ h => h) ?_
  clear hK1 K
  refine pl_one (up_do rfl rfl fun K hK1 => ?_)
  go_simp
  refine of21 (HN3.out.same c6) HNOK.out ?_; rintro e v7 x7 rfl d7 k7
  have c7 := c6.tr k7
  refine hK1 _ _ _ ⟨c7.at BXA3.out trivial, c7.at BXN.out trivial⟩ (fun _ h => h) ?_
  clear hK1 K
  refine pl_one (up_do rfl rfl fun K hK1 => ?_)
  go_simp
  refine lookEmptyR d7 ?_; rintro e v8 he k8
  have c8 := c7.tr k8
  rw [HANY.out.2] at he
  subst he
  refine hK1 _ _ _ ⟨c8.at BXA3.out trivial, c8.at BXN.out trivial⟩ (fun _ h => h) ?_
  clear hK1 K
  iterate 3
    (first
       | (apply pl_pass
          case ho => rfl
          case hw => rfl
          go_simp)
       | (apply pl_take
          case ho => rfl
          case hw => rfl
          case hv =>
            intro w' hS
            (have q0 := cell_at hS.1 0; have q1 := cell_at hS.1 1; have q2 := cell_at hS.1 2; have r0 := cell_at hS.2 0; have r1 := cell_at hS.2 1; have r2 := cell_at hS.2 2; simp only [List.getElem?_toArray, List.getElem?_cons_zero, List.getElem?_cons_succ] at q0 q1 q2 r0 r1 r2)
            go_simp
            exact rfl
          go_simp))
  refine pl_one (up_do rfl rfl fun K hK1 => ?_)
  go_simp
  refine known21 ?_; rintro e v9 rfl k9
  have c9 := c8.tr k9
  refine hK1 _ _ _ ⟨c9.at BXA3.out trivial, c9.at BXN.out trivial⟩ (fun _ h => h) ?_
  clear hK1 K
  iterate 2
    (first
       | (apply pl_pass
          case ho => rfl
          case hw => rfl
          go_simp)
       | (apply pl_take
          case ho => rfl
          case hw => rfl
          case hv =>
            intro w' hS
            (have q0 := cell_at hS.1 0; have q1 := cell_at hS.1 1; have q2 := cell_at hS.1 2; have r0 := cell_at hS.2 0; have r1 := cell_at hS.2 1; have r2 := cell_at hS.2 2; simp only [List.getElem?_toArray, List.getElem?_cons_zero, List.getElem?_cons_succ] at q0 q1 q2 r0 r1 r2)
            go_simp
            exact rfl
          go_simp))
  refine pl_done ?_
  have HF := hide ((HK3.out.tr c9).mono (S' := (· < w.heap.size)) fun _ _ _ => trivial)
  clear c1 c2 c3 c4 c5 c6 c7 c8 c9 d1 d3 d5 d7 k1 k2 k3 k4 k5 k6 k7 k8 k9
  go_wp2_with fail
  exact HR.out _ _ rfl HF.out

end Go.Proofs.Ytohhjdadhdibfaa
