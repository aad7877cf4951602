/- The walks of sibyllaw23.may, of, known, TrackWidens. -/
import Derived.Test.YtameihkcajceeaaRef23
namespace Go.Proofs.Ytameihkcajceeaa
open Go.RowKit

attribute [local irreducible] wpQuiet wpPlan wpPlanZ wpUp

variable {R : Ending → World → Prop} {w : World} {A : Au}

set_option maxHeartbeats 1000000 in
theorem may23 {v : Value} (hv : AutoAt w v A) (hR : ∀ e w', e = .returned (.bool (mayB A)) → Same w w' → R e w') :
    Calls Try.prog 25 #[v] w R := by
  have HR := hide hR
  clear hR
  have HV := hide hv
  obtain ⟨va, vn, rfl, hacc, hnext, hT⟩ := hv
  obtain ⟨aa, ac, rfl, hc1, hc2, _⟩ := hacc.open
  obtain ⟨na, nc, rfl, hd1, hd2, _⟩ := hnext.open
  unfold maxLen at hc2 hd2
  have hk : Same w (w.alloc (.cells #[.int .i64 A.T, .slice aa A.acc.length ac, .slice na A.next.length nc] 25)) := (Keeps.refl _ w).alloc _
  have hbox := heap_new w (.cells #[.int .i64 A.T, .slice aa A.acc.length ac, .slice na A.next.length nc] 25)
  have c0 := cell_at hbox 0
  have c1 := cell_at hbox 1
  have c2 := cell_at hbox 2
  simp only [List.getElem?_toArray, List.getElem?_cons_zero, List.getElem?_cons_succ] at c0 c1 c2
  clear hacc hnext hT hbox
  by_cases h1 : A.acc.length ≤ 40
  · by_cases h2 : A.next.length ≤ 40
    · have HM : Hid (mayB A = decide (AuOk A)) := hide (by unfold mayB; simp [h1, h2])
      go_enter Try.func25, Try.ntmps25
      go_wp2_with fail
      refine refIs (HV.out.same hk) ?_; rintro e w1 rfl k1
      rw [← HM.out]
      go_wp2_with fail
      exact HR.out _ _ rfl (hk.tr k1)
    · have HM : Hid (mayB A = false) := hide (by unfold mayB; simp [h2])
      go_enter Try.func25, Try.ntmps25
      go_wp2_with fail
      exact HR.out _ _ (ret_bool HM.out.symm) hk
  · have HM : Hid (mayB A = false) := hide (by unfold mayB; simp [h1])
    go_enter Try.func25, Try.ntmps25
    go_wp2_with fail
    exact HR.out _ _ (ret_bool HM.out.symm) hk

theorem of23 {v : Value} (hv : AutoAt w v A) (hok : AuOk A) (hR : ∀ e w' d, e = .returned (.pointer (some ⟨d, 0, none⟩)) → DFAAt w' w.heap.size d A → Same w w' → R e w') :
    Calls Try.prog 27 #[v] w R := by
  have HR := hide hR
  clear hR
  have HV := hide hv
  obtain ⟨va, vn, rfl, hacc, hnext, hT⟩ := hv
  obtain ⟨aa, ac, rfl, _⟩ := hacc.open
  obtain ⟨na, nc, rfl, _⟩ := hnext.open
  have hk : Same w (w.alloc (.cells #[.int .i64 A.T, .slice aa A.acc.length ac, .slice na A.next.length nc] 25)) := (Keeps.refl _ w).alloc _
  clear hacc hnext hT
  go_enter Try.func27, Try.ntmps27
  go_wp2_with fail
  refine autoFrom (HV.out.same hk) hok ?_; rintro e w1 d rfl d1 k1
  go_wp2_with fail
  exact HR.out _ _ d rfl (d1.below hk.size) (hk.tr k1)

theorem of23Not {v : Value} (hv : AutoAt w v A) (hno : ¬ AuOk A) (hR : ∀ e w', e = .returned (.pointer none) → Same w w' → R e w') :
    Calls Try.prog 27 #[v] w R := by
  have HR := hide hR
  clear hR
  have HV := hide hv
  obtain ⟨va, vn, rfl, hacc, hnext, hT⟩ := hv
  obtain ⟨aa, ac, rfl, _⟩ := hacc.open
  obtain ⟨na, nc, rfl, _⟩ := hnext.open
  have hk : Same w (w.alloc (.cells #[.int .i64 A.T, .slice aa A.acc.length ac, .slice na A.next.length nc] 25)) := (Keeps.refl _ w).alloc _
  clear hacc hnext hT
  go_enter Try.func27, Try.ntmps27
  go_wp2_with fail
  refine autoFromNot (HV.out.same hk) hno ?_; rintro e w1 rfl k1
  go_wp2_with fail
  exact HR.out _ _ rfl (hk.tr k1)

/-- Two states, two tracks. -/
def knAu : Au := ⟨2, [false, true], [[0, 1, 0, 0], [1, 1, 1, 1]]⟩
theorem knAu_ok : AuOk knAu := by decide

set_option maxRecDepth 10000 in
set_option maxHeartbeats 1000000 in
theorem known23 (hR : ∀ e w', e = .returned (.bool true) → Same w w' → R e w') : Calls Try.prog 30 #[] w R := by
  have HR := hide hR
  clear hR
  go_enter Try.func30, Try.ntmps30
  go_wp2_with fail
  have g0 := heap_new w (.cells #[.bool false, .bool true] 4)
  have e0 : (w.alloc (.cells #[.bool false, .bool true] 4)).heap.size = w.heap.size + 1 := by simp
  have k0 : Same w (w.alloc (.cells #[.bool false, .bool true] 4)) := (Keeps.refl _ w).alloc _
  generalize w.alloc (.cells #[.bool false, .bool true] 4) = w1 at g0 e0 k0 ⊢
  have g1 := heap_new w1 (.cells #[.int .i64 0, .int .i64 1, .int .i64 0, .int .i64 0] 3)
  rw [e0] at g1
  have e1 : (w1.alloc (.cells #[.int .i64 0, .int .i64 1, .int .i64 0, .int .i64 0] 3)).heap.size = w.heap.size + 1 + 1 := by simp [e0]
  have k1 : Same w1 (w1.alloc (.cells #[.int .i64 0, .int .i64 1, .int .i64 0, .int .i64 0] 3)) := (Keeps.refl _ w1).alloc _
  generalize w1.alloc (.cells #[.int .i64 0, .int .i64 1, .int .i64 0, .int .i64 0] 3) = w2 at g1 e1 k1 ⊢
  have g2 := heap_new w2 (.cells #[.int .i64 1, .int .i64 1, .int .i64 1, .int .i64 1] 3)
  rw [e1] at g2
  have e2 : (w2.alloc (.cells #[.int .i64 1, .int .i64 1, .int .i64 1, .int .i64 1] 3)).heap.size = w.heap.size + 1 + 1 + 1 := by simp [e1]
  have k2 : Same w2 (w2.alloc (.cells #[.int .i64 1, .int .i64 1, .int .i64 1, .int .i64 1] 3)) := (Keeps.refl _ w2).alloc _
  generalize w2.alloc (.cells #[.int .i64 1, .int .i64 1, .int .i64 1, .int .i64 1] 3) = w3 at g2 e2 k2 ⊢
  have g3 := heap_new w3 (.cells #[.slice (some ⟨w.heap.size + 1, 0, none⟩) 4 4, .slice (some ⟨w.heap.size + 1 + 1, 0, none⟩) 4 4] 40)
  rw [e2] at g3
  have e3 : (w3.alloc (.cells #[.slice (some ⟨w.heap.size + 1, 0, none⟩) 4 4, .slice (some ⟨w.heap.size + 1 + 1, 0, none⟩) 4 4] 40)).heap.size = w.heap.size + 1 + 1 + 1 + 1 := by simp [e2]
  have k3 : Same w3 (w3.alloc (.cells #[.slice (some ⟨w.heap.size + 1, 0, none⟩) 4 4, .slice (some ⟨w.heap.size + 1 + 1, 0, none⟩) 4 4] 40)) := (Keeps.refl _ w3).alloc _
  generalize w3.alloc (.cells #[.slice (some ⟨w.heap.size + 1, 0, none⟩) 4 4, .slice (some ⟨w.heap.size + 1 + 1, 0, none⟩) 4 4] 40) = w4 at g3 e3 k3 ⊢
  have g4 := heap_new w4 (.cells #[.int .i64 2, .slice (some ⟨w.heap.size, 0, none⟩) 2 2, .slice (some ⟨w.heap.size + 1 + 1 + 1, 0, none⟩) 2 2] 25)
  rw [e3] at g4
  have e4 : (w4.alloc (.cells #[.int .i64 2, .slice (some ⟨w.heap.size, 0, none⟩) 2 2, .slice (some ⟨w.heap.size + 1 + 1 + 1, 0, none⟩) 2 2] 25)).heap.size = w.heap.size + 1 + 1 + 1 + 1 + 1 := by simp [e3]
  have k4 : Same w4 (w4.alloc (.cells #[.int .i64 2, .slice (some ⟨w.heap.size, 0, none⟩) 2 2, .slice (some ⟨w.heap.size + 1 + 1 + 1, 0, none⟩) 2 2] 25)) := (Keeps.refl _ w4).alloc _
  generalize w4.alloc (.cells #[.int .i64 2, .slice (some ⟨w.heap.size, 0, none⟩) 2 2, .slice (some ⟨w.heap.size + 1 + 1 + 1, 0, none⟩) 2 2] 25) = w5 at g4 e4 k4 ⊢
  have k15 := k1.tr (k2.tr (k3.tr k4))
  have h0 := k15.at g0 trivial
  have h1 := (k2.tr (k3.tr k4)).at g1 trivial
  have h2 := (k3.tr k4).at g2 trivial
  have h3 := k4.at g3 trivial
  have hA : AutoAt w5 (.agg #[.int .i64 2, .slice (some ⟨w.heap.size, 0, none⟩) 2 2, .slice (some ⟨w.heap.size + 1 + 1 + 1, 0, none⟩) 2 2]) knAu := by
    refine ⟨_, _, rfl, ⟨_, 2, rfl, Nat.le_refl _, by decide, .inr ⟨_, 0, _, _, _, rfl, h0, fun i x hx => ?_⟩⟩, ⟨[.slice (some ⟨w.heap.size + 1, 0, none⟩) 4 4, .slice (some ⟨w.heap.size + 1 + 1, 0, none⟩) 4 4], ⟨_, 2, rfl, Nat.le_refl _, by decide, .inr ⟨_, 0, _, _, _, rfl, h3, fun i x hx => ?_⟩⟩, rfl, fun i u l hu hl => ?_⟩, by simp [knAu, InI64]⟩
    · simpa [knAu] using hx
    · simpa using hx
    · match i with
      | 0 =>
        simp [knAu] at hu hl; subst hu; subst hl
        exact ints_of_block h1 [0, 1, 0, 0] rfl (by simp [InI64]) rfl (Nat.le_refl _) (by decide)
      | 1 =>
        simp [knAu] at hu hl; subst hu; subst hl
        exact ints_of_block h2 [1, 1, 1, 1] rfl (by simp [InI64]) rfl (Nat.le_refl _) (by decide)
      | n + 2 => simp at hu
  have HK := hide (k0.tr k15)
  clear g0 g1 g2 g3 g4 e0 e1 e2 e3 e4 k0 k1 k2 k3 k4 k15 h0 h1 h2 h3
  refine of23 hA knAu_ok ?_; rintro e w6 d rfl d6 k6
  go_wp2_with fail
  have hi := ints_of_block (heap_new w6 (.cells #[.int .i64 1, .int .i64 0] 3)) [1, 0] rfl (by simp [InI64]) (n := 2) (c := 2) rfl (Nat.le_refl _) (by decide)
  have ka : Same w6 (w6.alloc (.cells #[.int .i64 1, .int .i64 0] 3)) := (Keeps.refl _ w6).alloc _
  refine trackTurn (d6.same ka) hi rfl (by decide) ?_; rintro e w7 d7 rfl dd7 k7
  have HK7 := hide (HK.out.tr (k6.tr (ka.tr k7)))
  have D7 := hide dd7
  clear hi ka k6 d6 k7 dd7 hA
  go_wp2_with fail
  refine dfaStep D7.out 0 2 ?_; rintro e w8 rfl k8
  rw [show stepA (turnAu knAu [(1 : Int), 0].length (tb ([(1 : Int), 0].map Int.toNat))) 0 2 = 1 by decide]
  have D8 := hide (D7.out.same k8)
  have HK8 := hide (HK7.out.tr k8)
  clear k8
  go_wp2_with fail
  refine dfaStep D8.out 0 1 ?_; rintro e w9 rfl k9
  rw [show stepA (turnAu knAu [(1 : Int), 0].length (tb ([(1 : Int), 0].map Int.toNat))) 0 1 = 0 by decide]
  go_wp2_with fail
  exact HR.out _ _ rfl (HK8.out.tr k9)

end Go.Proofs.Ytameihkcajceeaa
