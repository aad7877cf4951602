/- The walks of sibyllaw27.may, of; a known automaton. -/
import Derived.Test.YtbmpnfibebiaeaaPkB
namespace Go.Proofs.Ytbmpnfibebiaeaa
open Go.RowKit

attribute [local irreducible] wpQuiet wpPlan wpPlanZ wpUp

variable {R : Ending → World → Prop} {w : World} {A : Au}


set_option maxHeartbeats 1000000 in
theorem may27 {v : Value} (hv : AutoAt w v A) (hR : ∀ e w', e = .returned (.bool (mayB A)) → Same w w' → R e w') :
    Calls Try.prog 7 #[v] w R := by
  have HR := hide hR
  clear hR
  have HV := hide hv
  obtain ⟨va, vn, rfl, hacc, hnext, hT⟩ := hv
  obtain ⟨aa, ac, rfl, hc1, hc2, _⟩ := hacc.open
  obtain ⟨na, nc, rfl, hd1, hd2, _⟩ := hnext.open
  unfold maxLen at hc2 hd2
  have hk : Same w (w.alloc (.cells #[.int .i64 A.T, .slice aa A.acc.length ac, .slice na A.next.length nc] 25)) := (Keeps.refl _ w).alloc _
  have hbox := heap_new w (.cells #[.int .i64 A.T, .slice aa A.acc.length ac, .slice na A.next.length nc] 25)
  have c0 := cell_at hbox 0
  have c1 := cell_at hbox 1
  have c2 := cell_at hbox 2
  simp only [List.getElem?_toArray, List.getElem?_cons_zero, List.getElem?_cons_succ] at c0 c1 c2
  clear hacc hnext hT hbox
  by_cases h1 : A.acc.length ≤ 40
  · by_cases h2 : A.next.length ≤ 40
    · have HM : Hid (mayB A = decide (AuOk A)) := hide (by unfold mayB; simp [h1, h2])
      go_enter Try.func7, Try.ntmps7
      go_wp2_with fail
      refine refIs (HV.out.same hk) ?_; rintro e w1 rfl k1
      rw [← HM.out]
      go_wp2_with fail
      exact HR.out _ _ rfl (hk.tr k1)
    · have HM : Hid (mayB A = false) := hide (by unfold mayB; simp [h2])
      go_enter Try.func7, Try.ntmps7
      go_wp2_with fail
      exact HR.out _ _ (ret_bool HM.out.symm) hk
  · have HM : Hid (mayB A = false) := hide (by unfold mayB; simp [h1])
    go_enter Try.func7, Try.ntmps7
    go_wp2_with fail
    exact HR.out _ _ (ret_bool HM.out.symm) hk

theorem of27 {v : Value} (hv : AutoAt w v A) (hok : AuOk A) (hR : ∀ e w' d, e = .returned (.pointer (some ⟨d, 0, none⟩)) → DFAAt w' w.heap.size d A → Same w w' → R e w') :
    Calls Try.prog 9 #[v] w R := by
  have HR := hide hR
  clear hR
  have HV := hide hv
  obtain ⟨va, vn, rfl, hacc, hnext, hT⟩ := hv
  obtain ⟨aa, ac, rfl, _⟩ := hacc.open
  obtain ⟨na, nc, rfl, _⟩ := hnext.open
  have hk : Same w (w.alloc (.cells #[.int .i64 A.T, .slice aa A.acc.length ac, .slice na A.next.length nc] 25)) := (Keeps.refl _ w).alloc _
  clear hacc hnext hT
  go_enter Try.func9, Try.ntmps9
  go_wp2_with fail
  refine autoFrom (HV.out.same hk) hok ?_; rintro e w1 d rfl d1 k1
  go_wp2_with fail
  exact HR.out _ _ d rfl (d1.below hk.size) (hk.tr k1)

theorem of27Not {v : Value} (hv : AutoAt w v A) (hno : ¬ AuOk A) (hR : ∀ e w', e = .returned (.pointer none) → Same w w' → R e w') :
    Calls Try.prog 9 #[v] w R := by
  have HR := hide hR
  clear hR
  have HV := hide hv
  obtain ⟨va, vn, rfl, hacc, hnext, hT⟩ := hv
  obtain ⟨aa, ac, rfl, _⟩ := hacc.open
  obtain ⟨na, nc, rfl, _⟩ := hnext.open
  have hk : Same w (w.alloc (.cells #[.int .i64 A.T, .slice aa A.acc.length ac, .slice na A.next.length nc] 25)) := (Keeps.refl _ w).alloc _
  clear hacc hnext hT
  go_enter Try.func9, Try.ntmps9
  go_wp2_with fail
  refine autoFromNot (HV.out.same hk) hno ?_; rintro e w1 rfl k1
  go_wp2_with fail
  exact HR.out _ _ rfl (hk.tr k1)


/-- A known automaton of three states. -/
def threeC : Au := ⟨1, [false, true, false], [[0, 1], [1, 2], [2, 2]]⟩
theorem threeC_ok : AuOk threeC := by decide

theorem three_at (w : World) : ∀ w5, w5 = (((((w.alloc (.cells #[.bool false, .bool true, .bool false] 4)).alloc (.cells #[.int .i64 0, .int .i64 1] 3)).alloc (.cells #[.int .i64 1, .int .i64 2] 3)).alloc (.cells #[.int .i64 2, .int .i64 2] 3)).alloc (.cells #[.slice (some ⟨w.heap.size + 1, 0, none⟩) 2 2, .slice (some ⟨w.heap.size + 1 + 1, 0, none⟩) 2 2, .slice (some ⟨w.heap.size + 1 + 1 + 1, 0, none⟩) 2 2] 37)) →
    AutoAt w5 (.agg #[.int .i64 1, .slice (some ⟨w.heap.size, 0, none⟩) 3 3, .slice (some ⟨w.heap.size + 1 + 1 + 1 + 1, 0, none⟩) 3 3]) threeC ∧ Same w w5 := by
  rintro w5 rfl
  have g0 := heap_new w (.cells #[.bool false, .bool true, .bool false] 4)
  have e0 : (w.alloc (.cells #[.bool false, .bool true, .bool false] 4)).heap.size = w.heap.size + 1 := by simp
  have k0 : Same w (w.alloc (.cells #[.bool false, .bool true, .bool false] 4)) := (Keeps.refl _ w).alloc _
  generalize w.alloc (.cells #[.bool false, .bool true, .bool false] 4) = w1 at g0 e0 k0 ⊢
  have g1 := heap_new w1 (.cells #[.int .i64 0, .int .i64 1] 3)
  rw [e0] at g1
  have e1 : (w1.alloc (.cells #[.int .i64 0, .int .i64 1] 3)).heap.size = w.heap.size + 1 + 1 := by simp [e0]
  have k1 : Same w1 (w1.alloc (.cells #[.int .i64 0, .int .i64 1] 3)) := (Keeps.refl _ w1).alloc _
  generalize w1.alloc (.cells #[.int .i64 0, .int .i64 1] 3) = w2 at g1 e1 k1 ⊢
  have g2 := heap_new w2 (.cells #[.int .i64 1, .int .i64 2] 3)
  rw [e1] at g2
  have e2 : (w2.alloc (.cells #[.int .i64 1, .int .i64 2] 3)).heap.size = w.heap.size + 1 + 1 + 1 := by simp [e1]
  have k2 : Same w2 (w2.alloc (.cells #[.int .i64 1, .int .i64 2] 3)) := (Keeps.refl _ w2).alloc _
  generalize w2.alloc (.cells #[.int .i64 1, .int .i64 2] 3) = w3 at g2 e2 k2 ⊢
  have g3 := heap_new w3 (.cells #[.int .i64 2, .int .i64 2] 3)
  rw [e2] at g3
  have e3 : (w3.alloc (.cells #[.int .i64 2, .int .i64 2] 3)).heap.size = w.heap.size + 1 + 1 + 1 + 1 := by simp [e2]
  have k3 : Same w3 (w3.alloc (.cells #[.int .i64 2, .int .i64 2] 3)) := (Keeps.refl _ w3).alloc _
  generalize w3.alloc (.cells #[.int .i64 2, .int .i64 2] 3) = w4 at g3 e3 k3 ⊢
  have g4 := heap_new w4 (.cells #[.slice (some ⟨w.heap.size + 1, 0, none⟩) 2 2, .slice (some ⟨w.heap.size + 1 + 1, 0, none⟩) 2 2, .slice (some ⟨w.heap.size + 1 + 1 + 1, 0, none⟩) 2 2] 37)
  rw [e3] at g4
  have k4 : Same w4 (w4.alloc (.cells #[.slice (some ⟨w.heap.size + 1, 0, none⟩) 2 2, .slice (some ⟨w.heap.size + 1 + 1, 0, none⟩) 2 2, .slice (some ⟨w.heap.size + 1 + 1 + 1, 0, none⟩) 2 2] 37)) := (Keeps.refl _ w4).alloc _
  generalize w4.alloc (.cells #[.slice (some ⟨w.heap.size + 1, 0, none⟩) 2 2, .slice (some ⟨w.heap.size + 1 + 1, 0, none⟩) 2 2, .slice (some ⟨w.heap.size + 1 + 1 + 1, 0, none⟩) 2 2] 37) = w5 at g4 k4 ⊢
  have h0 := (k1.tr (k2.tr (k3.tr k4))).at g0 trivial
  have h1 := (k2.tr (k3.tr k4)).at g1 trivial
  have h2 := (k3.tr k4).at g2 trivial
  have h3 := k4.at g3 trivial
  refine ⟨⟨_, _, rfl, ⟨_, 3, rfl, Nat.le_refl _, by decide, .inr ⟨_, 0, _, _, _, rfl, h0, fun i x hx => ?_⟩⟩, ⟨[.slice (some ⟨w.heap.size + 1, 0, none⟩) 2 2, .slice (some ⟨w.heap.size + 1 + 1, 0, none⟩) 2 2, .slice (some ⟨w.heap.size + 1 + 1 + 1, 0, none⟩) 2 2], ⟨_, 3, rfl, Nat.le_refl _, by decide, .inr ⟨_, 0, _, _, _, rfl, g4, fun i x hx => ?_⟩⟩, rfl, fun i u l hu hl => ?_⟩, by simp [threeC, InI64]⟩, k0.tr (k1.tr (k2.tr (k3.tr k4)))⟩
  · simpa [threeC] using hx
  · simpa using hx
  · match i with
    | 0 =>
      simp [threeC] at hu hl; subst hu; subst hl
      exact ints_of_block h1 [0, 1] rfl (by simp [InI64]) rfl (Nat.le_refl _) (by decide)
    | 1 =>
      simp [threeC] at hu hl; subst hu; subst hl
      exact ints_of_block h2 [1, 2] rfl (by simp [InI64]) rfl (Nat.le_refl _) (by decide)
    | 2 =>
      simp [threeC] at hu hl; subst hu; subst hl
      exact ints_of_block h3 [2, 2] rfl (by simp [InI64]) rfl (Nat.le_refl _) (by decide)
    | n + 3 => simp at hu

end Go.Proofs.Ytbmpnfibebiaeaa
