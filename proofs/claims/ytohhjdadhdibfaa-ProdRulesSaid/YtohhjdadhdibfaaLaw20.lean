/- The walks of sibyllaw20.may, of, known. -/
import Derived.Test.YtohhjdadhdibfaaProd2
import Derived.Test.YtohhjdadhdibfaaProdNot
import Derived.Test.YtohhjdadhdibfaaPkB
namespace Go.Proofs.Ytohhjdadhdibfaa
open Go.RowKit

attribute [local irreducible] wpQuiet wpPlan wpPlanZ wpUp

variable {R : Ending → World → Prop} {w : World} {A : Au}


set_option maxHeartbeats 1000000 in
theorem may20 {v : Value} (hv : AutoAt w v A) (hR : ∀ e w', e = .returned (.bool (mayB A)) → Same w w' → R e w') :
    Calls Try.prog 15 #[v] w R := by
  have HR := hide hR
  clear hR
  have HV := hide hv
  obtain ⟨va, vn, rfl, hacc, hnext, hT⟩ := hv
  obtain ⟨aa, ac, rfl, hc1, hc2, _⟩ := hacc.open
  obtain ⟨na, nc, rfl, hd1, hd2, _⟩ := hnext.open
  unfold maxLen at hc2 hd2
  have hk : Same w (w.alloc (.cells #[.int .i64 A.T, .slice aa A.acc.length ac, .slice na A.next.length nc] 25)) := (Keeps.refl _ w).alloc _
  have hbox := heap_new w (.cells #[.int .i64 A.T, .slice aa A.acc.length ac, .slice na A.next.length nc] 25)
  have c0 := cell_at hbox 0
  have c1 := cell_at hbox 1
  have c2 := cell_at hbox 2
  simp only [List.getElem?_toArray, List.getElem?_cons_zero, List.getElem?_cons_succ] at c0 c1 c2
  clear hacc hnext hT hbox
  by_cases h1 : A.acc.length ≤ 40
  · by_cases h2 : A.next.length ≤ 40
    · have HM : Hid (mayB A = decide (AuOk A)) := hide (by unfold mayB; simp [h1, h2])
      go_enter Try.func15, Try.ntmps15
      go_wp2_with fail
      refine refIs (HV.out.same hk) ?_; rintro e w1 rfl k1
      rw [← HM.out]
      go_wp2_with fail
      exact HR.out _ _ rfl (hk.tr k1)
    · have HM : Hid (mayB A = false) := hide (by unfold mayB; simp [h2])
      go_enter Try.func15, Try.ntmps15
      go_wp2_with fail
      exact HR.out _ _ (ret_bool HM.out.symm) hk
  · have HM : Hid (mayB A = false) := hide (by unfold mayB; simp [h1])
    go_enter Try.func15, Try.ntmps15
    go_wp2_with fail
    exact HR.out _ _ (ret_bool HM.out.symm) hk

theorem of20 {v : Value} (hv : AutoAt w v A) (hok : AuOk A) (hR : ∀ e w' d, e = .returned (.pointer (some ⟨d, 0, none⟩)) → DFAAt w' w.heap.size d A → Same w w' → R e w') :
    Calls Try.prog 17 #[v] w R := by
  have HR := hide hR
  clear hR
  have HV := hide hv
  obtain ⟨va, vn, rfl, hacc, hnext, hT⟩ := hv
  obtain ⟨aa, ac, rfl, _⟩ := hacc.open
  obtain ⟨na, nc, rfl, _⟩ := hnext.open
  have hk : Same w (w.alloc (.cells #[.int .i64 A.T, .slice aa A.acc.length ac, .slice na A.next.length nc] 25)) := (Keeps.refl _ w).alloc _
  clear hacc hnext hT
  go_enter Try.func17, Try.ntmps17
  go_wp2_with fail
  refine autoFrom (HV.out.same hk) hok ?_; rintro e w1 d rfl d1 k1
  go_wp2_with fail
  exact HR.out _ _ d rfl (d1.below hk.size) (hk.tr k1)

theorem of20Not {v : Value} (hv : AutoAt w v A) (hno : ¬ AuOk A) (hR : ∀ e w', e = .returned (.pointer none) → Same w w' → R e w') :
    Calls Try.prog 17 #[v] w R := by
  have HR := hide hR
  clear hR
  have HV := hide hv
  obtain ⟨va, vn, rfl, hacc, hnext, hT⟩ := hv
  obtain ⟨aa, ac, rfl, _⟩ := hacc.open
  obtain ⟨na, nc, rfl, _⟩ := hnext.open
  have hk : Same w (w.alloc (.cells #[.int .i64 A.T, .slice aa A.acc.length ac, .slice na A.next.length nc] 25)) := (Keeps.refl _ w).alloc _
  clear hacc hnext hT
  go_enter Try.func17, Try.ntmps17
  go_wp2_with fail
  refine autoFromNot (HV.out.same hk) hno ?_; rintro e w1 rfl k1
  go_wp2_with fail
  exact HR.out _ _ rfl (hk.tr k1)


/-- One state, that accepts or not. -/
def oneB (b : Bool) : Au := ⟨0, [b], [[0]]⟩
theorem oneB_ok (b : Bool) : AuOk (oneB b) := by cases b <;> decide

/-- An automaton of one state, laid in memory. -/
theorem oneB_at (w : World) (b : Bool) : AutoAt (((w.alloc (.cells #[.bool b] 4)).alloc (.cells #[.int .i64 0] 3)).alloc (.cells #[.slice (some ⟨w.heap.size + 1, 0, none⟩) 1 1] 40)) (.agg #[.int .i64 0, .slice (some ⟨w.heap.size, 0, none⟩) 1 1, .slice (some ⟨w.heap.size + 1 + 1, 0, none⟩) 1 1]) (oneB b) ∧
    Same w (((w.alloc (.cells #[.bool b] 4)).alloc (.cells #[.int .i64 0] 3)).alloc (.cells #[.slice (some ⟨w.heap.size + 1, 0, none⟩) 1 1] 40)) := by
  have g0 := heap_new w (.cells #[.bool b] 4)
  have e0 : (w.alloc (.cells #[.bool b] 4)).heap.size = w.heap.size + 1 := by simp
  have k0 : Same w (w.alloc (.cells #[.bool b] 4)) := (Keeps.refl _ w).alloc _
  generalize w.alloc (.cells #[.bool b] 4) = w1 at g0 e0 k0 ⊢
  have g1 := heap_new w1 (.cells #[.int .i64 0] 3)
  rw [e0] at g1
  have e1 : (w1.alloc (.cells #[.int .i64 0] 3)).heap.size = w.heap.size + 1 + 1 := by simp [e0]
  have k1 : Same w1 (w1.alloc (.cells #[.int .i64 0] 3)) := (Keeps.refl _ w1).alloc _
  generalize w1.alloc (.cells #[.int .i64 0] 3) = w2 at g1 e1 k1 ⊢
  have g2 := heap_new w2 (.cells #[.slice (some ⟨w.heap.size + 1, 0, none⟩) 1 1] 40)
  rw [e1] at g2
  have k2 : Same w2 (w2.alloc (.cells #[.slice (some ⟨w.heap.size + 1, 0, none⟩) 1 1] 40)) := (Keeps.refl _ w2).alloc _
  generalize w2.alloc (.cells #[.slice (some ⟨w.heap.size + 1, 0, none⟩) 1 1] 40) = w3 at g2 k2 ⊢
  have h0 := (k1.tr k2).at g0 trivial
  have h1 := k2.at g1 trivial
  refine ⟨⟨_, _, rfl, ⟨_, 1, rfl, Nat.le_refl _, by decide, .inr ⟨_, 0, _, _, _, rfl, h0, fun i x hx => ?_⟩⟩, ⟨[.slice (some ⟨w.heap.size + 1, 0, none⟩) 1 1], ⟨_, 1, rfl, Nat.le_refl _, by decide, .inr ⟨_, 0, _, _, _, rfl, g2, fun i x hx => ?_⟩⟩, rfl, fun i u l hu hl => ?_⟩, by simp [oneB, InI64]⟩, k0.tr (k1.tr k2)⟩
  · simpa [oneB] using hx
  · simpa using hx
  · match i with
    | 0 =>
      simp [oneB] at hu hl; subst hu; subst hl
      exact ints_of_block h1 [0] rfl (by simp [InI64]) rfl (Nat.le_refl _) (by decide)
    | n + 1 => simp at hu

set_option maxRecDepth 10000 in
set_option maxHeartbeats 1000000 in
theorem known20 (hR : ∀ e w', e = .returned (.bool true) → Keeps (· < w.heap.size) w w' → R e w') : Calls Try.prog 21 #[] w R := by
  have HR := hide hR
  clear hR
  go_enter Try.func21, Try.ntmps21
  go_wp2_with fail
  have hA := oneB_at w true
  generalize ((w.alloc (.cells #[.bool true] 4)).alloc (.cells #[.int .i64 0] 3)).alloc (.cells #[.slice (some ⟨w.heap.size + 1, 0, none⟩) 1 1] 40) = wa at hA ⊢
  have HKA := hide hA.2
  refine of20 hA.1 (oneB_ok true) ?_; rintro e w1 d1 rfl dd1 k1
  have HK1 := hide (HKA.out.tr k1)
  clear hA k1
  go_wp2_with fail
  have hB := oneB_at w1 false
  generalize ((w1.alloc (.cells #[.bool false] 4)).alloc (.cells #[.int .i64 0] 3)).alloc (.cells #[.slice (some ⟨w1.heap.size + 1, 0, none⟩) 1 1] 40) = wb at hB ⊢
  have HKB := hide hB.2
  refine of20 hB.1 (oneB_ok false) ?_; rintro e w2 d2 rfl dd2 k2
  have HD1 := hide (dd1.same (HKB.out.tr k2))
  have HD2 := hide dd2
  have HK2 := hide (HK1.out.tr (HKB.out.tr k2))
  clear hB k2 dd1 dd2
  go_wp2_with fail
  refine meterNew 9 ?_; rintro e w3 rfl m3 k3
  rw [show max (9 : Int) 0 = 9 by decide] at m3
  go_wp2_with fail
  refine prodBoth (w0 := w2) HD1.out HD2.out k3 rfl 8 (by decide) m3 (Nat.le_refl _) (by decide) (by decide) ?_ (fun h => absurd h (by decide))
  rintro e w4 d4 rfl dd4 k4
  have HD4 := hide dd4
  have HK4 := hide k4
  clear dd4 k4 m3 k3
  go_wp2_with fail
  refine meterNew 9 ?_; rintro e w5 rfl m5 k5
  rw [show max (9 : Int) 0 = 9 by decide] at m5
  go_wp2_with fail
  refine prodBoth (w0 := w4) (HD1.out.keep HK4.out fun b _ hb => hb) (HD2.out.keep HK4.out fun b _ hb => hb) k5 rfl 14 (by decide) m5 (Nat.le_refl _) (by decide) (by decide) ?_ (fun h => absurd h (by decide))
  rintro e w6 d6 rfl dd6 k6
  have HD6 := hide dd6
  have HK6 := hide k6
  clear dd6 k6 m5 k5
  go_wp2_with fail
  refine dfaAccepts (HD4.out.keep HK6.out fun b _ hb => hb) 0 ?_; rintro e rfl
  rw [show accA (prodAu (oneB true) (oneB false) 8) 0 = false by decide +kernel]
  go_wp2_with fail
  refine dfaAccepts HD6.out 0 ?_; rintro e rfl
  rw [show accA (prodAu (oneB true) (oneB false) 14) 0 = true by decide +kernel]
  go_wp2_with fail
  refine HR.out _ _ rfl ((HK2.out.mono fun _ _ _ => trivial).trans (HK4.out.trans HK6.out fun z hz hzz => ⟨hzz, ?_⟩) fun z hz hzz => ⟨hzz, ?_⟩)
  · exact Nat.lt_of_lt_of_le hz HK4.out.size
  · exact Nat.lt_of_lt_of_le hz HK2.out.size

end Go.Proofs.Ytohhjdadhdibfaa
