/- The walks of sibyllaw19.may, of, one, known, sibylref19.Run. -/
import Derived.Handy
import Derived.Test.YtgpbjjnfccalbaaFrom
import Derived.Test.YtgpbjjnfccalbaaDfa3
namespace Go.Proofs.Ytgpbjjnfccalbaa
open Go.RowKit

variable {R : Ending → World → Prop} {w : World} {A : Au}

/-- A struct in a cell row of its own. -/
theorem AutoAt.box {v : Value} (h : AutoAt w v A) : ∃ va vn, v = .agg #[.int .i64 A.T, va, vn] ∧ va.oneCell' = true ∧ vn.oneCell' = true := by
  obtain ⟨va, vn, e, h1, h2, h3⟩ := h
  obtain ⟨a, c, e1, _⟩ := h1.open
  obtain ⟨a2, c2, e2, _⟩ := h2.open
  exact ⟨va, vn, e, by rw [e1]; rfl, by rw [e2]; rfl⟩

def mayB (A : Au) : Bool := decide (A.acc.length ≤ 40 ∧ A.next.length ≤ 40 ∧ AuOk A)

set_option maxHeartbeats 1000000 in
theorem may19 {v : Value} (hv : AutoAt w v A) (hR : ∀ e w', e = .returned (.bool (mayB A)) → Same w w' → R e w') :
    Calls Try.prog 15 #[v] w R := by
  have HR := hide hR
  clear hR
  have HV := hide hv
  obtain ⟨va, vn, rfl, hacc, hnext, hT⟩ := hv
  obtain ⟨aa, ac, rfl, hc1, hc2, _⟩ := hacc.open
  obtain ⟨na, nc, rfl, hd1, hd2, _⟩ := hnext.open
  unfold maxLen at hc2 hd2
  have hk : Same w (w.alloc (.cells #[.int .i64 A.T, .slice aa A.acc.length ac, .slice na A.next.length nc] 25)) := (Keeps.refl _ w).alloc _
  have hbox := heap_new w (.cells #[.int .i64 A.T, .slice aa A.acc.length ac, .slice na A.next.length nc] 25)
  have c0 := cell_at hbox 0
  have c1 := cell_at hbox 1
  have c2 := cell_at hbox 2
  simp only [List.getElem?_toArray, List.getElem?_cons_zero, List.getElem?_cons_succ] at c0 c1 c2
  clear hacc hnext hT hbox
  by_cases h1 : A.acc.length ≤ 40
  · by_cases h2 : A.next.length ≤ 40
    · have HM : Hid (mayB A = decide (AuOk A)) := hide (by unfold mayB; simp [h1, h2])
      go_enter Try.func15, Try.ntmps15
      go_wp2_with fail
      refine refIs (HV.out.same hk) ?_; rintro e w1 rfl k1
      rw [← HM.out]
      go_wp2_with fail
      exact HR.out _ _ rfl (hk.tr k1)
    · have HM : Hid (mayB A = false) := hide (by unfold mayB; simp [h2])
      go_enter Try.func15, Try.ntmps15
      go_wp2_with fail
      exact HR.out _ _ (ret_bool HM.out.symm) hk
  · have HM : Hid (mayB A = false) := hide (by unfold mayB; simp [h1])
    go_enter Try.func15, Try.ntmps15
    go_wp2_with fail
    exact HR.out _ _ (ret_bool HM.out.symm) hk

theorem of19 {v : Value} (hv : AutoAt w v A) (hok : AuOk A) (hR : ∀ e w' d, e = .returned (.pointer (some ⟨d, 0, none⟩)) → DFAAt w' w.heap.size d A → Same w w' → R e w') :
    Calls Try.prog 16 #[v] w R := by
  have HR := hide hR
  clear hR
  have HV := hide hv
  obtain ⟨va, vn, rfl, hacc, hnext, hT⟩ := hv
  obtain ⟨aa, ac, rfl, _⟩ := hacc.open
  obtain ⟨na, nc, rfl, _⟩ := hnext.open
  have hk : Same w (w.alloc (.cells #[.int .i64 A.T, .slice aa A.acc.length ac, .slice na A.next.length nc] 25)) := (Keeps.refl _ w).alloc _
  clear hacc hnext hT
  go_enter Try.func16, Try.ntmps16
  go_wp2_with fail
  refine autoFrom (HV.out.same hk) hok ?_; rintro e w1 d rfl d1 k1
  go_wp2_with fail
  exact HR.out _ _ d rfl (d1.below hk.size) (hk.tr k1)

theorem of19Not {v : Value} (hv : AutoAt w v A) (hno : ¬ AuOk A) (hR : ∀ e w', e = .returned (.pointer none) → Same w w' → R e w') :
    Calls Try.prog 16 #[v] w R := by
  have HR := hide hR
  clear hR
  have HV := hide hv
  obtain ⟨va, vn, rfl, hacc, hnext, hT⟩ := hv
  obtain ⟨aa, ac, rfl, _⟩ := hacc.open
  obtain ⟨na, nc, rfl, _⟩ := hnext.open
  have hk : Same w (w.alloc (.cells #[.int .i64 A.T, .slice aa A.acc.length ac, .slice na A.next.length nc] 25)) := (Keeps.refl _ w).alloc _
  clear hacc hnext hT
  go_enter Try.func16, Try.ntmps16
  go_wp2_with fail
  refine autoFromNot (HV.out.same hk) hno ?_; rintro e w1 rfl k1
  go_wp2_with fail
  exact HR.out _ _ rfl (hk.tr k1)

/-- No automaton at all. -/
def noAu : Au := ⟨0, [], []⟩
theorem noAu_at (w : World) : AutoAt w (.agg #[.int .i64 0, .slice none 0 0, .slice none 0 0]) noAu :=
  ⟨_, _, rfl, ⟨none, 0, rfl, Nat.le_refl _, Nat.zero_le _, .inl rfl⟩, ⟨[], ⟨none, 0, rfl, Nat.le_refl _, Nat.zero_le _, .inl rfl⟩, rfl, by simp⟩, by simp [noAu, InI64]⟩
theorem noAu_not : ¬ AuOk noAu := fun h => by have := h.1.2.2.1; simp [noAu] at this

/-- One state, that accepts. -/
def oneAu : Au := ⟨0, [true], [[0]]⟩
theorem oneAu_ok : AuOk oneAu := by decide

theorem one19 (hR : ∀ e w' v, e = .returned v → AutoAt w' v oneAu → Same w w' → R e w') : Calls Try.prog 57 #[] w R := by
  have HR := hide hR
  clear hR
  go_enter Try.func57, Try.ntmps57
  go_wp2_with fail
  have e1 : (w.alloc (.cells #[.int .i64 0, .slice (some ⟨w.heap.size + 1, 0, none⟩) 1 1, .slice (some ⟨w.heap.size + 1 + 1 + 1, 0, none⟩) 1 1] 25)).heap.size = w.heap.size + 1 := by simp
  have hb := heap_new w (.cells #[.int .i64 0, .slice (some ⟨w.heap.size + 1, 0, none⟩) 1 1, .slice (some ⟨w.heap.size + 1 + 1 + 1, 0, none⟩) 1 1] 25)
  have hk1 : Same w (w.alloc (.cells #[.int .i64 0, .slice (some ⟨w.heap.size + 1, 0, none⟩) 1 1, .slice (some ⟨w.heap.size + 1 + 1 + 1, 0, none⟩) 1 1] 25)) := (Keeps.refl _ w).alloc _
  generalize w.alloc (.cells #[.int .i64 0, .slice (some ⟨w.heap.size + 1, 0, none⟩) 1 1, .slice (some ⟨w.heap.size + 1 + 1 + 1, 0, none⟩) 1 1] 25) = w1 at e1 hb hk1 ⊢
  have h1 := heap_new w1 (.cells #[.bool true] 4)
  rw [e1] at h1
  have e2 : (w1.alloc (.cells #[.bool true] 4)).heap.size = w.heap.size + 1 + 1 := by simp [e1]
  have k2 : Same w1 (w1.alloc (.cells #[.bool true] 4)) := (Keeps.refl _ w1).alloc _
  generalize w1.alloc (.cells #[.bool true] 4) = w2 at h1 e2 k2 ⊢
  have h2 := heap_new w2 (.cells #[.int .i64 0] 3)
  rw [e2] at h2
  have e3 : (w2.alloc (.cells #[.int .i64 0] 3)).heap.size = w.heap.size + 1 + 1 + 1 := by simp [e2]
  have k3 : Same w2 (w2.alloc (.cells #[.int .i64 0] 3)) := (Keeps.refl _ w2).alloc _
  generalize w2.alloc (.cells #[.int .i64 0] 3) = w3 at h2 e3 k3 ⊢
  have h3 := heap_new w3 (.cells #[.slice (some ⟨w.heap.size + 1 + 1, 0, none⟩) 1 1] 26)
  rw [e3] at h3
  have k4 : Same w3 (w3.alloc (.cells #[.slice (some ⟨w.heap.size + 1 + 1, 0, none⟩) 1 1] 26)) := (Keeps.refl _ w3).alloc _
  generalize w3.alloc (.cells #[.slice (some ⟨w.heap.size + 1 + 1, 0, none⟩) 1 1] 26) = w4 at h3 k4 ⊢
  have hb4 := (k2.tr (k3.tr k4)).at hb trivial
  have h14 := (k3.tr k4).at h1 trivial
  have h24 := k4.at h2 trivial
  have hat : AutoAt w4 (.agg #[.int .i64 0, .slice (some ⟨w.heap.size + 1, 0, none⟩) 1 1, .slice (some ⟨w.heap.size + 1 + 1 + 1, 0, none⟩) 1 1]) oneAu := by
    refine ⟨_, _, rfl, ⟨_, 1, rfl, Nat.le_refl _, by decide, .inr ⟨_, 0, _, _, _, rfl, h14, fun i x hx => ?_⟩⟩, ⟨[.slice (some ⟨w.heap.size + 1 + 1, 0, none⟩) 1 1], ⟨_, 1, rfl, Nat.le_refl _, by decide, .inr ⟨_, 0, _, _, _, rfl, h3, fun i x hx => ?_⟩⟩, rfl, fun i u l hu hl => ?_⟩, by simp [oneAu, InI64]⟩
    · simpa [oneAu] using hx
    · simpa using hx
    · match i with
      | 0 =>
        simp [oneAu] at hu hl; subst hu; subst hl
        exact ints_of_block h24 [0] rfl (by simp [InI64]) rfl (Nat.le_refl _) (by decide)
      | n + 1 => simp at hu
  have c0 := cell_at hb4 0
  have c1 := cell_at hb4 1
  have c2 := cell_at hb4 2
  simp only [List.getElem?_toArray, List.getElem?_cons_zero, List.getElem?_cons_succ] at c0 c1 c2
  have HF := hide (And.intro hat (hk1.tr (k2.tr (k3.tr k4))))
  clear hb hk1 h1 h2 h3 k2 k3 k4 hb4 h14 h24 hat e1 e2 e3
  refine bodyPost_ret (v := .agg #[.int .i64 0, .slice (some ⟨w.heap.size + 1, 0, none⟩) 1 1, .slice (some ⟨w.heap.size + 1 + 1 + 1, 0, none⟩) 1 1]) (by simp [results, Try.results57, go_sem, c0, c1, c2]) rfl ?_
  exact HR.out _ _ _ rfl HF.out.1 HF.out.2

set_option maxHeartbeats 1000000 in
theorem known19 (hR : ∀ e w', e = .returned (.bool true) → Same w w' → R e w') : Calls Try.prog 19 #[] w R := by
  have HR := hide hR
  clear hR
  go_enter Try.func19, Try.ntmps19
  go_wp2_with fail
  refine one19 ?_; rintro e w1 v rfl a1 k1
  go_wp2_with fail
  refine of19 a1 oneAu_ok ?_; rintro e w2 d rfl d2 k2
  go_wp2_with fail
  refine of19Not (noAu_at w2) noAu_not ?_; rintro e w3 rfl k3
  have D3 := hide (d2.same k3)
  have HK := hide (k1.tr (k2.tr k3))
  clear a1 k1 d2 k2 k3
  go_wp2_with fail
  have hi := ints_of_block (heap_new w3 (.cells #[.int .i64 0, .int .i64 0] 3)) [0, 0] rfl (by simp [InI64]) (n := 2) (c := 2) rfl (Nat.le_refl _) (by decide)
  have ka : Same w3 (w3.alloc (.cells #[.int .i64 0, .int .i64 0] 3)) := (Keeps.refl _ w3).alloc _
  refine dfaRun (D3.out.same ka) hi ?_; rintro e w4 rfl k4
  rw [show runA oneAu [0, 0] = 0 by decide, show accA oneAu 0 = true by decide]
  have D4 := hide (D3.out.same (ka.tr k4))
  have HK4 := hide (HK.out.tr (ka.tr k4))
  clear hi ka k4
  go_wp2_with fail
  refine dfaStates D4.out ?_; rintro e rfl
  go_wp2_with fail
  refine dfaTracks D4.out ?_; rintro e rfl
  go_wp2_with fail
  exact HR.out _ _ rfl HK4.out

end Go.Proofs.Ytgpbjjnfccalbaa
