/- The walks of sibyllaw24.may, of, known, MinimWords. -/
import Derived.Test.YtlaipnobfmfgaaaMin5
import Derived.Test.YtlaipnobfmfgaaaLookLaw
namespace Go.Proofs.Ytlaipnobfmfgaaa
open Go.RowKit

attribute [local irreducible] wpQuiet wpPlan wpPlanZ wpUp

variable {R : Ending → World → Prop} {w : World} {A : Au}

set_option maxHeartbeats 1000000 in
theorem may24 {v : Value} (hv : AutoAt w v A) (hR : ∀ e w', e = .returned (.bool (mayB A)) → Same w w' → R e w') :
    Calls Try.prog 16 #[v] w R := by
  have HR := hide hR
  clear hR
  have HV := hide hv
  obtain ⟨va, vn, rfl, hacc, hnext, hT⟩ := hv
  obtain ⟨aa, ac, rfl, hc1, hc2, _⟩ := hacc.open
  obtain ⟨na, nc, rfl, hd1, hd2, _⟩ := hnext.open
  unfold maxLen at hc2 hd2
  have hk : Same w (w.alloc (.cells #[.int .i64 A.T, .slice aa A.acc.length ac, .slice na A.next.length nc] 25)) := (Keeps.refl _ w).alloc _
  have hbox := heap_new w (.cells #[.int .i64 A.T, .slice aa A.acc.length ac, .slice na A.next.length nc] 25)
  have c0 := cell_at hbox 0
  have c1 := cell_at hbox 1
  have c2 := cell_at hbox 2
  simp only [List.getElem?_toArray, List.getElem?_cons_zero, List.getElem?_cons_succ] at c0 c1 c2
  clear hacc hnext hT hbox
  by_cases h1 : A.acc.length ≤ 40
  · by_cases h2 : A.next.length ≤ 40
    · have HM : Hid (mayB A = decide (AuOk A)) := hide (by unfold mayB; simp [h1, h2])
      go_enter Try.func16, Try.ntmps16
      go_wp2_with fail
      refine refIs (HV.out.same hk) ?_; rintro e w1 rfl k1
      rw [← HM.out]
      go_wp2_with fail
      exact HR.out _ _ rfl (hk.tr k1)
    · have HM : Hid (mayB A = false) := hide (by unfold mayB; simp [h2])
      go_enter Try.func16, Try.ntmps16
      go_wp2_with fail
      exact HR.out _ _ (ret_bool HM.out.symm) hk
  · have HM : Hid (mayB A = false) := hide (by unfold mayB; simp [h1])
    go_enter Try.func16, Try.ntmps16
    go_wp2_with fail
    exact HR.out _ _ (ret_bool HM.out.symm) hk

theorem of24 {v : Value} (hv : AutoAt w v A) (hok : AuOk A) (hR : ∀ e w' d, e = .returned (.pointer (some ⟨d, 0, none⟩)) → DFAAt w' w.heap.size d A → Same w w' → R e w') :
    Calls Try.prog 18 #[v] w R := by
  have HR := hide hR
  clear hR
  have HV := hide hv
  obtain ⟨va, vn, rfl, hacc, hnext, hT⟩ := hv
  obtain ⟨aa, ac, rfl, _⟩ := hacc.open
  obtain ⟨na, nc, rfl, _⟩ := hnext.open
  have hk : Same w (w.alloc (.cells #[.int .i64 A.T, .slice aa A.acc.length ac, .slice na A.next.length nc] 25)) := (Keeps.refl _ w).alloc _
  clear hacc hnext hT
  go_enter Try.func18, Try.ntmps18
  go_wp2_with fail
  refine autoFrom (HV.out.same hk) hok ?_; rintro e w1 d rfl d1 k1
  go_wp2_with fail
  exact HR.out _ _ d rfl (d1.below hk.size) (hk.tr k1)

/-- Two states that go to each other. -/
def twoAu : Au := ⟨0, [true, true], [[1], [0]]⟩
theorem twoAu_ok : AuOk twoAu := by decide
theorem twoAu_min : (minAu twoAu).acc.length = 1 := by decide +kernel

theorem twoAu_at (w : World) : AutoAt ((((w.alloc (.cells #[.bool true, .bool true] 4)).alloc (.cells #[.int .i64 1] 3)).alloc (.cells #[.int .i64 0] 3)).alloc (.cells #[.slice (some ⟨w.heap.size + 1, 0, none⟩) 1 1, .slice (some ⟨w.heap.size + 1 + 1, 0, none⟩) 1 1] 36)) (.agg #[.int .i64 0, .slice (some ⟨w.heap.size, 0, none⟩) 2 2, .slice (some ⟨w.heap.size + 1 + 1 + 1, 0, none⟩) 2 2]) twoAu ∧
    Same w ((((w.alloc (.cells #[.bool true, .bool true] 4)).alloc (.cells #[.int .i64 1] 3)).alloc (.cells #[.int .i64 0] 3)).alloc (.cells #[.slice (some ⟨w.heap.size + 1, 0, none⟩) 1 1, .slice (some ⟨w.heap.size + 1 + 1, 0, none⟩) 1 1] 36)) := by
  have g0 := heap_new w (.cells #[.bool true, .bool true] 4)
  have e0 : (w.alloc (.cells #[.bool true, .bool true] 4)).heap.size = w.heap.size + 1 := by simp
  have k0 : Same w (w.alloc (.cells #[.bool true, .bool true] 4)) := (Keeps.refl _ w).alloc _
  generalize w.alloc (.cells #[.bool true, .bool true] 4) = w1 at g0 e0 k0 ⊢
  have g1 := heap_new w1 (.cells #[.int .i64 1] 3)
  rw [e0] at g1
  have e1 : (w1.alloc (.cells #[.int .i64 1] 3)).heap.size = w.heap.size + 1 + 1 := by simp [e0]
  have k1 : Same w1 (w1.alloc (.cells #[.int .i64 1] 3)) := (Keeps.refl _ w1).alloc _
  generalize w1.alloc (.cells #[.int .i64 1] 3) = w2 at g1 e1 k1 ⊢
  have g2 := heap_new w2 (.cells #[.int .i64 0] 3)
  rw [e1] at g2
  have e2 : (w2.alloc (.cells #[.int .i64 0] 3)).heap.size = w.heap.size + 1 + 1 + 1 := by simp [e1]
  have k2 : Same w2 (w2.alloc (.cells #[.int .i64 0] 3)) := (Keeps.refl _ w2).alloc _
  generalize w2.alloc (.cells #[.int .i64 0] 3) = w3 at g2 e2 k2 ⊢
  have g3 := heap_new w3 (.cells #[.slice (some ⟨w.heap.size + 1, 0, none⟩) 1 1, .slice (some ⟨w.heap.size + 1 + 1, 0, none⟩) 1 1] 36)
  rw [e2] at g3
  have k3 : Same w3 (w3.alloc (.cells #[.slice (some ⟨w.heap.size + 1, 0, none⟩) 1 1, .slice (some ⟨w.heap.size + 1 + 1, 0, none⟩) 1 1] 36)) := (Keeps.refl _ w3).alloc _
  generalize w3.alloc (.cells #[.slice (some ⟨w.heap.size + 1, 0, none⟩) 1 1, .slice (some ⟨w.heap.size + 1 + 1, 0, none⟩) 1 1] 36) = w4 at g3 k3 ⊢
  have h0 := (k1.tr (k2.tr k3)).at g0 trivial
  have h1 := (k2.tr k3).at g1 trivial
  have h2 := k3.at g2 trivial
  refine ⟨⟨_, _, rfl, ⟨_, 2, rfl, Nat.le_refl _, by decide, .inr ⟨_, 0, _, _, _, rfl, h0, fun i x hx => ?_⟩⟩, ⟨[.slice (some ⟨w.heap.size + 1, 0, none⟩) 1 1, .slice (some ⟨w.heap.size + 1 + 1, 0, none⟩) 1 1], ⟨_, 2, rfl, Nat.le_refl _, by decide, .inr ⟨_, 0, _, _, _, rfl, g3, fun i x hx => ?_⟩⟩, rfl, fun i u l hu hl => ?_⟩, by simp [twoAu, InI64]⟩, k0.tr (k1.tr (k2.tr k3))⟩
  · simpa [twoAu] using hx
  · simpa using hx
  · match i with
    | 0 =>
      simp [twoAu] at hu hl; subst hu; subst hl
      exact ints_of_block h1 [1] rfl (by simp [InI64]) rfl (Nat.le_refl _) (by decide)
    | 1 =>
      simp [twoAu] at hu hl; subst hu; subst hl
      exact ints_of_block h2 [0] rfl (by simp [InI64]) rfl (Nat.le_refl _) (by decide)
    | n + 2 => simp at hu

theorem known24 (hR : ∀ e w', e = .returned (.bool true) → Same w w' → R e w') : Calls Try.prog 25 #[] w R := by
  have HR := hide hR
  clear hR
  obtain ⟨ha, hk⟩ := twoAu_at w
  have HA := hide ha
  have HK := hide hk
  clear ha hk
  go_enter Try.func25, Try.ntmps25
  go_wp2_with fail
  refine of24 HA.out twoAu_ok ?_; rintro e w1 d rfl d1 k1
  have HD := hide d1
  have HK1 := hide (HK.out.tr k1)
  clear d1 k1
  go_wp2_with fail
  refine minMin HD.out ?_; rintro e w2 d2 rfl dd2 k2
  have HD2 := hide dd2
  have HK2 := hide (HK1.out.tr k2)
  clear dd2 k2
  go_wp2_with fail
  refine dfaStates HD2.out ?_; rintro e rfl
  rw [twoAu_min]
  go_wp2_with fail
  exact HR.out _ _ rfl HK2.out

theorem word_in4 (A : Au) (l : List Int) : (∀ c ∈ l, 0 ≤ c ∧ c < ((2 ^ A.T.toNat : Nat) : Int)) ∨ runA A l = -1 := by
  induction l using snoc_ind with
  | h0 => exact .inl (by simp)
  | h1 l x ih =>
    have e1 : runA A (l ++ [x]) = stepA A (runA A l) x := by simp [runA, List.foldl_append]
    rcases ih with ih | ih
    · by_cases hx : 0 ≤ x ∧ x < ((2 ^ A.T.toNat : Nat) : Int)
      · left
        intro c hc
        rcases List.mem_append.1 hc with hc | hc
        · exact ih c hc
        · simp at hc; subst hc; exact hx
      · right
        rw [e1]
        unfold stepA
        rw [if_neg]
        rintro ⟨_, h1, h2⟩
        exact hx ⟨h1, by rw [Int.natCast_pow]; exact h2⟩
    · right
      rw [e1, ih]
      exact step_none A (by decide) x

/-- The least one accepts the same words. -/
theorem min_accepts (h : AuOk A) (l : List Int) : accA (minAu A) (runA (minAu A) l) = accA A (runA A l) := by
  have hm := min_ok h
  rcases word_in4 A l with hl | hl
  · rw [runA_run h l hl, runA_run hm l hl, accA_ac (runN_lt h _ h.1.2.2.1), accA_ac (runN_lt hm _ hm.1.2.2.1)]
    refine min_lang0 h (l.map Int.toNat) fun c hc => ?_
    obtain ⟨y, hy, rfl⟩ := List.mem_map.1 hc
    have h1 := hl y hy
    show y.toNat < 2 ^ A.T.toNat
    omega
  · rcases word_in4 (minAu A) l with hl2 | hl2
    · have hl3 : ∀ c ∈ l, 0 ≤ c ∧ c < ((2 ^ A.T.toNat : Nat) : Int) := hl2
      rw [runA_run h l hl3] at hl
      omega
    · rw [hl, hl2]; simp [accA, inA]

theorem min_le (h : AuOk A) : (minAu A).acc.length ≤ A.acc.length := by
  rw [min_len]
  exact minK_le h _

set_option maxRecDepth 10000 in
set_option maxHeartbeats 8000000 in
theorem minimWordsWalk (va : Value) (A : Au) (vl : Value) (l : List Int) (w : World) (hA : AutoAt w va A) (hl : IntsAt w vl l) :
    Calls Try.prog 4 #[va, vl] w fun e w' => e = .returned (.bool true) ∧ Below w.heap.size w w' := by
  refine law_of fun R HR => ?_
  have HA := hide hA
  have HL := hide hl
  obtain ⟨xa, xn, rfl, hacc, hnext, _⟩ := hA
  obtain ⟨aa, ac', rfl, _, hac2, _⟩ := hacc.open
  obtain ⟨na, nc, rfl, _⟩ := hnext.open
  obtain ⟨la, lc, rfl, hlc1, hlc2, _⟩ := hl.open
  unfold maxLen at hlc2 hac2
  have hA1 := heap_new w (.cells #[.int .i64 A.T, .slice aa A.acc.length ac', .slice na A.next.length nc] 25)
  have kA : Same w (w.alloc (.cells #[.int .i64 A.T, .slice aa A.acc.length ac', .slice na A.next.length nc] 25)) := (Keeps.refl _ w).alloc _
  clear hl
  go_enter Try.func4, Try.ntmps4
  go_wp2_with fail
  generalize w.alloc (.cells #[.int .i64 A.T, .slice aa A.acc.length ac', .slice na A.next.length nc] 25) = wb at hA1 kA ⊢
  have BXA := hide hA1
  have HKB := hide kA
  generalize w.heap.size = xb at hA1 BXA ⊢
  clear hA1 kA hacc hnext
  refine may24 (HA.out.same HKB.out) ?_; rintro e w1 rfl k1
  cases hmA : mayB A with
  | false =>
    go_wp2_with fail
    exact HR.out _ _ rfl ((HKB.out.tr k1).mono fun _ _ _ => trivial)
  | true =>
  have HOK := hide (show AuOk A by unfold mayB at hmA; exact (of_decide_eq_true hmA).2.2)
  have HMOK := hide (min_ok HOK.out)
  have HACC := hide (min_accepts HOK.out l)
  have HMM := hide (min_min HOK.out)
  have HMLE := hide (min_le HOK.out)
  have hS := k1.at BXA.out trivial
  have HK1 := hide (HKB.out.tr k1)
  have q0 := cell_at hS 0; have q1 := cell_at hS 1; have q2 := cell_at hS 2; simp only [List.getElem?_toArray, List.getElem?_cons_zero, List.getElem?_cons_succ] at q0 q1 q2
  have BX1 := hide hS
  clear hmA hS k1
  by_cases hlen : 100 < l.length
  · go_wp2_with fail
    exact HR.out _ _ rfl (HK1.out.mono fun _ _ _ => trivial)
  go_wp2_with fail
  refine of24 (HA.out.same HK1.out) HOK.out ?_; rintro e w2 d2 rfl dd2 k2
  have HD2 := hide dd2
  have HK2 := hide (HK1.out.tr k2)
  have BX2 := hide (k2.at BX1.out trivial)
  clear dd2 k2 q0 q1 q2
  go_wp2_with fail
  refine minMin HD2.out ?_; rintro e w3 d3 rfl dd3 k3
  have HD3 := hide dd3
  have HK3 := hide (HK2.out.tr k3)
  have BX3 := hide (k3.at BX2.out trivial)
  clear dd3 k3
  go_wp2_with fail
  refine dfaRun HD3.out (HL.out.same HK3.out) ?_; rintro e w4 rfl k4
  have HD4 := hide (HD3.out.same k4)
  have HK4 := hide (HK3.out.tr k4)
  have hS := k4.at BX3.out trivial
  have BX4 := hide hS
  have q0 := cell_at hS 0; have q1 := cell_at hS 1; have q2 := cell_at hS 2; simp only [List.getElem?_toArray, List.getElem?_cons_zero, List.getElem?_cons_succ] at q0 q1 q2
  rw [HACC.out]
  generalize runA (minAu A) l = r1
  clear k4 hS
  go_wp2_with fail
  refine refRun (HA.out.same HK4.out) HOK.out (HL.out.same HK4.out) ?_; rintro e w5 rfl k5
  generalize accA A (runA A l) = b
  generalize runA A l = r2
  have HD5 := hide (HD4.out.same k5)
  have HK5 := hide (HK4.out.tr k5)
  have BX5 := hide (k5.at BX4.out trivial)
  clear k5 q0 q1 q2
  go_wp2_with fail
  refine minMin HD5.out ?_; rintro e w6 d6 rfl dd6 k6
  rw [HMM.out] at dd6
  have HD6 := hide dd6
  have HX6 := hide (HD5.out.same k6)
  have HK6 := hide (HK5.out.tr k6)
  have BX6 := hide (k6.at BX5.out trivial)
  clear dd6 k6
  go_wp2_with fail
  have kd : Same w6 w6.drew := Keeps.drew (Keeps.refl (fun _ => True) w6)
  refine wp_region_plan (.take 0 (.take 1 (.take 2 (.take 3 (.take 4 (.take 5 (.take 6 (.take 7 (.take 8 (.take 9 (.take 10 (.take 11 (.take 12 (.take 14 (.one 13 (.one 15 (.one 16 (.take 17 (.take 18 (.take 19 (.take 21 (.take 22 (.take 23 (.one 20 (.take 24 (.take 25 (.take 26 (.one 27 (.take 28 (.take 29 .done)))))))))))))))))))))))))))))) (fun w' => w'.heap[xb]? = some (.cells #[.int .i64 A.T, .slice aa A.acc.length ac', .slice na A.next.length nc] 25 (0, 0))) (by kernel_rfl) (by kernel_rfl) (kd.at BX6.out trivial) ?_
  iterate 14
    (first
       | (apply pl_pass
          case ho => rfl
          case hw => rfl
          go_simp)
       | (apply pl_take
          case ho => rfl
          case hw => rfl
          case hv =>
            intro w' hS
            (have q1 := cell_at hS 1; simp only [List.getElem?_toArray, List.getElem?_cons_zero, List.getElem?_cons_succ] at q1)
            go_simp
            exact rfl
          go_simp))
  refine pl_one (up_do rfl rfl fun K hK1 => ?_)
  go_simp
  refine dfaTo (HD6.out.same kd) ?_; rintro e w7 v7 rfl o7 k7
  have c7 := kd.tr k7
  refine hK1 _ _ _ (c7.at BX6.out trivial) (fun _ h => h) ?_
  clear hK1 K
  refine pl_one (up_do rfl rfl fun K hK1 => ?_)
  go_simp
  refine dfaTo (HX6.out.same c7) ?_; rintro e w8 v8 rfl o8 k8
  have c8 := c7.tr k8
  refine hK1 _ _ _ (c8.at BX6.out trivial) (fun _ h => h) ?_
  clear hK1 K
  refine pl_one (up_do rfl rfl fun K hK1 => ?_)
  go_simp
  refine refSameA ((o7.auto HMOK.out).same k8) (o8.auto HMOK.out) ?_; rintro e w9 rfl k9
  have c9 := c8.tr k9
  refine hK1 _ _ _ (c9.at BX6.out trivial) (fun _ h => h) ?_
  clear hK1 K
  iterate 6
    (first
       | (apply pl_pass
          case ho => rfl
          case hw => rfl
          go_simp)
       | (apply pl_take
          case ho => rfl
          case hw => rfl
          case hv =>
            intro w' hS
            (have q1 := cell_at hS 1; simp only [List.getElem?_toArray, List.getElem?_cons_zero, List.getElem?_cons_succ] at q1)
            go_simp
            exact rfl
          go_simp))
  refine pl_one (up_do rfl rfl fun K hK1 => ?_)
  go_simp
  refine dfaStates (HX6.out.same c9) ?_; rintro e rfl
  refine hK1 _ _ _ (c9.at BX6.out trivial) (fun _ h => h) ?_
  clear hK1 K
  have hmle := HMLE.out
  generalize (minAu A).acc.length = q at hmle
  iterate 3
    (first
       | (apply pl_pass
          case ho => rfl
          case hw => rfl
          go_simp)
       | (apply pl_take
          case ho => rfl
          case hw => rfl
          case hv =>
            intro w' hS
            (skip)
            go_simp
            exact rfl
          go_simp))
  refine pl_one (up_do rfl rfl fun K hK1 => ?_)
  go_simp
  refine known24 ?_; rintro e w10 rfl k10
  have c10 := c9.tr k10
  refine hK1 _ _ _ (c10.at BX6.out trivial) (fun _ h => h) ?_
  clear hK1 K
  iterate 2
    (first
       | (apply pl_pass
          case ho => rfl
          case hw => rfl
          go_simp)
       | (apply pl_take
          case ho => rfl
          case hw => rfl
          case hv =>
            intro w' hS
            (skip)
            go_simp
            exact rfl
          go_simp))
  refine pl_done ?_
  have HF := hide ((HK6.out.tr c10).mono (S' := (· < w.heap.size)) fun _ _ _ => trivial)
  clear kd c7 c8 c9 c10 k7 k8 k9 k10 o7 o8
  go_wp2_with fail
  exact HR.out _ _ rfl HF.out

end Go.Proofs.Ytlaipnobfmfgaaa
