/- The walk of sibylref19.Same, over any two automata. -/
import Derived.Test.YtohhjdadhdibfaaPkB
namespace Go.Proofs.Ytohhjdadhdibfaa
open Go.RowKit

attribute [local irreducible] wpQuiet

variable {R : Ending → World → Prop} {w : World} {A C : Au}

theorem lists_same {α : Type} {d : α} {a b : List α} {k : Nat} (hlen : a.length = b.length) (h : ∀ i, i < k → a.getD i d = b.getD i d) (hk : a.length ≤ k) : a = b := by
  apply List.ext_getElem hlen
  intro i h1 h2
  have := h i (by omega)
  simpa [List.getD, List.getElem?_eq_getElem h1, List.getElem?_eq_getElem h2] using this

theorem au_eq {X Y : Au} : X = Y ↔ X.T = Y.T ∧ X.acc = Y.acc ∧ X.next = Y.next := by
  cases X; cases Y; simp

instance : DecidableEq Au := fun X Y => decidable_of_iff (X.T = Y.T ∧ X.acc = Y.acc ∧ X.next = Y.next) au_eq.symm

set_option maxRecDepth 10000 in
set_option maxHeartbeats 4000000 in
theorem refSame {v u : Value} (hA : AutoAt w v A) (hB : AutoAt w u C) (hR : ∀ e w', e = .returned (.bool (decide (A = C))) → Same w w' → R e w') :
    Calls Try.prog 18 #[v, u] w R := by
  have HR := hide hR
  clear hR
  obtain ⟨va, vn, rfl, hacc, hnext, hT⟩ := hA
  obtain ⟨ua, un, rfl, hacc2, hnext2, _⟩ := hB
  obtain ⟨aa, ac, rfl, hc1, hc2, hacell⟩ := hacc.open
  obtain ⟨na, nc, rfl, hd1, hd2, hcell⟩ := hnext.open
  obtain ⟨ba, bc, rfl, he1, he2, hbcell⟩ := hacc2.open
  obtain ⟨ma, mc, rfl, hf1, hf2, hmcell⟩ := hnext2.open
  unfold maxLen at hc2 hd2 he2 hf2
  have HAC := hide hacell
  have HBC := hide hbcell
  have HC := hide hcell
  have HM := hide hmcell
  have h1 := heap_new w (.cells #[.int .i64 A.T, .slice aa A.acc.length ac, .slice na A.next.length nc] 25)
  have e1 : (w.alloc (.cells #[.int .i64 A.T, .slice aa A.acc.length ac, .slice na A.next.length nc] 25)).heap.size = w.heap.size + 1 := by simp
  have k1 : Same w (w.alloc (.cells #[.int .i64 A.T, .slice aa A.acc.length ac, .slice na A.next.length nc] 25)) := (Keeps.refl _ w).alloc _
  have h2 := heap_new (w.alloc (.cells #[.int .i64 A.T, .slice aa A.acc.length ac, .slice na A.next.length nc] 25)) (.cells #[.int .i64 C.T, .slice ba C.acc.length bc, .slice ma C.next.length mc] 25)
  rw [e1] at h2
  have h3 := heap_old h1 (.cells #[.int .i64 C.T, .slice ba C.acc.length bc, .slice ma C.next.length mc] 25)
  have k2 := k1.alloc (.cells #[.int .i64 C.T, .slice ba C.acc.length bc, .slice ma C.next.length mc] 25)
  have c0 := cell_at h3 0
  have c1 := cell_at h3 1
  have c2 := cell_at h3 2
  have d0 := cell_at h2 0
  have d1 := cell_at h2 1
  have d2 := cell_at h2 2
  simp only [List.getElem?_toArray, List.getElem?_cons_zero, List.getElem?_cons_succ] at c0 c1 c2 d0 d1 d2
  have BAD : A.T ≠ C.T ∨ A.acc.length ≠ C.acc.length ∨ A.next.length ≠ C.next.length → decide (A = C) = false := fun h => decide_eq_false fun e => by subst e; simp at h
  have GO : A.T = C.T → A.acc = C.acc → A.next = C.next → decide (A = C) = true := fun h1 h2 h3 => decide_eq_true (au_eq.2 ⟨h1, h2, h3⟩)
  have NA : A.acc ≠ C.acc → decide (A = C) = false := fun h => decide_eq_false fun e => h (by rw [e])
  have NN : A.next ≠ C.next → decide (A = C) = false := fun h => decide_eq_false fun e => h (by rw [e])
  generalize decide (A = C) = ans at BAD GO NA NN HR
  have GO := hide GO
  have NA := hide NA
  have NN := hide NN
  have HBAD := hide BAD
  clear hacc hnext hT hacc2 hnext2 hacell hcell hbcell hmcell h1 e1 h2 h3 BAD k1
  by_cases hTT : A.T = C.T
  case neg =>
    have HF : Hid (false = ans) := hide (HBAD.out (.inl hTT)).symm
    have hb : (A.T != C.T) = true := by simpa using hTT
    clear hTT
    go_enter Try.func18, Try.ntmps18
    go_wp2_with fail
    exact HR.out _ _ (ret_bool HF.out) k2
  by_cases hLA : A.acc.length = C.acc.length
  case neg =>
    have HF : Hid (false = ans) := hide (HBAD.out (.inr (.inl hLA))).symm
    have hb : (A.T != C.T) = false := by simpa using hTT
    have hb2 : (((A.acc.length : Nat) : Int) != ((C.acc.length : Nat) : Int)) = true := by rw [bne_iff_ne]; omega
    clear hTT hLA
    go_enter Try.func18, Try.ntmps18
    go_wp2_with fail
    exact HR.out _ _ (ret_bool HF.out) k2
  by_cases hLN : A.next.length = C.next.length
  case neg =>
    have HF : Hid (false = ans) := hide (HBAD.out (.inr (.inr hLN))).symm
    have hb : (A.T != C.T) = false := by simpa using hTT
    have hb2 : (((A.acc.length : Nat) : Int) != ((C.acc.length : Nat) : Int)) = false := by rw [hLA]; simp
    have hb3 : (((A.next.length : Nat) : Int) != ((C.next.length : Nat) : Int)) = true := by rw [bne_iff_ne]; omega
    clear hTT hLA hLN
    go_enter Try.func18, Try.ntmps18
    go_wp2_with fail
    exact HR.out _ _ (ret_bool HF.out) k2
  have hb : (A.T != C.T) = false := by simpa using hTT
  have hb2 : (((A.acc.length : Nat) : Int) != ((C.acc.length : Nat) : Int)) = false := by rw [hLA]; simp
  have hb3 : (((A.next.length : Nat) : Int) != ((C.next.length : Nat) : Int)) = false := by rw [hLN]; simp
  have HLA := hide hLA
  have HLN := hide hLN
  have HTT := hide hTT
  clear hTT hLA hLN HBAD
  go_enter Try.func18, Try.ntmps18
  go_wp2_with fail
  generalize (w.alloc (.cells #[.int .i64 A.T, .slice aa A.acc.length ac, .slice na A.next.length nc] 25)).alloc (.cells #[.int .i64 C.T, .slice ba C.acc.length bc, .slice ma C.next.length mc] 25) = w1 at c0 c1 c2 d0 d1 d2 k2 ⊢
  have C1 := hide c1
  have C2 := hide c2
  have D1 := hide d1
  have D2 := hide d2
  have HK := hide k2
  clear c0 c1 c2 d0 d1 d2 k2
  go_loopw [5] (fun i wr => ∃ k : Nat, i = .int .i64 k ∧ k ≤ A.acc.length ∧ Hid (∀ i, i < k → A.acc.getD i false = C.acc.getD i false) ∧ Same w1 wr) (fun i _ => A.acc.length - (intOf i).toNat)
  case atStart => exact ⟨0, rfl, Nat.zero_le _, hide (fun i hi => absurd hi (Nat.not_lt_zero _)), Keeps.refl _ _⟩
  case round =>
    obtain ⟨k, rfl, hk, heq, hK⟩ := hrel
    have c1 := Keeps.cell hK C1.out trivial
    have d1 := Keeps.cell hK D1.out trivial
    by_cases hlt : k < A.acc.length
    · have hlt2 : k < C.acc.length := by rw [← HLA.out]; exact hlt
      obtain ⟨xa, xo, rfl, _, hx⟩ := HAC.out k hlt
      obtain ⟨ya, yo, rfl, _, hy⟩ := HBC.out k hlt2
      have p1 := Keeps.cell (HK.out.tr hK) (hx k hlt) trivial
      have p2 := Keeps.cell (HK.out.tr hK) (hy k hlt2) trivial
      have HX := hide (And.intro (show A.acc.getD k false = A.acc[k] by simp [List.getD, List.getElem?_eq_getElem hlt]) (show C.acc.getD k false = C.acc[k] by simp [List.getD, List.getElem?_eq_getElem hlt2]))
      generalize A.acc[k] = b at p1 HX
      generalize C.acc[k] = b2 at p2 HX
      clear hx hy
      have HK2 := hide hK
      clear hK
      by_cases hxy : b = b2
      · subst hxy
        have HQ := hide (show A.acc.getD k false = C.acc.getD k false by rw [HX.out.1, HX.out.2])
        clear HX
        cases b <;>
        · go_wp2_with fail
          refine wp_region_same (by kernel_rfl) (by kernel_rfl) ?_
          iterate 11
            (apply wpQuiet_step
             intro K hK
             first
               | (apply quiet_skip
                  case hw => rfl
                  go_simp
                  refine hK _ ?_; clear hK K)
               | (apply quiet_do
                  case hw => rfl
                  case h =>
                    intro w' hw'
                    (have z1 := Keeps.cell hw' c1 trivial; have z2 := Keeps.cell hw' d1 trivial; have z3 := Keeps.cell hw' p1 trivial; have z4 := Keeps.cell hw' p2 trivial)
                    go_simp
                    first | exact rfl | (fail)
                  go_simp
                  refine hK _ ?_; clear hK K))
          apply wpQuiet_nil
          intro w2 k2
          have HK3 := hide (HK2.out.tr k2)
          clear k2 c1 d1 p1 p2
          go_wp2_with fail
          go_roundw
          · refine ⟨k + 1, by go_num, by omega, hide (fun i hi => ?_), HK3.out⟩
            by_cases e : i = k
            · subst e; exact HQ.out
            · exact heq.out i (by omega)
          · simp [intOf]; omega
      · have HN : Hid (false = ans) := hide (NA.out fun e => hxy (by rw [← HX.out.1, ← HX.out.2, e])).symm
        clear HX
        rcases (show (b = true ∧ b2 = false) ∨ (b = false ∧ b2 = true) by cases b <;> cases b2 <;> simp at hxy ⊢) with ⟨rfl, rfl⟩ | ⟨rfl, rfl⟩ <;>
        · clear hxy
          go_wp2_with fail
          refine wp_region_same (by kernel_rfl) (by kernel_rfl) ?_
          iterate 11
            (apply wpQuiet_step
             intro K hK
             first
               | (apply quiet_skip
                  case hw => rfl
                  go_simp
                  refine hK _ ?_; clear hK K)
               | (apply quiet_do
                  case hw => rfl
                  case h =>
                    intro w' hw'
                    (have z1 := Keeps.cell hw' c1 trivial; have z2 := Keeps.cell hw' d1 trivial; have z3 := Keeps.cell hw' p1 trivial; have z4 := Keeps.cell hw' p2 trivial)
                    go_simp
                    first | exact rfl | (fail)
                  go_simp
                  refine hK _ ?_; clear hK K))
          apply wpQuiet_nil
          intro w2 k2
          have HK3 := hide (HK.out.tr (HK2.out.tr k2))
          clear k2 c1 d1 p1 p2
          go_wp2_with fail
          exact HR.out _ _ (ret_bool HN.out) HK3.out
    · have HK2 := hide hK
      have HAE := hide (lists_same HLA.out heq.out (by omega))
      clear hK heq
      go_wp2_with fail
      go_loopw [6] (fun i wr => ∃ k : Nat, i = .int .i64 k ∧ k ≤ A.next.length ∧ Hid (∀ i, i < k → A.next.getD i [] = C.next.getD i []) ∧ Same w1 wr) (fun i _ => A.next.length - (intOf i).toNat)
      case atStart => exact ⟨0, rfl, Nat.zero_le _, hide (fun i hi => absurd hi (Nat.not_lt_zero _)), HK2.out⟩
      case round =>
        clear c1 d1
        obtain ⟨m, rfl, hm, heq2, hK⟩ := hrel
        have c2 := Keeps.cell hK C2.out trivial
        have d2 := Keeps.cell hK D2.out trivial
        by_cases hlt2 : m < A.next.length
        · have hlt3 : m < C.next.length := by rw [← HLN.out]; exact hlt2
          obtain ⟨xa, xo, rfl, _, hx⟩ := HC.out m hlt2
          obtain ⟨ya, yo, rfl, _, hy⟩ := HM.out m hlt3
          obtain ⟨u1, hu1, hi1⟩ := hx m hlt2
          obtain ⟨u2, hu2, hi2⟩ := hy m hlt3
          have p1 := Keeps.cell (HK.out.tr hK) hu1 trivial
          have p2 := Keeps.cell (HK.out.tr hK) hu2 trivial
          have I1 := hide (hi1.same (HK.out.tr hK))
          have I2 := hide (hi2.same (HK.out.tr hK))
          obtain ⟨sa1, sc1, rfl, _⟩ := hi1.open
          obtain ⟨sa2, sc2, rfl, _⟩ := hi2.open
          have HX := hide (And.intro (show A.next.getD m [] = A.next[m] by simp [List.getD, List.getElem?_eq_getElem hlt2]) (show C.next.getD m [] = C.next[m] by simp [List.getD, List.getElem?_eq_getElem hlt3]))
          clear hx hy hu1 hu2 hi1 hi2
          generalize A.next[m] = row at p1 I1 HX
          generalize C.next[m] = row2 at p2 I2 HX
          have HK2 := hide hK
          clear hK
          by_cases hxy : row = row2
          · subst hxy
            have HQ := hide (show A.next.getD m [] = C.next.getD m [] by rw [HX.out.1, HX.out.2])
            clear HX
            go_wp2_with fail
            refine wp_region_same (by kernel_rfl) (by kernel_rfl) ?_
            iterate 12
              (apply wpQuiet_step
               intro K hK
               first
                 | (apply quiet_skip
                    case hw => rfl
                    go_simp
                    refine hK _ ?_; clear hK K)
                 | (apply quiet_do
                    case hw => rfl
                    case h =>
                      intro w' hw'
                      (have z1 := Keeps.cell hw' c2 trivial; have z2 := Keeps.cell hw' d2 trivial; have z3 := Keeps.cell hw' p1 trivial; have z4 := Keeps.cell hw' p2 trivial)
                      go_simp
                      first | exact rfl | (exact sameInts (I1.out.same hw') (I2.out.same hw') (fun e w'' he hk => ⟨he, hw'.tr hk⟩))
                    go_simp
                    refine hK _ ?_; clear hK K))
            apply wpQuiet_nil
            intro w2 k2
            have HK3 := hide (HK2.out.tr k2)
            clear k2 c2 d2 p1 p2
            go_wp2_with fail
            go_roundw
            case rel =>
              refine ⟨m + 1, by go_num, by omega, hide (fun i hi => ?_), HK3.out⟩
              by_cases e : i = m
              · subst e; exact HQ.out
              · exact heq2.out i (by omega)
            case measure => simp [intOf]; omega
          · have HN : Hid (false = ans) := hide (NN.out fun e => hxy (by rw [← HX.out.1, ← HX.out.2, e])).symm
            have hdf : decide (row = row2) = false := decide_eq_false hxy
            clear HX
            go_wp2_with fail
            refine wp_region_same (by kernel_rfl) (by kernel_rfl) ?_
            iterate 12
              (apply wpQuiet_step
               intro K hK
               first
                 | (apply quiet_skip
                    case hw => rfl
                    go_simp
                    refine hK _ ?_; clear hK K)
                 | (apply quiet_do
                    case hw => rfl
                    case h =>
                      intro w' hw'
                      (have z1 := Keeps.cell hw' c2 trivial; have z2 := Keeps.cell hw' d2 trivial; have z3 := Keeps.cell hw' p1 trivial; have z4 := Keeps.cell hw' p2 trivial)
                      go_simp
                      first | exact rfl | (exact sameInts (I1.out.same hw') (I2.out.same hw') (fun e w'' he hk => ⟨he, hw'.tr hk⟩))
                    go_simp
                    refine hK _ ?_; clear hK K))
            apply wpQuiet_nil
            intro w2 k2
            have HK3 := hide (HK.out.tr (HK2.out.tr k2))
            clear k2 c2 d2 p1 p2
            go_wp2_with fail
            exact HR.out _ _ (ret_bool HN.out) HK3.out
        · have HF : Hid (true = ans) := hide (GO.out HTT.out HAE.out (lists_same HLN.out heq2.out (by omega))).symm
          have HK3 := hide (HK.out.tr hK)
          clear heq2 hK
          go_wp2_with fail
          exact HR.out _ _ (ret_bool HF.out) HK3.out

end Go.Proofs.Ytohhjdadhdibfaa
