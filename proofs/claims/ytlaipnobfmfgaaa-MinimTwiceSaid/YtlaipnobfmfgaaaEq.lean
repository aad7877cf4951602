/- The walks of slices.Equal over bools, slices.EqualFunc over rows, sibylref19.Same, minim.Same, sibylref24.Same. -/
import Derived.Test.YtlaipnobfmfgaaaMinRef5
import Derived.Test.YtlaipnobfmfgaaaSame19g
namespace Go.Proofs.Ytlaipnobfmfgaaa
open Go.RowKit

attribute [local irreducible] wpQuiet wpPlan wpPlanZ wpUp

variable {R : Ending → World → Prop} {w : World} {A : Au} {B d : Nat}

theorem callFunc_equal (args : Array Value) (w : World) : (callFunc 60 args).run Try.prog w = .ok (.enter 60 args) w := by kernel_rfl

theorem list_sameB {a b : List Bool} {k : Nat} (hlen : a.length = b.length) (h : ∀ i, i < k → a.getD i false = b.getD i false) (hk : a.length ≤ k) : a = b := by
  apply List.ext_getElem hlen
  intro i h1 h2
  have := h i (by omega)
  simpa [List.getD, List.getElem?_eq_getElem h1, List.getElem?_eq_getElem h2] using this

theorem list_sameR {a b : List (List Int)} {k : Nat} (hlen : a.length = b.length) (h : ∀ i, i < k → a.getD i [] = b.getD i []) (hk : a.length ≤ k) : a = b := by
  apply List.ext_getElem hlen
  intro i h1 h2
  have := h i (by omega)
  simpa [List.getD, List.getElem?_eq_getElem h1, List.getElem?_eq_getElem h2] using this

set_option maxHeartbeats 1000000 in
theorem slicesEqualB {v u : Value} {a b : List Bool} (hv : BoolsAt w v a) (hu : BoolsAt w u b) (hR : ∀ e w', e = .returned (.bool (decide (a = b))) → Same w w' → R e w') :
    Calls Try.prog 63 #[v, u] w R := by
  have HR := hide hR
  clear hR
  obtain ⟨va, vc, rfl, _, hc2, hcell⟩ := hv.open
  obtain ⟨ua, uc, rfl, _, hd2, hdell⟩ := hu.open
  have HC := hide hcell
  have HD := hide hdell
  unfold maxLen at hc2 hd2
  clear hcell hdell hv hu
  by_cases hl : a.length = b.length
  · have hne : (((a.length : Nat) : Int) != ((b.length : Nat) : Int)) = false := by rw [hl]; simp
    have HL := hide hl
    clear hl
    go_enter Try.func63, Try.ntmps63
    go_wp2_with fail
    go_loopw [5, 13] (fun _ i wr => ∃ k : Nat, i = .int .i64 k ∧ k ≤ a.length ∧ Hid (∀ i, i < k → a.getD i false = b.getD i false) ∧ Same w wr) (fun _ i _ => a.length - (intOf i).toNat)
    case atStart => exact ⟨0, rfl, Nat.zero_le _, hide (fun i hi => absurd hi (Nat.not_lt_zero _)), Keeps.refl _ _⟩
    case round =>
      obtain ⟨k, rfl, hk, heq, hK⟩ := hrel
      by_cases hlt : k < a.length
      · have hlt2 : k < b.length := by rw [← HL.out]; exact hlt
        obtain ⟨p, off, rfl, _, hcl⟩ := HC.out k hlt
        obtain ⟨q, off2, rfl, _, hdl⟩ := HD.out k hlt2
        have z1 := Keeps.cell hK (hcl k hlt) trivial
        have z2 := Keeps.cell hK (hdl k hlt2) trivial
        have HX := hide (And.intro (show a.getD k false = a[k] by simp [List.getD, List.getElem?_eq_getElem hlt]) (show b.getD k false = b[k] by simp [List.getD, List.getElem?_eq_getElem hlt2]))
        generalize a[k] = x at z1 HX
        generalize b[k] = y at z2 HX
        have HK := hide hK
        clear hcl hdl hK
        by_cases hxy : x = y
        · subst hxy
          have HQ := hide (show a.getD k false = b.getD k false by rw [HX.out.1, HX.out.2])
          clear HX
          cases x <;>
          · go_wp2_with fail
            refine wp_region_same (by kernel_rfl) (by kernel_rfl) ?_
            iterate 9
              (apply wpQuiet_step
               intro K hK
               first
                 | (apply quiet_skip
                    case hw => rfl
                    go_simp
                    refine hK _ ?_; clear hK K)
                 | (apply quiet_do
                    case hw => rfl
                    case h =>
                      intro w' hw'
                      (have y1 := Keeps.cell hw' z1 trivial; have y2 := Keeps.cell hw' z2 trivial)
                      go_simp
                      first | exact rfl | (fail)
                    go_simp
                    refine hK _ ?_; clear hK K))
            apply wpQuiet_nil
            intro w1 k1
            have HK1 := hide (HK.out.tr k1)
            clear z1 z2 k1
            go_wp2_with fail
            go_roundw
            · refine ⟨k + 1, by go_num, by omega, hide (fun i hi => ?_), HK1.out⟩
              by_cases e : i = k
              · subst e; exact HQ.out
              · exact heq.out i (by omega)
            · simp [intOf]; omega
        · have HN : Hid (decide (a = b) = false) := hide (decide_eq_false fun e => by
            subst e; exact hxy (HX.out.1.symm.trans HX.out.2))
          clear HX
          rcases (show (x = true ∧ y = false) ∨ (x = false ∧ y = true) by cases x <;> cases y <;> simp at hxy ⊢) with ⟨rfl, rfl⟩ | ⟨rfl, rfl⟩ <;>
          · clear hxy
            go_wp2_with fail
            refine wp_region_same (by kernel_rfl) (by kernel_rfl) ?_
            iterate 9
              (apply wpQuiet_step
               intro K hK
               first
                 | (apply quiet_skip
                    case hw => rfl
                    go_simp
                    refine hK _ ?_; clear hK K)
                 | (apply quiet_do
                    case hw => rfl
                    case h =>
                      intro w' hw'
                      (have y1 := Keeps.cell hw' z1 trivial; have y2 := Keeps.cell hw' z2 trivial)
                      go_simp
                      first | exact rfl | (fail)
                    go_simp
                    refine hK _ ?_; clear hK K))
            apply wpQuiet_nil
            intro w1 k1
            have HK1 := hide (HK.out.tr k1)
            clear z1 z2 k1
            go_wp2_with fail
            exact HR.out _ _ (ret_bool HN.out.symm) HK1.out
      · have HE : Hid (decide (a = b) = true) := hide (decide_eq_true (list_sameB HL.out heq.out (by omega)))
        have HK := hide hK
        clear heq hK
        go_wp2_with fail
        exact HR.out _ _ (ret_bool HE.out.symm) HK.out
  · have hne : (((a.length : Nat) : Int) != ((b.length : Nat) : Int)) = true := by rw [bne_iff_ne]; omega
    have HN : Hid (decide (a = b) = false) := hide (decide_eq_false fun e => hl (by rw [e]))
    clear hl
    go_enter Try.func63, Try.ntmps63
    go_wp2_with fail
    exact HR.out _ _ (ret_bool HN.out.symm) (Keeps.refl _ _)

set_option maxHeartbeats 1000000 in
theorem equalFuncR {v u : Value} {a b : List (List Int)} (hv : RowsAt w v a) (hu : RowsAt w u b) (hR : ∀ e w', e = .returned (.bool (decide (a = b))) → Same w w' → R e w') :
    Calls Try.prog 64 #[v, u, .func (.func 60) #[] #[]] w R := by
  have hcf := callFunc_equal
  have HR := hide hR
  clear hR
  obtain ⟨va, vc, rfl, _, hc2, hcell⟩ := hv.open
  obtain ⟨ua, uc, rfl, _, hd2, hdell⟩ := hu.open
  have HC := hide hcell
  have HD := hide hdell
  unfold maxLen at hc2 hd2
  clear hcell hdell hv hu
  by_cases hl : a.length = b.length
  · have hne : (((a.length : Nat) : Int) != ((b.length : Nat) : Int)) = false := by rw [hl]; simp
    have HL := hide hl
    clear hl
    go_enter Try.func64, Try.ntmps64
    go_wp2_with fail
    go_loopw [7, 8, 9, 17] (fun _ _ _ i wr => ∃ k : Nat, i = .int .i64 k ∧ k ≤ a.length ∧ Hid (∀ i, i < k → a.getD i [] = b.getD i []) ∧ Same w wr) (fun _ _ _ i _ => a.length - (intOf i).toNat)
    case atStart => exact ⟨0, rfl, Nat.zero_le _, hide (fun i hi => absurd hi (Nat.not_lt_zero _)), Keeps.refl _ _⟩
    case round =>
      obtain ⟨k, rfl, hk, heq, hK⟩ := hrel
      by_cases hlt : k < a.length
      · have hlt2 : k < b.length := by rw [← HL.out]; exact hlt
        obtain ⟨p, off, rfl, _, hcl⟩ := HC.out k hlt
        obtain ⟨q, off2, rfl, _, hdl⟩ := HD.out k hlt2
        obtain ⟨u1, hu1, hi1⟩ := hcl k hlt
        obtain ⟨u2, hu2, hi2⟩ := hdl k hlt2
        have z1 := Keeps.cell hK hu1 trivial
        have z2 := Keeps.cell hK hu2 trivial
        have I1 := hide (hi1.same hK)
        have I2 := hide (hi2.same hK)
        obtain ⟨sa1, sc1, rfl, _⟩ := hi1.open
        obtain ⟨sa2, sc2, rfl, _⟩ := hi2.open
        have HX := hide (And.intro (show a.getD k [] = a[k] by simp [List.getD, List.getElem?_eq_getElem hlt]) (show b.getD k [] = b[k] by simp [List.getD, List.getElem?_eq_getElem hlt2]))
        clear hcl hdl hu1 hu2 hi1 hi2
        generalize a[k] = x at z1 HX I1
        generalize b[k] = y at z2 HX I2
        have HK := hide hK
        clear hK
        go_wp2_with fail
        refine slicesEqual I1.out I2.out ?_; rintro e w1 rfl k1
        have HK1 := hide (HK.out.tr k1)
        clear z1 z2 k1
        by_cases hxy : x = y
        · subst hxy
          rw [decide_eq_true rfl]
          go_wp2_with fail
          go_roundw
          case rel =>
            refine ⟨k + 1, by go_num, by omega, hide (fun i hi => ?_), HK1.out⟩
            by_cases e : i = k
            · subst e; rw [HX.out.1, HX.out.2]
            · exact heq.out i (by omega)
          case measure => simp [intOf]; omega
        · have HN : Hid (decide (a = b) = false) := hide (decide_eq_false fun e => by
            subst e; exact hxy (HX.out.1.symm.trans HX.out.2))
          rw [decide_eq_false hxy]
          clear hxy
          go_wp2_with fail
          exact HR.out _ _ (ret_bool HN.out.symm) HK1.out
      · have HE : Hid (decide (a = b) = true) := hide (decide_eq_true (list_sameR HL.out heq.out (by omega)))
        have HK := hide hK
        clear heq hK
        go_wp2_with fail
        exact HR.out _ _ (ret_bool HE.out.symm) HK.out
  · have hne : (((a.length : Nat) : Int) != ((b.length : Nat) : Int)) = true := by rw [bne_iff_ne]; omega
    have HN : Hid (decide (a = b) = false) := hide (decide_eq_false fun e => hl (by rw [e]))
    clear hl
    go_enter Try.func64, Try.ntmps64
    go_wp2_with fail
    exact HR.out _ _ (ret_bool HN.out.symm) (Keeps.refl _ _)

theorem minMinNil (hR : ∀ e, e = .returned (.tuple #[.pointer none, .int .i64 1]) → R e w) : Calls Try.prog 17 #[.pointer none] w R := by
  have HR := hide hR
  clear hR
  go_enter Try.func17, Try.ntmps17
  go_wp2_with fail
  exact HR.out _ rfl

set_option maxRecDepth 10000 in
set_option maxHeartbeats 4000000 in
theorem minSame {C : Au} {B' d' : Nat} (h1 : DFAAt w B d A) (h2 : DFAAt w B' d' C) (hR : ∀ e w', e = .returned (.bool (decide (minAu A = minAu C))) → Same w w' → R e w') :
    Calls Try.prog 29 #[.pointer (some ⟨d, 0, none⟩), .pointer (some ⟨d', 0, none⟩)] w R := by
  have HR := hide hR
  clear hR
  have H2 := hide h2
  have HM1 := hide (min_ok h1.ok)
  have HM2 := hide (min_ok h2.ok)
  have H1 := hide h1
  clear h1 h2
  go_enter Try.func29, Try.ntmps29
  go_wp2_with fail
  refine minMin H1.out ?_; rintro e w1 d1 rfl dd1 k1
  have HD1 := hide dd1
  have HK1 := hide k1
  clear dd1 k1
  go_wp2_with fail
  refine minMin (H2.out.same HK1.out) ?_; rintro e w2 d2 rfl dd2 k2
  have HD2 := hide dd2
  have HD12 := hide (HD1.out.same k2)
  have HK2 := hide (HK1.out.tr k2)
  clear dd2 k2
  go_wp2_with fail
  refine dfaTo HD12.out ?_; rintro e w3 v3 rfl o3 k3
  have HO3 := hide o3
  have HD3 := hide (HD2.out.same k3)
  have HK3 := hide (HK2.out.tr k3)
  clear o3 k3
  go_wp2_with fail
  refine dfaTo HD3.out ?_; rintro e w4 v4 rfl o4 k4
  have HO3 := hide (HO3.out.same k4)
  have HK4 := hide (HK3.out.tr k4)
  obtain ⟨va3, vn3, rfl, oa3, om3⟩ := HO3.out
  obtain ⟨va4, vn4, rfl, oa4, om4⟩ := o4
  have HA3 := hide oa3.bools
  have HA4 := hide oa4.bools
  have HN3 := hide (om3.rows HM1.out.bounds.2)
  have HN4 := hide (om4.rows HM2.out.bounds.2)
  obtain ⟨aa3, ac3, rfl⟩ := ownsRow_shape oa3
  obtain ⟨aa4, ac4, rfl⟩ := ownsRow_shape oa4
  obtain ⟨na3, nc3, rfl⟩ := om3.shape
  obtain ⟨na4, nc4, rfl⟩ := om4.shape
  clear k4 oa3 om3 oa4 om4 HO3
  generalize minAu A = X at *
  generalize minAu C = Y at *
  have hks : Same w ((w4.alloc (.cells #[.int .i64 X.T, .slice aa3 X.acc.length ac3, .slice na3 X.next.length nc3] 25)).alloc (.cells #[.int .i64 Y.T, .slice aa4 Y.acc.length ac4, .slice na4 Y.next.length nc4] 25)) := (HK4.out.alloc _).alloc _
  have hkz : Same w4 ((w4.alloc (.cells #[.int .i64 X.T, .slice aa3 X.acc.length ac3, .slice na3 X.next.length nc3] 25)).alloc (.cells #[.int .i64 Y.T, .slice aa4 Y.acc.length ac4, .slice na4 Y.next.length nc4] 25)) := ((Keeps.refl _ w4).alloc _).alloc _
  have g1 := heap_old (heap_new w4 (.cells #[.int .i64 X.T, .slice aa3 X.acc.length ac3, .slice na3 X.next.length nc3] 25)) (.cells #[.int .i64 Y.T, .slice aa4 Y.acc.length ac4, .slice na4 Y.next.length nc4] 25)
  have g2 := heap_new (w4.alloc (.cells #[.int .i64 X.T, .slice aa3 X.acc.length ac3, .slice na3 X.next.length nc3] 25)) (.cells #[.int .i64 Y.T, .slice aa4 Y.acc.length ac4, .slice na4 Y.next.length nc4] 25)
  rw [show (w4.alloc (.cells #[.int .i64 X.T, .slice aa3 X.acc.length ac3, .slice na3 X.next.length nc3] 25)).heap.size = w4.heap.size + 1 by simp] at g2
  have GO : X.T = Y.T → X.acc = Y.acc → X.next = Y.next → decide (X = Y) = true := fun h1 h2 h3 => decide_eq_true (au_eq.2 ⟨h1, h2, h3⟩)
  have NA : X.acc ≠ Y.acc → decide (X = Y) = false := fun h => decide_eq_false fun e => h (by rw [e])
  have NN : X.next ≠ Y.next → decide (X = Y) = false := fun h => decide_eq_false fun e => h (by rw [e])
  have NT : X.T ≠ Y.T → decide (X = Y) = false := fun h => decide_eq_false fun e => h (by rw [e])
  generalize decide (X = Y) = ans at GO NA NN NT HR
  have GO := hide GO
  have NA := hide NA
  have NN := hide NN
  have HA3 := hide (HA3.out.same hkz)
  have HA4 := hide (HA4.out.same hkz)
  have HN3 := hide (HN3.out.same hkz)
  have HN4 := hide (HN4.out.same hkz)
  have HKZ := hide hks
  have G1 := hide g1
  have G2 := hide g2
  clear hks hkz g1 g2
  by_cases hTT : X.T = Y.T
  case neg =>
    have HF : Hid (false = ans) := hide (NT hTT).symm
    have hb : (X.T == Y.T) = false := by simpa using hTT
    clear hTT NT
    go_wp2_with fail
    exact HR.out _ _ (ret_bool HF.out) HKZ.out
  have hb : (X.T == Y.T) = true := by simpa using hTT
  have HTT := hide hTT
  clear hTT NT
  go_wp2_with fail
  refine slicesEqualB HA3.out HA4.out ?_; rintro e w5 rfl k5
  have HN3 := hide (HN3.out.same k5)
  have HN4 := hide (HN4.out.same k5)
  have HK5 := hide (HKZ.out.tr k5)
  have h1 := k5.at G1.out trivial
  have h2 := k5.at G2.out trivial
  have c0 := cell_at h1 2
  have d0 := cell_at h2 2
  simp only [List.getElem?_toArray, List.getElem?_cons_zero, List.getElem?_cons_succ] at c0 d0
  clear k5 h1 h2
  by_cases hab : X.acc = Y.acc
  case neg =>
    have HF : Hid (false = ans) := hide (NA.out hab).symm
    rw [decide_eq_false hab]
    clear hab
    go_wp2_with fail
    exact HR.out _ _ (ret_bool HF.out) HK5.out
  rw [decide_eq_true hab]
  have HAB := hide hab
  clear hab
  go_wp2_with fail
  refine equalFuncR HN3.out HN4.out ?_; rintro e w6 rfl k6
  have HK6 := hide (HK5.out.tr k6)
  have HF : Hid (decide (X.next = Y.next) = ans) := hide (by
    by_cases h : X.next = Y.next
    · rw [decide_eq_true h, GO.out HTT.out HAB.out h]
    · rw [decide_eq_false h, NN.out h])
  generalize decide (X.next = Y.next) = q at HF
  clear k6 c0 d0
  go_wp2_with fail
  exact HR.out _ _ (ret_bool HF.out) HK6.out

theorem minSameNilL {C : Au} {B' d' : Nat} (h2 : DFAAt w B' d' C) (hR : ∀ e w', e = .returned (.bool false) → Same w w' → R e w') :
    Calls Try.prog 29 #[.pointer none, .pointer (some ⟨d', 0, none⟩)] w R := by
  have HR := hide hR
  clear hR
  have H2 := hide h2
  clear h2
  go_enter Try.func29, Try.ntmps29
  go_wp2_with fail
  refine minMinNil ?_; rintro e rfl
  go_wp2_with fail
  refine minMin H2.out ?_; rintro e w2 d2 rfl dd2 k2
  clear dd2
  go_wp2_with fail
  exact HR.out _ _ rfl k2

theorem minSameNilR {C : Au} {B' d' : Nat} (h2 : DFAAt w B' d' C) (hR : ∀ e w', e = .returned (.bool false) → Same w w' → R e w') :
    Calls Try.prog 29 #[.pointer (some ⟨d', 0, none⟩), .pointer none] w R := by
  have HR := hide hR
  clear hR
  have H2 := hide h2
  clear h2
  go_enter Try.func29, Try.ntmps29
  go_wp2_with fail
  refine minMin H2.out ?_; rintro e w2 d2 rfl dd2 k2
  clear dd2
  go_wp2_with fail
  refine minMinNil ?_; rintro e rfl
  go_wp2_with fail
  exact HR.out _ _ rfl k2

end Go.Proofs.Ytlaipnobfmfgaaa
