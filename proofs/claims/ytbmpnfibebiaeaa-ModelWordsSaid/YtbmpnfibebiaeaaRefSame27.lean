/- The walk of sibylref27.Same. -/
import Derived.Test.YtbmpnfibebiaeaaVals
import Derived.Lib.SlicesS
namespace Go.Proofs.Ytbmpnfibebiaeaa
open Go.RowKit

attribute [local irreducible] wpQuiet wpPlan wpPlanZ wpUp

variable {R : Ending → World → Prop} {w : World}

set_option maxRecDepth 10000 in
set_option maxHeartbeats 2000000 in
theorem refSame27 {v u : Value} {a b : List Vl} (hv : ValsAt w v a) (hu : ValsAt w u b) (hR : ∀ e w', e = .returned (.bool (decide (a = b))) → Same w w' → R e w') :
    Calls Try.prog 11 #[v, u] w R := by
  have HR := hide hR
  clear hR
  obtain ⟨va, vc, vus, rfl, hc1, hc2, hvl, hvi, hcell⟩ := hv.open
  obtain ⟨ua, uc, uus, rfl, hd1, hd2, hul, hui, hdell⟩ := hu.open
  have HC := hide hcell
  have HD := hide hdell
  have HVL := hide hvl
  have HUL := hide hul
  have HVI := hide hvi
  have HUI := hide hui
  clear hcell hdell hv hu hvl hul hvi hui
  unfold maxLen at hc2 hd2
  by_cases hl : a.length = b.length
  · have hne : (((a.length : Nat) : Int) != ((b.length : Nat) : Int)) = false := by rw [hl]; simp
    have HL := hide hl
    go_enter Try.func11, Try.ntmps11
    go_wp2_with fail
    go_loopw [5] (fun i wr => ∃ k : Nat, i = .int .i64 k ∧ k ≤ a.length ∧ Hid (a.take k = b.take k) ∧ Same w wr) (fun i _ => a.length - (intOf i).toNat)
    case atStart => exact ⟨0, rfl, Nat.zero_le _, hide rfl, Keeps.refl _ _⟩
    case round =>
      obtain ⟨k, rfl, hk, ht, hK⟩ := hrel
      by_cases hlt : k < a.length
      · have hlt' : k < b.length := by omega
        obtain ⟨bl, off, rfl, hbl, hcl⟩ := HC.out k hlt
        obtain ⟨bl2, off2, rfl, hbl2, hcl2⟩ := HD.out k hlt'
        obtain ⟨s1, hs1⟩ : ∃ y, vus[k]? = some y := ⟨_, List.getElem?_eq_getElem (show k < vus.length by rw [HVL.out]; exact hlt)⟩
        obtain ⟨s2, hs2⟩ : ∃ y, uus[k]? = some y := ⟨_, List.getElem?_eq_getElem (show k < uus.length by rw [HUL.out]; exact hlt')⟩
        obtain ⟨x0, x1, x2⟩ := hcl k _ _ hs1 (List.getElem?_eq_getElem hlt)
        obtain ⟨y0, y1, y2⟩ := hcl2 k _ _ hs2 (List.getElem?_eq_getElem hlt')
        have hxi := (HVI.out k _ _ hs1 (List.getElem?_eq_getElem hlt)).1.same hK
        have hyi := (HUI.out k _ _ hs2 (List.getElem?_eq_getElem hlt')).1.same hK
        have x0 := Keeps.cell hK x0 trivial
        have x1 := Keeps.cell hK x1 trivial
        have x2 := Keeps.cell hK x2 trivial
        have y0 := Keeps.cell hK y0 trivial
        have y1 := Keeps.cell hK y1 trivial
        have y2 := Keeps.cell hK y2 trivial
        have h1 : a.take (k + 1) = a.take k ++ [a[k]] := List.take_succ_eq_append_getElem hlt
        have h2 : b.take (k + 1) = b.take k ++ [b[k]] := List.take_succ_eq_append_getElem hlt'
        have h3 : a[k] ≠ b[k] → a ≠ b := by rintro h rfl; exact h rfl
        have HX := hide hxi
        have HY := hide hyi
        clear hcl hcl2 hs1 hs2 hxi hyi
        generalize a[k] = p at HX h1 h3 x0 x1 x2
        generalize b[k] = q at HY h2 h3 y0 y1 y2
        have H1 := hide (And.intro h1 (And.intro h2 h3))
        clear h1 h2 h3 hl
        have HK := hide hK
        clear hK
        obtain ⟨nm, od, st⟩ := p
        obtain ⟨nm2, od2, st2⟩ := q
        simp only at x0 x1 y0 y1 HX HY
        by_cases e0 : nm = nm2
        · subst e0
          by_cases e1 : od = od2
          · subst e1
            go_wp2_with fail
            refine wp_region_same (by kernel_rfl) (by kernel_rfl) ?_
            iterate 38
              (apply wpQuiet_step
               intro K hK
               first
                 | (apply quiet_skip
                    case hw => rfl
                    go_simp
                    refine hK _ ?_; clear hK K)
                 | (apply quiet_do
                    case hw => rfl
                    case h =>
                      intro w' hw'
                      (have q1 := Keeps.cell hw' x0 trivial; have q2 := Keeps.cell hw' x1 trivial; have q3 := Keeps.cell hw' x2 trivial; have q4 := Keeps.cell hw' y0 trivial; have q5 := Keeps.cell hw' y1 trivial; have q6 := Keeps.cell hw' y2 trivial)
                      go_simp
                      first | exact rfl | (exact sameInts (HX.out.same hw') (HY.out.same hw') (fun e w'' he hk => ⟨he, hw'.tr hk⟩))
                    go_simp
                    refine hK _ ?_; clear hK K))
            apply wpQuiet_nil
            intro w1 k1
            have HK1 := hide (HK.out.tr k1)
            clear k1 x0 x1 x2 y0 y1 y2
            by_cases hpq : st = st2
            · subst hpq
              rw [show decide (st = st) = true by simp]
              go_wp2_with fail
              go_roundw
              case rel => exact ⟨k + 1, by go_num, by omega, hide (by rw [H1.out.1, H1.out.2.1, ht.out]), HK1.out⟩
              case measure => simp [intOf]; omega
            · have hd : decide (st = st2) = false := decide_eq_false hpq
              have HF : Hid (decide (a = b) = false) := hide (decide_eq_false (H1.out.2.2 (by simp [hpq])))
              rw [hd]
              go_wp2_with fail
              exact HR.out _ _ (ret_bool (by rw [HF.out])) HK1.out
          · have HF : Hid (decide (a = b) = false) := hide (decide_eq_false (H1.out.2.2 (by simp [e1])))
            have hb1 : (od != od2) = true := by rw [bne_iff_ne]; exact e1
            go_wp2_with fail
            refine wp_region_same (by kernel_rfl) (by kernel_rfl) ?_
            iterate 38
              (apply wpQuiet_step
               intro K hK
               first
                 | (apply quiet_skip
                    case hw => rfl
                    go_simp
                    refine hK _ ?_; clear hK K)
                 | (apply quiet_do
                    case hw => rfl
                    case h =>
                      intro w' hw'
                      (have q1 := Keeps.cell hw' x0 trivial; have q2 := Keeps.cell hw' x1 trivial; have q3 := Keeps.cell hw' x2 trivial; have q4 := Keeps.cell hw' y0 trivial; have q5 := Keeps.cell hw' y1 trivial; have q6 := Keeps.cell hw' y2 trivial)
                      go_simp
                      first | exact rfl | (fail)
                    go_simp
                    refine hK _ ?_; clear hK K))
            apply wpQuiet_nil
            intro w1 k1
            have HK1 := hide (HK.out.tr k1)
            clear k1 x0 x1 x2 y0 y1 y2
            go_wp2_with fail
            exact HR.out _ _ (ret_bool (by rw [HF.out])) HK1.out
        · have HF : Hid (decide (a = b) = false) := hide (decide_eq_false (H1.out.2.2 (by simp [e0])))
          have hb0 : (nm.toList == nm2.toList) = false := (Go.Lib.bytes_beq_false_iff _ _).2 e0
          go_wp2_with fail
          refine wp_region_same (by kernel_rfl) (by kernel_rfl) ?_
          iterate 38
            (apply wpQuiet_step
             intro K hK
             first
               | (apply quiet_skip
                  case hw => rfl
                  go_simp
                  refine hK _ ?_; clear hK K)
               | (apply quiet_do
                  case hw => rfl
                  case h =>
                    intro w' hw'
                    (have q1 := Keeps.cell hw' x0 trivial; have q2 := Keeps.cell hw' x1 trivial; have q3 := Keeps.cell hw' x2 trivial; have q4 := Keeps.cell hw' y0 trivial; have q5 := Keeps.cell hw' y1 trivial; have q6 := Keeps.cell hw' y2 trivial)
                    go_simp
                    first | exact rfl | (fail)
                  go_simp
                  refine hK _ ?_; clear hK K))
          apply wpQuiet_nil
          intro w1 k1
          have HK1 := hide (HK.out.tr k1)
          clear k1 x0 x1 x2 y0 y1 y2
          go_wp2_with fail
          exact HR.out _ _ (ret_bool (by rw [HF.out])) HK1.out
      · have HK := hide hK
        clear hK
        have HE : Hid (decide (a = b) = true) := hide (decide_eq_true (by
          have := ht.out
          have hl' := HL.out
          rwa [List.take_of_length_le (by omega), List.take_of_length_le (by omega)] at this))
        clear ht
        go_wp2_with fail
        exact HR.out _ _ (ret_bool (by rw [HE.out])) HK.out
  · have hne : (((a.length : Nat) : Int) != ((b.length : Nat) : Int)) = true := by rw [bne_iff_ne]; intro e; exact hl (by exact_mod_cast e)
    have HF := hide (show decide (a = b) = false from decide_eq_false (fun e => hl (by rw [e])))
    clear hl
    go_enter Try.func11, Try.ntmps11
    go_wp2_with fail
    exact HR.out _ _ (ret_bool (by rw [HF.out])) (Keeps.refl _ _)

end Go.Proofs.Ytbmpnfibebiaeaa
