/- The walks of slices.Equal, model.same, slices.EqualFunc over values, model.Same. -/
import Derived.Test.YtbmpnfibebiaeaaVals
import Derived.Lib.SlicesS
namespace Go.Proofs.Ytbmpnfibebiaeaa
open Go.RowKit

attribute [local irreducible] wpQuiet wpPlan wpPlanZ wpUp

variable {R : Ending → World → Prop} {w : World}

theorem list_same {a b : List Int} {k : Nat} (hlen : a.length = b.length) (h : ∀ i, i < k → a.getD i 0 = b.getD i 0) (hk : a.length ≤ k) : a = b := by
  apply List.ext_getElem hlen
  intro i h1 h2
  have := h i (by omega)
  simpa [List.getD, List.getElem?_eq_getElem h1, List.getElem?_eq_getElem h2] using this

set_option maxHeartbeats 1000000 in
theorem slicesEqual {v u : Value} {a b : List Int} (hv : IntsAt w v a) (hu : IntsAt w u b) (hR : ∀ e w', e = .returned (.bool (decide (a = b))) → Same w w' → R e w') :
    Calls Try.prog 43 #[v, u] w R := by
  have HR := hide hR
  clear hR
  obtain ⟨va, vc, rfl, _, hc2, hcell⟩ := hv.open
  obtain ⟨ua, uc, rfl, _, hd2, hdell⟩ := hu.open
  have HC := hide hcell
  have HD := hide hdell
  unfold maxLen at hc2 hd2
  clear hcell hdell hv hu
  by_cases hl : a.length = b.length
  · have hne : (((a.length : Nat) : Int) != ((b.length : Nat) : Int)) = false := by rw [hl]; simp
    have HL := hide hl
    clear hl
    go_enter Try.func43, Try.ntmps43
    go_wp2_with fail
    go_loopw [5, 13] (fun _ i wr => ∃ k : Nat, i = .int .i64 k ∧ k ≤ a.length ∧ Hid (∀ i, i < k → a.getD i 0 = b.getD i 0) ∧ Same w wr) (fun _ i _ => a.length - (intOf i).toNat)
    case atStart => exact ⟨0, rfl, Nat.zero_le _, hide (fun i hi => absurd hi (Nat.not_lt_zero _)), Keeps.refl _ _⟩
    case round =>
      obtain ⟨k, rfl, hk, heq, hK⟩ := hrel
      by_cases hlt : k < a.length
      · have hlt2 : k < b.length := by rw [← HL.out]; exact hlt
        obtain ⟨p, off, rfl, _, hcl⟩ := HC.out k hlt
        obtain ⟨q, off2, rfl, _, hdl⟩ := HD.out k hlt2
        have z1 := Keeps.cell hK (hcl k hlt) trivial
        have z2 := Keeps.cell hK (hdl k hlt2) trivial
        have HX := hide (And.intro (show a.getD k 0 = a[k] by simp [List.getD, List.getElem?_eq_getElem hlt]) (show b.getD k 0 = b[k] by simp [List.getD, List.getElem?_eq_getElem hlt2]))
        generalize a[k] = x at z1 HX
        generalize b[k] = y at z2 HX
        have HK := hide hK
        clear hcl hdl hK
        by_cases hxy : x = y
        · subst hxy
          go_wp2_with fail
          refine wp_region_same (by kernel_rfl) (by kernel_rfl) ?_
          iterate 9
            (apply wpQuiet_step
             intro K hK
             first
               | (apply quiet_skip
                  case hw => rfl
                  go_simp
                  refine hK _ ?_; clear hK K)
               | (apply quiet_do
                  case hw => rfl
                  case h =>
                    intro w' hw'
                    (have y1 := Keeps.cell hw' z1 trivial; have y2 := Keeps.cell hw' z2 trivial)
                    go_simp
                    first | exact rfl | (fail)
                  go_simp
                  refine hK _ ?_; clear hK K))
          apply wpQuiet_nil
          intro w1 k1
          have HK1 := hide (HK.out.tr k1)
          clear z1 z2 k1
          go_wp2_with fail
          go_roundw
          case rel =>
            refine ⟨k + 1, by go_num, by omega, hide (fun i hi => ?_), HK1.out⟩
            by_cases e : i = k
            · subst e; rw [HX.out.1, HX.out.2]
            · exact heq.out i (by omega)
          case measure => simp [intOf]; omega
        · have HN : Hid (decide (a = b) = false) := hide (decide_eq_false fun e => by
            subst e; exact hxy (HX.out.1.symm.trans HX.out.2))
          have hb : (x != y) = true := by simpa using hxy
          clear hxy
          go_wp2_with fail
          refine wp_region_same (by kernel_rfl) (by kernel_rfl) ?_
          iterate 9
            (apply wpQuiet_step
             intro K hK
             first
               | (apply quiet_skip
                  case hw => rfl
                  go_simp
                  refine hK _ ?_; clear hK K)
               | (apply quiet_do
                  case hw => rfl
                  case h =>
                    intro w' hw'
                    (have y1 := Keeps.cell hw' z1 trivial; have y2 := Keeps.cell hw' z2 trivial)
                    go_simp
                    first | exact rfl | (fail)
                  go_simp
                  refine hK _ ?_; clear hK K))
          apply wpQuiet_nil
          intro w1 k1
          have HK1 := hide (HK.out.tr k1)
          clear z1 z2 k1
          go_wp2_with fail
          exact HR.out _ _ (ret_bool HN.out.symm) HK1.out
      · have HE : Hid (decide (a = b) = true) := hide (decide_eq_true (list_same HL.out heq.out (by omega)))
        have HK := hide hK
        clear heq hK
        go_wp2_with fail
        exact HR.out _ _ (ret_bool HE.out.symm) HK.out
  · have hne : (((a.length : Nat) : Int) != ((b.length : Nat) : Int)) = true := by rw [bne_iff_ne]; omega
    have HN : Hid (decide (a = b) = false) := hide (decide_eq_false fun e => hl (by rw [e]))
    clear hl
    go_enter Try.func43, Try.ntmps43
    go_wp2_with fail
    exact HR.out _ _ (ret_bool HN.out.symm) (Keeps.refl _ _)

set_option maxRecDepth 10000 in
set_option maxHeartbeats 1000000 in
theorem modelSame1 {nm nm2 : ByteArray} {od od2 : Int} {v u : Value} {a b : List Int} (hv : IntsAt w v a) (hu : IntsAt w u b) (hR : ∀ e w', e = .returned (.bool (decide ((⟨nm, od, a⟩ : Vl) = ⟨nm2, od2, b⟩))) → Same w w' → R e w') :
    Calls Try.prog 28 #[.agg #[.string nm, .int .i64 od, v], .agg #[.string nm2, .int .i64 od2, u]] w R := by
  have HR := hide hR
  clear hR
  have HV := hide hv
  have HU := hide hu
  obtain ⟨va, vc, rfl, _, hc2, _⟩ := hv.open
  obtain ⟨ua, uc, rfl, _, hd2, _⟩ := hu.open
  unfold maxLen at hc2 hd2
  have hk1 : Same w ((w.alloc (.cells #[.string nm, .int .i64 od, .slice va a.length vc] 39)).alloc (.cells #[.string nm2, .int .i64 od2, .slice ua b.length uc] 39)) := ((Keeps.refl _ w).alloc _).alloc _
  have HK := hide hk1
  clear hv hu hk1
  by_cases e0 : nm = nm2
  · subst e0
    by_cases e1 : od = od2
    · subst e1
      have HD : Hid (decide ((⟨nm, od, a⟩ : Vl) = ⟨nm, od, b⟩) = decide (a = b)) := hide (by simp)
      go_enter Try.func28, Try.ntmps28
      go_wp2_with fail
      refine slicesEqual (HV.out.same HK.out) (HU.out.same HK.out) ?_; rintro e w1 rfl k1
      have HK1 := hide (HK.out.tr k1)
      clear k1
      go_wp2_with fail
      exact HR.out _ _ (ret_bool HD.out.symm) HK1.out
    · have HF : Hid (decide ((⟨nm, od, a⟩ : Vl) = ⟨nm, od2, b⟩) = false) := hide (decide_eq_false (by simp [e1]))
      have hb1 : (od == od2) = false := by rw [beq_eq_false_iff_ne]; exact e1
      go_enter Try.func28, Try.ntmps28
      go_wp2_with fail
      exact HR.out _ _ (ret_bool HF.out.symm) HK.out
  · have HF : Hid (decide ((⟨nm, od, a⟩ : Vl) = ⟨nm2, od2, b⟩) = false) := hide (decide_eq_false (by simp [e0]))
    have hb0 : (nm.toList == nm2.toList) = false := (Go.Lib.bytes_beq_false_iff _ _).2 e0
    go_enter Try.func28, Try.ntmps28
    go_wp2_with fail
    exact HR.out _ _ (ret_bool HF.out.symm) HK.out

theorem callFunc_modsame (args : Array Value) (w : World) : (callFunc 28 args).run Try.prog w = .ok (.enter 28 args) w := by kernel_rfl

set_option maxRecDepth 10000 in
set_option maxHeartbeats 1000000 in
theorem equalFuncV {v u : Value} {a b : List Vl} (hv : ValsAt w v a) (hu : ValsAt w u b) (hR : ∀ e w', e = .returned (.bool (decide (a = b))) → Same w w' → R e w') :
    Calls Try.prog 27 #[v, u, .func (.func 28) #[] #[]] w R := by
  have hcf := callFunc_modsame
  have HR := hide hR
  clear hR
  obtain ⟨va, vc, vus, rfl, hc1, hc2, hvl, hvi, hcell⟩ := hv.open
  obtain ⟨ua, uc, uus, rfl, hd1, hd2, hul, hui, hdell⟩ := hu.open
  have HC := hide hcell
  have HD := hide hdell
  have HVL := hide hvl
  have HUL := hide hul
  have HVI := hide hvi
  have HUI := hide hui
  clear hcell hdell hv hu hvl hul hvi hui
  unfold maxLen at hc2 hd2
  by_cases hl : a.length = b.length
  · have hne : (((a.length : Nat) : Int) != ((b.length : Nat) : Int)) = false := by rw [hl]; simp
    have HL := hide hl
    clear hl
    go_enter Try.func27, Try.ntmps27
    go_wp2_with fail
    go_loopw [7, 8, 9, 17] (fun _ _ _ i wr => ∃ k : Nat, i = .int .i64 k ∧ k ≤ a.length ∧ Hid (a.take k = b.take k) ∧ Same w wr) (fun _ _ _ i _ => a.length - (intOf i).toNat)
    case atStart => exact ⟨0, rfl, Nat.zero_le _, hide rfl, Keeps.refl _ _⟩
    case round =>
      obtain ⟨k, rfl, hk, ht, hK⟩ := hrel
      by_cases hlt : k < a.length
      · have hlt' : k < b.length := by rw [← HL.out]; exact hlt
        obtain ⟨bl, off, rfl, hbl, hcl⟩ := HC.out k hlt
        obtain ⟨bl2, off2, rfl, hbl2, hcl2⟩ := HD.out k hlt'
        obtain ⟨s1, hs1⟩ : ∃ y, vus[k]? = some y := ⟨_, List.getElem?_eq_getElem (show k < vus.length by rw [HVL.out]; exact hlt)⟩
        obtain ⟨s2, hs2⟩ : ∃ y, uus[k]? = some y := ⟨_, List.getElem?_eq_getElem (show k < uus.length by rw [HUL.out]; exact hlt')⟩
        obtain ⟨x0, x1, x2⟩ := hcl k _ _ hs1 (List.getElem?_eq_getElem hlt)
        obtain ⟨y0, y1, y2⟩ := hcl2 k _ _ hs2 (List.getElem?_eq_getElem hlt')
        have hxi := (HVI.out k _ _ hs1 (List.getElem?_eq_getElem hlt)).1.same hK
        have hyi := (HUI.out k _ _ hs2 (List.getElem?_eq_getElem hlt')).1.same hK
        have x0 := Keeps.cell hK x0 trivial
        have x1 := Keeps.cell hK x1 trivial
        have x2 := Keeps.cell hK x2 trivial
        have h1 : a.take (k + 1) = a.take k ++ [a[k]] := List.take_succ_eq_append_getElem hlt
        have h2 : b.take (k + 1) = b.take k ++ [b[k]] := List.take_succ_eq_append_getElem hlt'
        have h3 : a[k] ≠ b[k] → a ≠ b := by rintro h rfl; exact h rfl
        have y0 := Keeps.cell hK y0 trivial
        have y1 := Keeps.cell hK y1 trivial
        have y2 := Keeps.cell hK y2 trivial
        have HX := hide hxi
        have HY := hide hyi
        obtain ⟨sa1, sc1, rfl, _⟩ := hxi.open
        obtain ⟨sa2, sc2, rfl, _⟩ := hyi.open
        clear hcl hcl2 hs1 hs2 hxi hyi
        generalize a[k] = p at HX h1 h3 x0 x1 x2
        generalize b[k] = q at HY h2 h3 y0 y1 y2
        have H1 := hide (And.intro h1 (And.intro h2 h3))
        clear h1 h2 h3
        obtain ⟨nm, od, st⟩ := p
        obtain ⟨nm2, od2, st2⟩ := q
        simp only at x0 x1 x2 y0 y1 y2 HX HY
        have ka : Same wr (wr.alloc (.cells #[.string nm, .int .i64 od, .slice sa1 st.length sc1] 39)) := (Keeps.refl _ wr).alloc _
        have y0 := Keeps.cell ka y0 trivial
        have y1 := Keeps.cell ka y1 trivial
        have y2 := Keeps.cell ka y2 trivial
        have HKB := hide (ka.alloc (.cells #[.string nm2, .int .i64 od2, .slice sa2 st2.length sc2] 39))
        have HK := hide hK
        clear hK ka
        go_wp2_with fail
        refine modelSame1 (HX.out.same HKB.out) (HY.out.same HKB.out) ?_; rintro e w1 rfl k1
        have HK1 := hide ((HK.out.tr HKB.out).tr k1)
        clear x0 x1 x2 y0 y1 y2 k1
        by_cases hpq : (⟨nm, od, st⟩ : Vl) = ⟨nm2, od2, st2⟩
        · rw [decide_eq_true hpq]
          rw [← hpq] at H1
          clear hpq
          go_wp2_with fail
          go_roundw
          case rel => exact ⟨k + 1, by go_num, by omega, hide (by rw [H1.out.1, H1.out.2.1, ht.out]), HK1.out⟩
          case measure => simp [intOf]; omega
        · have HF : Hid (decide (a = b) = false) := hide (decide_eq_false (H1.out.2.2 hpq))
          rw [decide_eq_false hpq]
          clear hpq
          go_wp2_with fail
          exact HR.out _ _ (ret_bool HF.out.symm) HK1.out
      · have HK := hide hK
        clear hK
        have HE : Hid (decide (a = b) = true) := hide (decide_eq_true (by
          have := ht.out
          have hl' := HL.out
          rwa [List.take_of_length_le (by omega), List.take_of_length_le (by omega)] at this))
        clear ht
        go_wp2_with fail
        exact HR.out _ _ (ret_bool HE.out.symm) HK.out
  · have hne : (((a.length : Nat) : Int) != ((b.length : Nat) : Int)) = true := by rw [bne_iff_ne]; omega
    have HN : Hid (decide (a = b) = false) := hide (decide_eq_false fun e => hl (by rw [e]))
    clear hl
    go_enter Try.func27, Try.ntmps27
    go_wp2_with fail
    exact HR.out _ _ (ret_bool HN.out.symm) (Keeps.refl _ _)

theorem modelSame {v u : Value} {a b : List Vl} (hv : ValsAt w v a) (hu : ValsAt w u b) (hR : ∀ e w', e = .returned (.bool (decide (a = b))) → Same w w' → R e w') :
    Calls Try.prog 13 #[v, u] w R := by
  have HR := hide hR
  clear hR
  have HV := hide hv
  have HU := hide hu
  obtain ⟨va, vc, _, rfl, _⟩ := hv.open
  obtain ⟨ua, uc, _, rfl, _⟩ := hu.open
  clear hv hu
  go_enter Try.func13, Try.ntmps13
  go_wp2_with fail
  refine equalFuncV HV.out HU.out ?_; rintro e w1 rfl k1
  have HK1 := hide k1
  clear k1
  go_wp2_with fail
  exact HR.out _ _ rfl HK1.out

end Go.Proofs.Ytbmpnfibebiaeaa
