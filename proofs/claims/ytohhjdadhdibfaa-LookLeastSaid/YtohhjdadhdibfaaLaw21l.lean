/- The walk of LookLeast. -/
import Derived.Test.YtohhjdadhdibfaaKnown21
namespace Go.Proofs.Ytohhjdadhdibfaa
open Go.RowKit

attribute [local irreducible] wpQuiet wpPlan wpPlanZ wpUp

variable {A : Au}

theorem word_in (A : Au) (l : List Int) : (∀ c ∈ l, 0 ≤ c ∧ c < ((2 ^ A.T.toNat : Nat) : Int)) ∨ runA A l = -1 := by
  induction l using snoc_ind with
  | h0 => exact .inl (by simp)
  | h1 l x ih =>
    have e1 : runA A (l ++ [x]) = stepA A (runA A l) x := by simp [runA, List.foldl_append]
    rcases ih with ih | ih
    · by_cases hx : 0 ≤ x ∧ x < ((2 ^ A.T.toNat : Nat) : Int)
      · left
        intro c hc
        rcases List.mem_append.1 hc with hc | hc
        · exact ih c hc
        · simp at hc; subst hc; exact hx
      · right
        rw [e1]
        unfold stepA
        rw [if_neg]
        rintro ⟨_, h1, h2⟩
        exact hx ⟨h1, by rw [Int.natCast_pow]; exact h2⟩
    · right
      rw [e1, ih]
      exact step_none A (by decide) x

theorem acc_word (h : AuOk A) {l : List Int} (ha : accA A (runA A l) = true) : (∀ c ∈ l, 0 ≤ c ∧ c < ((2 ^ A.T.toNat : Nat) : Int)) ∧ InR A (l.map Int.toNat) ∧ ac A (runN A 0 (l.map Int.toNat)) = true := by
  rcases word_in A l with hl | hl
  · rw [runA_run h l hl, accA_ac (runN_lt h _ h.1.2.2.1)] at ha
    refine ⟨hl, fun c hc => ?_, ha⟩
    obtain ⟨x, hx, rfl⟩ := List.mem_map.1 hc
    have := hl x hx
    omega
  · rw [hl] at ha
    simp [accA, inA] at ha

theorem nat_word {u : List Nat} : (u.map Int.ofNat).map Int.toNat = u := by
  rw [List.map_map]
  conv => rhs; rw [← List.map_id u]
  exact List.map_congr_left fun x _ => by simp

theorem word_acc (h : AuOk A) {u : List Nat} (hu : InR A u) (ha : ac A (runN A 0 u) = true) : accA A (runA A (u.map Int.ofNat)) = true := by
  rw [runA_run h _ fun c hc => by
    obtain ⟨x, hx, rfl⟩ := List.mem_map.1 hc
    have := hu x hx
    simp only [Int.ofNat_eq_natCast]
    omega, nat_word, accA_ac (runN_lt h _ h.1.2.2.1)]
  exact ha

/-- Where both begin alike, the lesser word's next letter is not more. -/
theorem llt_at : ∀ {u v : List Nat} {k : Nat}, (llt u v ∨ u = v) → (∀ j, j < k → v[j]? = u[j]?) → ∀ x y, v[k]? = some x → u[k]? = some y → y ≤ x
  | u, v, k, .inr e, _, x, y, hx, hy => by subst e; rw [hx] at hy; exact Nat.le_of_eq (Option.some.inj hy).symm
  | [], _, _, .inl h, _, _, _, _, _ => by cases h
  | _ :: _, [], _, .inl h, _, _, _, _, _ => by cases h
  | a :: u, b :: v, 0, .inl h, _, x, y, hx, hy => by
    simp at hx hy; subst hx; subst hy
    rcases h with h | h
    · exact Nat.le_of_lt h
    · exact Nat.le_of_eq h.1
  | a :: u, b :: v, k + 1, .inl h, hj, x, y, hx, hy => by
    have h0 := hj 0 (Nat.succ_pos _)
    simp at h0; subst h0
    rcases h with h | h
    · exact absurd h (Nat.lt_irrefl _)
    · exact llt_at (k := k) (.inl h.2) (fun j hjk => by simpa using hj (j + 1) (Nat.succ_lt_succ hjk)) x y (by simpa using hx) (by simpa using hy)

theorem least_at (h : AuOk A) {K : Nat} (hd : Dst A K 0) {l : List Int} (ha : accA A (runA A l) = true) : K ≤ l.length ∧ (l.length = K → ∀ k : Nat, (∀ j : Nat, j < k → l[j]? = ((greedy A K 0).map Int.ofNat)[j]?) → ∀ x y : Int, l[k]? = some x → ((greedy A K 0).map Int.ofNat)[k]? = some y → y ≤ x) := by
  obtain ⟨h1, h2, h3⟩ := acc_word h ha
  obtain ⟨_, g2, _, g4⟩ := greedy_spec h hd
  have hcan := can_run _ 0 h2 h3
  rw [List.length_map] at hcan
  refine ⟨?_, fun hl k hj x y hx hy => ?_⟩
  · apply Classical.byContradiction
    intro hno
    exact hd.2 l.length (by omega) hcan
  · have h5 := g4 _ h2 (by rw [List.length_map]; exact hl) h3
    have hx0 := h1 x (List.mem_of_getElem? hx)
    rw [List.getElem?_map, Option.map_eq_some_iff] at hy
    obtain ⟨y', hy', rfl⟩ := hy
    have := llt_at h5 (k := k) (fun j hjk => by
      have e := hj j hjk
      rw [List.getElem?_map, e, List.getElem?_map, Option.map_map]
      cases (greedy A K 0)[j]? <;> simp) x.toNat y' (by rw [List.getElem?_map, hx]; rfl) hy'
    simp only [Int.ofNat_eq_natCast]
    omega

set_option maxRecDepth 10000 in
set_option maxHeartbeats 4000000 in
theorem lookLeastWalk (va : Value) (A : Au) (vl : Value) (l : List Int) (w : World) (hA : AutoAt w va A) (hl : IntsAt w vl l) :
    Calls Try.prog 10 #[va, vl] w fun e w' => e = .returned (.bool true) ∧ Below w.heap.size w w' := by
  refine law_of fun R HR => ?_
  have HA := hide hA
  have HL := hide hl
  obtain ⟨xa, xn, rfl, hacc, hnext, _⟩ := hA
  obtain ⟨aa, ac', rfl, _, hac2, _⟩ := hacc.open
  obtain ⟨na, nc, rfl, _⟩ := hnext.open
  obtain ⟨la, lc, rfl, hlc1, hlc2, hlcell⟩ := hl.open
  have HLC := hide hlcell
  unfold maxLen at hlc2 hac2
  have hA1 := heap_new w (.cells #[.int .i64 A.T, .slice aa A.acc.length ac', .slice na A.next.length nc] 25)
  have kA : Same w (w.alloc (.cells #[.int .i64 A.T, .slice aa A.acc.length ac', .slice na A.next.length nc] 25)) := (Keeps.refl _ w).alloc _
  clear hl hlcell
  go_enter Try.func10, Try.ntmps10
  go_wp2_with fail
  generalize w.alloc (.cells #[.int .i64 A.T, .slice aa A.acc.length ac', .slice na A.next.length nc] 25) = wb at hA1 kA ⊢
  have BXA := hide hA1
  have HKB := hide kA
  generalize w.heap.size = xb at hA1 BXA ⊢
  clear hA1 kA hacc hnext
  refine may21 (HA.out.same HKB.out) ?_; rintro e w1 rfl k1
  cases hmA : mayB A with
  | false =>
    go_wp2_with fail
    exact HR.out _ _ rfl ((HKB.out.tr k1).mono fun _ _ _ => trivial)
  | true =>
  have HOK := hide (show AuOk A by unfold mayB at hmA; exact (of_decide_eq_true hmA).2.2)
  have hS := k1.at BXA.out trivial
  have HK1 := hide (HKB.out.tr k1)
  have q0 := cell_at hS 0; have q1 := cell_at hS 1; have q2 := cell_at hS 2; simp only [List.getElem?_toArray, List.getElem?_cons_zero, List.getElem?_cons_succ] at q0 q1 q2
  have BX1 := hide hS
  clear hmA hS k1
  by_cases hlen : 100 < l.length
  · go_wp2_with fail
    exact HR.out _ _ rfl (HK1.out.mono fun _ _ _ => trivial)
  go_wp2_with fail
  refine of21 (HA.out.same HK1.out) HOK.out ?_; rintro e w2 d2 rfl dd2 k2
  have HD2 := hide dd2
  have HK2 := hide (HK1.out.tr k2)
  have BX2 := hide (k2.at BX1.out trivial)
  clear dd2 k2 q0 q1 q2
  go_wp2_with fail
  by_cases hex : ∃ K, Dst A K 0
  · obtain ⟨K, hd⟩ := hex
    have HDS := hide hd
    have HGR := hide (greedy_spec HOK.out hd)
    have HLE := hide (fun ha => least_at HOK.out hd (l := l) ha)
    have HKN := hide (hd.lt HOK.out HOK.out.1.2.2.1)
    clear hd
    refine lookShortest HD2.out HDS.out ?_; rintro e w3 vw rfl hi3 k3
    obtain ⟨wa, wc, rfl, hwc1, hwc2, hwcell⟩ := hi3.open
    have HI3 := hide hi3
    have HWC := hide hwcell
    rw [List.length_map, HGR.out.2.1] at HI3 hwc1 ⊢
    unfold maxLen at hwc2
    have HK3 := hide (HK2.out.tr k3)
    have hS := k3.at BX2.out trivial
    have BX3 := hide hS
    have q0 := cell_at hS 0; have q1 := cell_at hS 1; have q2 := cell_at hS 2; simp only [List.getElem?_toArray, List.getElem?_cons_zero, List.getElem?_cons_succ] at q0 q1 q2
    clear hi3 hwcell k3 hS
    go_wp2_with fail
    refine refRun (HA.out.same HK3.out) HOK.out (HL.out.same HK3.out) ?_; rintro e w4 rfl k4
    have HK4 := hide (HK3.out.tr k4)
    have HI4 := hide (HI3.out.same k4)
    have hS := k4.at BX3.out trivial
    have BX4 := hide hS
    have HW34 := hide k4
    clear q0 q1 q2 k4
    have q0 := cell_at hS 0; have q1 := cell_at hS 1; have q2 := cell_at hS 2; simp only [List.getElem?_toArray, List.getElem?_cons_zero, List.getElem?_cons_succ] at q0 q1 q2
    clear hS
    have HIS := hide (word_acc HOK.out HGR.out.1 HGR.out.2.2.1)
    generalize hac : accA A (runA A l) = ac at HLE ⊢
    generalize runA A l = r1 at HLE hac ⊢
    clear hac
    go_wp2_with fail
    refine refRun (HA.out.same HK4.out) HOK.out HI4.out ?_; rintro e w5 he k5
    rw [HIS.out] at he
    subst he
    generalize runA A ((greedy A K 0).map Int.ofNat) = r2
    have HK5 := hide (HK4.out.tr k5)
    have hS := k5.at BX4.out trivial
    have HW35 := hide (HW34.out.tr k5)
    clear q0 q1 q2 k5
    have q1 := cell_at hS 1; simp only [List.getElem?_toArray, List.getElem?_cons_zero, List.getElem?_cons_succ] at q1
    clear hS
    have hkn := HKN.out
    cases ac with
    | false =>
      go_wp2_with fail
      refine known21 ?_; rintro e w6 rfl k6
      have HK6 := hide (HK5.out.tr k6)
      clear k6
      go_wp2_with fail
      exact HR.out _ _ rfl (HK6.out.mono fun _ _ _ => trivial)
    | true =>
      have HLE2 := hide (HLE.out rfl)
      have hkl := HLE2.out.1
      by_cases hlk : l.length = K
      · have HAT := hide (HLE2.out.2 hlk)
        have HLK := hide hlk
        clear hkl
        go_wp2_with fail
        go_simp
        go_loopw [11] (fun i wr => ∃ k : Nat, i = .int .i64 k ∧ k ≤ K ∧ Hid (∀ j : Nat, j < k → l[j]? = ((greedy A K 0).map Int.ofNat)[j]?) ∧ Same w5 wr) (fun i _ => K - (intOf i).toNat)
        case atStart => exact ⟨0, rfl, Nat.zero_le _, hide (fun j hj => absurd hj (Nat.not_lt_zero _)), Keeps.refl _ _⟩
        case round =>
          obtain ⟨k, rfl, hk, hpre, hK⟩ := hrel
          have HKW := hide (HK5.out.tr hK)
          by_cases hlt : k < K
          · have hkl : k < l.length := by rw [HLK.out]; exact hlt
            have hkw : k < ((greedy A K 0).map Int.ofNat).length := by rw [List.length_map, HGR.out.2.1]; exact hlt
            obtain ⟨lb, loff, rfl, _, hcl⟩ := HLC.out k hkl
            obtain ⟨wb2, woff, rfl, _, hcw⟩ := HWC.out k hkw
            have z1 := Keeps.cell HKW.out (hcl k hkl) trivial
            have z2 := Keeps.cell (HW35.out.tr hK) (hcw k hkw) trivial
            have hyx := HAT.out k hpre.out _ _ (List.getElem?_eq_getElem hkl) (List.getElem?_eq_getElem hkw)
            have HX := hide (List.getElem?_eq_getElem hkl)
            have HY := hide (List.getElem?_eq_getElem hkw)
            generalize l[k] = x at z1 hyx HX
            generalize ((greedy A K 0).map Int.ofNat)[k] = y at z2 hyx HY
            have HKK := hide hK
            clear hcl hcw hK
            by_cases hxy : x = y
            · subst hxy
              clear hyx
              go_wp2_with fail
              refine wp_region_same (by kernel_rfl) (by kernel_rfl) ?_
              iterate 15
                (apply wpQuiet_step
                 intro K hK
                 first
                   | (apply quiet_skip
                      case hw => rfl
                      go_simp
                      refine hK _ ?_; clear hK K)
                   | (apply quiet_do
                      case hw => rfl
                      case h =>
                        intro w' hw'
                        (have y1 := Keeps.cell hw' z1 trivial; have y2 := Keeps.cell hw' z2 trivial)
                        go_simp
                        first | exact rfl | (fail)
                      go_simp
                      refine hK _ ?_; clear hK K))
              apply wpQuiet_nil
              intro w6 k6
              have z3 := Keeps.cell k6 z1 trivial
              have z4 := Keeps.cell k6 z2 trivial
              go_wp2_with fail
              refine wp_region_same (by kernel_rfl) (by kernel_rfl) ?_
              iterate 9
                (apply wpQuiet_step
                 intro K hK
                 first
                   | (apply quiet_skip
                      case hw => rfl
                      go_simp
                      refine hK _ ?_; clear hK K)
                   | (apply quiet_do
                      case hw => rfl
                      case h =>
                        intro w' hw'
                        (have y1 := Keeps.cell hw' z3 trivial; have y2 := Keeps.cell hw' z4 trivial)
                        go_simp
                        first | exact rfl | (fail)
                      go_simp
                      refine hK _ ?_; clear hK K))
              apply wpQuiet_nil
              intro w7 k7
              have HK7 := hide ((HKK.out.tr k6).tr k7)
              clear z1 z2 z3 z4 k6 k7
              go_wp2_with fail
              go_roundw
              case rel => exact ⟨k + 1, by go_num, by omega, hide (fun j hj => by
                rcases Nat.lt_or_eq_of_le (Nat.le_of_lt_succ hj) with e | e
                · exact hpre.out j e
                · subst e; rw [HX.out, HY.out]), HK7.out⟩
              case measure => simp [intOf]; omega
            · have hno : decide (x ≤ y) = false := by simp; omega
              clear hxy hyx
              go_wp2_with fail
              refine wp_region_same (by kernel_rfl) (by kernel_rfl) ?_
              iterate 15
                (apply wpQuiet_step
                 intro K hK
                 first
                   | (apply quiet_skip
                      case hw => rfl
                      go_simp
                      refine hK _ ?_; clear hK K)
                   | (apply quiet_do
                      case hw => rfl
                      case h =>
                        intro w' hw'
                        (have y1 := Keeps.cell hw' z1 trivial; have y2 := Keeps.cell hw' z2 trivial)
                        go_simp
                        first | exact rfl | (fail)
                      go_simp
                      refine hK _ ?_; clear hK K))
              apply wpQuiet_nil
              intro w6 k6
              have HK6 := hide (HKW.out.tr k6)
              clear z1 z2 k6
              go_wp2_with fail
              refine known21 ?_; rintro e w7 rfl k7
              have HK7 := hide (HK6.out.tr k7)
              clear k7
              go_wp2_with fail
              exact HR.out _ _ rfl (HK7.out.mono fun _ _ _ => trivial)
          · obtain rfl : K = k := by omega
            clear hK hpre
            cases la <;> cases wa
            all_goals
              go_wp2_with fail
              refine wp_region_same (by kernel_rfl) (by kernel_rfl) ?_
              iterate 15
                (apply wpQuiet_step
                 intro K hK
                 first
                   | (apply quiet_skip
                      case hw => rfl
                      go_simp
                      refine hK _ ?_; clear hK K)
                   | (apply quiet_do
                      case hw => rfl
                      case h =>
                        intro w' hw'
                        (skip)
                        go_simp
                        first | exact rfl | (fail)
                      go_simp
                      refine hK _ ?_; clear hK K))
              apply wpQuiet_nil
              intro w6 k6
              have HK6 := hide (HKW.out.tr k6)
              clear k6
              go_wp2_with fail
              refine known21 ?_; rintro e w7 rfl k7
              have HK7 := hide (HK6.out.tr k7)
              clear k7
              go_wp2_with fail
              exact HR.out _ _ rfl (HK7.out.mono fun _ _ _ => trivial)
      · go_wp2_with fail
        refine known21 ?_; rintro e w6 rfl k6
        have HK6 := hide (HK5.out.tr k6)
        clear k6
        go_wp2_with fail
        exact HR.out _ _ rfl (HK6.out.mono fun _ _ _ => trivial)
  · have HNO : Hid (accA A (runA A l) = false) := hide (by
      rw [Bool.eq_false_iff]
      intro ha
      obtain ⟨_, h2, h3⟩ := acc_word HOK.out ha
      exact hex (Dst.of_can (can_run _ 0 h2 h3)))
    have HEX := hide hex
    clear hex
    refine lookShortestNot HD2.out HEX.out ?_; rintro e w3 rfl k3
    have HK3 := hide (HK2.out.tr k3)
    have hS := k3.at BX2.out trivial
    have q0 := cell_at hS 0; have q1 := cell_at hS 1; have q2 := cell_at hS 2; simp only [List.getElem?_toArray, List.getElem?_cons_zero, List.getElem?_cons_succ] at q0 q1 q2
    clear k3 hS
    go_wp2_with fail
    refine refRun (HA.out.same HK3.out) HOK.out (HL.out.same HK3.out) ?_; rintro e w4 he k4
    rw [HNO.out] at he
    subst he
    generalize runA A l = r1
    have HK4 := hide (HK3.out.tr k4)
    clear q0 q1 q2 k4
    go_wp2_with fail
    refine known21 ?_; rintro e w6 rfl k6
    have HK6 := hide (HK4.out.tr k6)
    clear k6
    go_wp2_with fail
    exact HR.out _ _ rfl (HK6.out.mono fun _ _ _ => trivial)

end Go.Proofs.Ytohhjdadhdibfaa
