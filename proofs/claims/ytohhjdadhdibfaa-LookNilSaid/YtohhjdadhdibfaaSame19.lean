/- The walk of sibylref19.Same, over two automata that are one. -/
import Derived.Test.YtohhjdadhdibfaaAuto
import Derived.Test.YtohhjdadhdibfaaSame
namespace Go.Proofs.Ytohhjdadhdibfaa
open Go.RowKit

attribute [local irreducible] wpQuiet

variable {R : Ending → World → Prop} {w : World} {A : Au}

set_option maxRecDepth 10000 in
set_option maxHeartbeats 4000000 in
theorem refSameA {v u : Value} (hA : AutoAt w v A) (hB : AutoAt w u A) (hR : ∀ e w', e = .returned (.bool true) → Same w w' → R e w') :
    Calls Try.prog 18 #[v, u] w R := by
  have HR := hide hR
  clear hR
  obtain ⟨va, vn, rfl, hacc, hnext, hT⟩ := hA
  obtain ⟨ua, un, rfl, hacc2, hnext2, _⟩ := hB
  obtain ⟨aa, ac, rfl, hc1, hc2, hacell⟩ := hacc.open
  obtain ⟨na, nc, rfl, hd1, hd2, hcell⟩ := hnext.open
  obtain ⟨ba, bc, rfl, he1, he2, hbcell⟩ := hacc2.open
  obtain ⟨ma, mc, rfl, hf1, hf2, hmcell⟩ := hnext2.open
  unfold maxLen at hc2 hd2 he2 hf2
  have HAC := hide hacell
  have HBC := hide hbcell
  have HC := hide hcell
  have HM := hide hmcell
  have h1 := heap_new w (.cells #[.int .i64 A.T, .slice aa A.acc.length ac, .slice na A.next.length nc] 25)
  have e1 : (w.alloc (.cells #[.int .i64 A.T, .slice aa A.acc.length ac, .slice na A.next.length nc] 25)).heap.size = w.heap.size + 1 := by simp
  have k1 : Same w (w.alloc (.cells #[.int .i64 A.T, .slice aa A.acc.length ac, .slice na A.next.length nc] 25)) := (Keeps.refl _ w).alloc _
  have h2 := heap_new (w.alloc (.cells #[.int .i64 A.T, .slice aa A.acc.length ac, .slice na A.next.length nc] 25)) (.cells #[.int .i64 A.T, .slice ba A.acc.length bc, .slice ma A.next.length mc] 25)
  rw [e1] at h2
  have h3 := heap_old h1 (.cells #[.int .i64 A.T, .slice ba A.acc.length bc, .slice ma A.next.length mc] 25)
  have k2 := k1.alloc (.cells #[.int .i64 A.T, .slice ba A.acc.length bc, .slice ma A.next.length mc] 25)
  have c0 := cell_at h3 0
  have c1 := cell_at h3 1
  have c2 := cell_at h3 2
  have d0 := cell_at h2 0
  have d1 := cell_at h2 1
  have d2 := cell_at h2 2
  simp only [List.getElem?_toArray, List.getElem?_cons_zero, List.getElem?_cons_succ] at c0 c1 c2 d0 d1 d2
  clear hacc hnext hT hacc2 hnext2 hacell hcell hbcell hmcell h1 e1 k1 h2 h3
  go_enter Try.func18, Try.ntmps18
  go_wp2_with fail
  generalize (w.alloc (.cells #[.int .i64 A.T, .slice aa A.acc.length ac, .slice na A.next.length nc] 25)).alloc (.cells #[.int .i64 A.T, .slice ba A.acc.length bc, .slice ma A.next.length mc] 25) = w1 at c0 c1 c2 d0 d1 d2 k2 ⊢
  have C1 := hide c1
  have C2 := hide c2
  have D1 := hide d1
  have D2 := hide d2
  have HK := hide k2
  clear c0 c1 c2 d0 d1 d2 k2
  go_loopw [5] (fun i wr => ∃ k : Nat, i = .int .i64 k ∧ k ≤ A.acc.length ∧ Same w1 wr) (fun i _ => A.acc.length - (intOf i).toNat)
  case atStart => exact ⟨0, rfl, Nat.zero_le _, Keeps.refl _ _⟩
  case round =>
    obtain ⟨k, rfl, hk, hK⟩ := hrel
    have c1 := Keeps.cell hK C1.out trivial
    have d1 := Keeps.cell hK D1.out trivial
    by_cases hlt : k < A.acc.length
    · obtain ⟨xa, xo, rfl, _, hx⟩ := HAC.out k hlt
      obtain ⟨ya, yo, rfl, _, hy⟩ := HBC.out k hlt
      have p1 := Keeps.cell (HK.out.tr hK) (hx k hlt) trivial
      have p2 := Keeps.cell (HK.out.tr hK) (hy k hlt) trivial
      generalize A.acc[k] = b at p1 p2
      clear hx hy
      have HK2 := hide hK
      clear hK
      go_wp2_with fail
      refine wp_region_same (by kernel_rfl) (by kernel_rfl) ?_
      iterate 11
        (apply wpQuiet_step
         intro K hK
         first
           | (apply quiet_skip
              case hw => rfl
              go_simp
              refine hK _ ?_; clear hK K)
           | (apply quiet_do
              case hw => rfl
              case h =>
                intro w' hw'
                (have z1 := Keeps.cell hw' c1 trivial; have z2 := Keeps.cell hw' d1 trivial; have z3 := Keeps.cell hw' p1 trivial; have z4 := Keeps.cell hw' p2 trivial)
                go_simp
                first | exact rfl | (fail)
              go_simp
              refine hK _ ?_; clear hK K))
      apply wpQuiet_nil
      intro w2 k2
      have HK3 := hide (HK2.out.tr k2)
      clear k2 c1 d1 p1 p2
      go_wp2_with fail
      go_roundw
      case rel => exact ⟨k + 1, by go_num, by omega, HK3.out⟩
      case measure => simp [intOf]; omega
    · have HK2 := hide hK
      clear hK
      go_wp2_with fail
      go_loopw [6] (fun i wr => ∃ k : Nat, i = .int .i64 k ∧ k ≤ A.next.length ∧ Same w1 wr) (fun i _ => A.next.length - (intOf i).toNat)
      case atStart => exact ⟨0, rfl, Nat.zero_le _, HK2.out⟩
      case round =>
        clear c1 d1
        obtain ⟨m, rfl, hm, hK⟩ := hrel
        have c2 := Keeps.cell hK C2.out trivial
        have d2 := Keeps.cell hK D2.out trivial
        by_cases hlt2 : m < A.next.length
        · obtain ⟨xa, xo, rfl, _, hx⟩ := HC.out m hlt2
          obtain ⟨ya, yo, rfl, _, hy⟩ := HM.out m hlt2
          obtain ⟨u1, hu1, hi1⟩ := hx m hlt2
          obtain ⟨u2, hu2, hi2⟩ := hy m hlt2
          have p1 := Keeps.cell (HK.out.tr hK) hu1 trivial
          have p2 := Keeps.cell (HK.out.tr hK) hu2 trivial
          have I1 := hide (hi1.same (HK.out.tr hK))
          have I2 := hide (hi2.same (HK.out.tr hK))
          obtain ⟨sa1, sc1, rfl, _⟩ := hi1.open
          obtain ⟨sa2, sc2, rfl, _⟩ := hi2.open
          clear hx hy hu1 hu2 hi1 hi2
          generalize A.next[m] = row at p1 p2 I1 I2
          have HK2 := hide hK
          clear hK
          go_wp2_with fail
          refine wp_region_same (by kernel_rfl) (by kernel_rfl) ?_
          iterate 12
            (apply wpQuiet_step
             intro K hK
             first
               | (apply quiet_skip
                  case hw => rfl
                  go_simp
                  refine hK _ ?_; clear hK K)
               | (apply quiet_do
                  case hw => rfl
                  case h =>
                    intro w' hw'
                    (have z1 := Keeps.cell hw' c2 trivial; have z2 := Keeps.cell hw' d2 trivial; have z3 := Keeps.cell hw' p1 trivial; have z4 := Keeps.cell hw' p2 trivial)
                    go_simp
                    first | exact rfl | (exact sameInts (I1.out.same hw') (I2.out.same hw') (fun e w'' he hk => ⟨he, hw'.tr hk⟩))
                  go_simp
                  refine hK _ ?_; clear hK K))
          apply wpQuiet_nil
          intro w2 k2
          have HK3 := hide (HK2.out.tr k2)
          clear k2 c2 d2 p1 p2
          go_wp2_with fail
          go_roundw
          case rel => exact ⟨m + 1, by go_num, by omega, HK3.out⟩
          case measure => simp [intOf]; omega
        · go_wp2_with fail
          exact HR.out _ _ rfl (HK.out.tr hK)

end Go.Proofs.Ytohhjdadhdibfaa
