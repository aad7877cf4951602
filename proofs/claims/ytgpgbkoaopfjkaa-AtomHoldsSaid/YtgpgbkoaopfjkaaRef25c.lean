/- The walks of sibylref25.bounded, Of. -/
import Derived.Test.YtgpgbkoaopfjkaaRefLaw
import Derived.Test.YtgpgbkoaopfjkaaRef9c
import Derived.Test.YtgpgbkoaopfjkaaMinRef5
import Derived.Test.YtgpgbkoaopfjkaaLaw25e
namespace Go.Proofs.Ytgpgbkoaopfjkaa
open Go.RowKit

attribute [local irreducible] wpQuiet wpPlan wpPlanZ wpUp

variable {R : Ending → World → Prop} {w : World}

set_option maxRecDepth 10000 in
set_option maxHeartbeats 4000000 in
theorem refBounded {v : Value} {A : Au} (hA : AutoAt w v A) (h30 : ∀ l ∈ A.next, ∀ y ∈ l, 0 ≤ y ∧ y ≤ 30) (hR : ∀ e w', e = .returned v → Same w w' → R e w') :
    Calls Try.prog 28 #[v] w R := by
  have HR := hide hR
  clear hR
  have H30 := hide h30
  clear h30
  obtain ⟨va, vn, rfl, hacc, hnext, hT⟩ := hA
  obtain ⟨aa, ac, rfl, _⟩ := hacc.open
  obtain ⟨na, nc, rfl, hd1, hd2, hcell⟩ := hnext.open
  unfold maxLen at hd2
  have HC := hide hcell
  have g1 := heap_new w (.cells #[.int .i64 A.T, .slice aa A.acc.length ac, .slice na A.next.length nc] 33)
  have e1 : (w.alloc (.cells #[.int .i64 A.T, .slice aa A.acc.length ac, .slice na A.next.length nc] 33)).heap.size = w.heap.size + 1 := by simp
  have k1 : Same w (w.alloc (.cells #[.int .i64 A.T, .slice aa A.acc.length ac, .slice na A.next.length nc] 33)) := (Keeps.refl _ w).alloc _
  have g2 := heap_new (w.alloc (.cells #[.int .i64 A.T, .slice aa A.acc.length ac, .slice na A.next.length nc] 33)) (.cells #[.int .i64 0, .slice none 0 0, .slice none 0 0] 33)
  rw [e1] at g2
  have g3 := heap_old g1 (.cells #[.int .i64 0, .slice none 0 0, .slice none 0 0] 33)
  have k2 := k1.alloc (.cells #[.int .i64 0, .slice none 0 0, .slice none 0 0] 33)
  have c0 := cell_at g3 0
  have c1 := cell_at g3 1
  have c2 := cell_at g3 2
  simp only [List.getElem?_toArray, List.getElem?_cons_zero, List.getElem?_cons_succ] at c0 c1 c2
  clear hacc hnext hT hcell g1 e1 k1 g3
  go_enter Try.func28, Try.ntmps28
  go_wp2_with fail
  generalize (w.alloc (.cells #[.int .i64 A.T, .slice aa A.acc.length ac, .slice na A.next.length nc] 33)).alloc (.cells #[.int .i64 0, .slice none 0 0, .slice none 0 0] 33) = w1 at g2 k2 c0 c1 c2 ⊢
  have C0 := hide c0
  have C1 := hide c1
  have C2 := hide c2
  have HG2 := hide g2
  have HK := hide k2
  clear c0 c1 c2 g2 k2
  go_loopw [3, 4] (fun i _ wr => ∃ m : Nat, i = .int .i64 m ∧ m ≤ A.next.length ∧ Same w1 wr) (fun i _ _ => A.next.length - (intOf i).toNat)
  case atStart => exact ⟨0, rfl, Nat.zero_le _, Keeps.refl _ _⟩
  case round =>
    obtain ⟨m, rfl, hm, hK⟩ := hrel
    have c2 := Keeps.cell hK C2.out trivial
    have HKM := hide hK
    by_cases hlt : m < A.next.length
    · obtain ⟨xa, xo, rfl, _, hx⟩ := HC.out m hlt
      obtain ⟨u1, hu1, hi1⟩ := hx m hlt
      have p1 := Keeps.cell (HK.out.tr hK) hu1 trivial
      obtain ⟨sa, sc, rfl, hs1, hs2, hscell⟩ := hi1.open
      unfold maxLen at hs2
      have HB : Hid (∀ j (hj : j < A.next[m].length), 0 ≤ A.next[m][j] ∧ A.next[m][j] ≤ 30) := hide fun j hj => H30.out _ (List.getElem_mem _) _ (List.getElem_mem _)
      have HSC := hide hscell
      generalize A.next[m] = row at *
      have P1 := hide p1
      have C2 := hide c2
      clear hx hu1 hi1 hscell hK
      go_wp2_with fail
      clear p1 c2
      obtain ⟨wo, hwo⟩ : ∃ wo : World, wo = wr := ⟨_, rfl⟩
      have HST : Hid (Same wo wr) := hide (by rw [hwo]; exact Keeps.refl _ _)
      rw [← hwo] at HKM P1 C2
      clear hwo
      go_loopw [4] (fun i wi => ∃ j : Nat, i = .int .i64 j ∧ j ≤ row.length ∧ Same wo wi) (fun i _ => row.length - (intOf i).toNat)
      case atStart => exact ⟨0, rfl, Nat.zero_le _, HST.out⟩
      case round =>
        obtain ⟨j, rfl, hj, hKi⟩ := hrel
        have HKI := hide hKi
        have c2 := Keeps.cell hKi C2.out trivial
        have p1 := Keeps.cell hKi P1.out trivial
        by_cases hlt2 : j < row.length
        · obtain ⟨ya, yo, rfl, _, hy⟩ := HSC.out j hlt2
          have p2 := Keeps.cell ((HK.out.tr HKM.out).tr hKi) (hy j hlt2) trivial
          have hb := HB.out j hlt2
          generalize row[j] = y at p2 hb
          obtain ⟨hy0, hy3⟩ := hb
          clear hy hKi
          go_wp2_with fail
          go_roundw
          case rel => exact ⟨j + 1, by go_num, by omega, HKI.out⟩
          case measure => simp [intOf]; omega
        · clear hKi
          go_wp2_with fail
          go_roundw
          case rel => exact ⟨m + 1, by go_num, by omega, HKM.out.tr HKI.out⟩
          case measure => simp [intOf]; omega
    · have c0 := Keeps.cell hK C0.out trivial
      have c1 := Keeps.cell hK C1.out trivial
      have hg2 := hK.at HG2.out trivial
      obtain ⟨hb3, k3⟩ := set3 (a := .int .i64 A.T) (b := .slice aa A.acc.length ac) (c := .slice na A.next.length nc) hg2
      have p0 := cell_at hg2 0
      have p1 := cell_at hg2 1
      have p2 := cell_at hg2 2
      have f0 := free_at hg2 0
      have f1 := free_at hg2 1
      have f2 := free_at hg2 2
      have HSM : Hid (Same w (((wr.setCell ⟨w.heap.size + 1, 0, none⟩ (.int .i64 A.T)).setCell ⟨w.heap.size + 1, 1, none⟩ (.slice aa A.acc.length ac)).setCell ⟨w.heap.size + 1, 2, none⟩ (.slice na A.next.length nc))) :=
        hide ((HK.out.tr hK).trans k3 fun b hb _ => ⟨trivial, by omega⟩)
      simp only [List.getElem?_toArray, List.getElem?_cons_zero, List.getElem?_cons_succ] at p0 p1 p2
      clear hK hg2 k3
      go_wp2_with fail
      clear c0 c1 c2 p0 p1 p2 f0 f1 f2
      generalize ((wr.setCell ⟨w.heap.size + 1, 0, none⟩ (.int .i64 A.T)).setCell ⟨w.heap.size + 1, 1, none⟩ (.slice aa A.acc.length ac)).setCell ⟨w.heap.size + 1, 2, none⟩ (.slice na A.next.length nc) = wf at hb3 HSM ⊢
      have y0 := cell_at hb3 0
      have y1 := cell_at hb3 1
      have y2 := cell_at hb3 2
      simp only [List.getElem?_toArray, List.getElem?_cons_zero, List.getElem?_cons_succ] at y0 y1 y2
      refine bodyPost_ret (v := .agg #[.int .i64 A.T, .slice aa A.acc.length ac, .slice na A.next.length nc]) (by simp [results, Try.results28, go_sem, y0, y1, y2]) rfl ?_
      exact HR.out _ _ rfl HSM.out

end Go.Proofs.Ytgpgbkoaopfjkaa
