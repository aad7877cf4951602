/- The walks of sibylref21.Empty, sibylref21.All. -/
import Derived.Test.YtohhjdadhdibfaaRef21
namespace Go.Proofs.Ytohhjdadhdibfaa
open Go.RowKit

attribute [local irreducible] wpQuiet wpPlan wpPlanZ wpUp

variable {R : Ending → World → Prop} {w : World} {A : Au}

theorem any_take {l : List Int} {p : Int → Bool} {k : Nat} (hk : k < l.length) : (l.take (k + 1)).any p = ((l.take k).any p || p l[k]) := by
  rw [List.take_succ_eq_append_getElem hk, List.any_append]
  simp

set_option maxRecDepth 10000 in
set_option maxHeartbeats 2000000 in
theorem refEmpty {v : Value} (hA : AutoAt w v A) (hok : AuOk A) (hR : ∀ e w', e = .returned (.bool (!(rchL A).any (accA A))) → Same w w' → R e w') :
    Calls Try.prog 52 #[v] w R := by
  have HR := hide hR
  clear hR
  have HOK := hide hok
  have HA := hide hA
  obtain ⟨va, vn, rfl, hacc, hnext, hT⟩ := hA
  obtain ⟨aa, ac', rfl, _, ha2, hacell⟩ := hacc.open
  obtain ⟨na, nc, rfl, _⟩ := hnext.open
  have HAC := hide hacell
  have hbx := heap_new w (.cells #[.int .i64 A.T, .slice aa A.acc.length ac', .slice na A.next.length nc] 25)
  have hk1 : Same w (w.alloc (.cells #[.int .i64 A.T, .slice aa A.acc.length ac', .slice na A.next.length nc] 25)) := (Keeps.refl _ w).alloc _
  unfold maxLen at ha2
  clear hok hacc hnext hT hacell
  go_enter Try.func52, Try.ntmps52
  have q0 := cell_at hbx 0; have q1 := cell_at hbx 1; have q2 := cell_at hbx 2; simp only [List.getElem?_toArray, List.getElem?_cons_zero, List.getElem?_cons_succ] at q0 q1 q2
  go_wp2_with fail
  generalize w.alloc (.cells #[.int .i64 A.T, .slice aa A.acc.length ac', .slice na A.next.length nc] 25) = w1 at hbx hk1 q0 q1 q2 ⊢
  generalize w.heap.size = x1 at hbx q0 q1 q2 ⊢
  have HK1 := hide hk1
  have BX := hide q1
  clear q0 q1 q2 hbx hk1
  refine refReach (HA.out.same HK1.out) HOK.out ?_; rintro e w2 u rfl hi2 k2
  have HRB := hide (fun x (hx : x ∈ rchL A) => (mem_rchL HOK.out).1 hx)
  generalize rchL A = l at hi2 HRB HR
  obtain ⟨la, lc, rfl, hl1, hl2, hlcell⟩ := hi2.open
  have HLC := hide hlcell
  have HK2 := hide k2
  unfold maxLen at hl2
  clear hi2 hlcell k2
  go_wp2_with fail
  go_loopw [4] (fun i wr => ∃ k : Nat, i = .int .i64 k ∧ k ≤ l.length ∧ Hid ((l.take k).any (accA A) = false) ∧ Same w2 wr) (fun i _ => l.length - (intOf i).toNat)
  case atStart => exact ⟨0, rfl, Nat.zero_le _, hide (by simp), Keeps.refl _ _⟩
  case round =>
    obtain ⟨k, rfl, hk, hno, hK⟩ := hrel
    by_cases hlt : k < l.length
    · obtain ⟨lb, loff, rfl, _, hcl⟩ := HLC.out k hlt
      have hck := Keeps.cell hK (hcl k hlt) trivial
      obtain ⟨s, hs, hr⟩ := HRB.out _ (List.getElem_mem hlt)
      have hsn := hr.lt HOK.out
      have HTK := hide (any_take (p := accA A) hlt)
      have HTW := hide (show l.any (accA A) = true ↔ l.any (accA A) = true from Iff.rfl)
      have HMEM := hide (List.getElem_mem hlt)
      rw [hs] at hck HTK HMEM
      rw [accA_ac hsn] at HTK
      obtain ⟨ab, aoff, rfl, _, hcl2⟩ := HAC.out s hsn
      have hak := Keeps.cell (HK1.out.tr (HK2.out.tr hK)) (hcl2 s hsn) trivial
      have HACS := hide (show ac A s = A.acc[s] by unfold ac; rw [List.getD_eq_getElem?_getD, List.getElem?_eq_getElem hsn]; rfl)
      have hbx := Keeps.cell (HK2.out.tr hK) BX.out trivial
      have HKW := hide hK
      generalize A.acc[s] = y at hak HACS
      clear hcl hcl2 hs hr hK HTW
      go_wp2_with fail
      cases y with
      | true =>
        have HF : Hid (l.any (accA A) = true) := hide (List.any_eq_true.2 ⟨_, HMEM.out, by rw [accA_ac hsn, HACS.out]⟩)
        refine wp_region_same (by kernel_rfl) (by kernel_rfl) ?_
        iterate 8
          (apply wpQuiet_step
           intro K hK
           first
             | (apply quiet_skip
                case hw => rfl
                go_simp
                refine hK _ ?_; clear hK K)
             | (apply quiet_do
                case hw => rfl
                case h =>
                  intro w' hw'
                  (have z0 := Keeps.cell hw' hbx trivial; have z1 := Keeps.cell hw' hck trivial; have z2 := Keeps.cell hw' hak trivial)
                  go_simp
                  first | exact rfl | (fail)
                go_simp
                refine hK _ ?_; clear hK K))
        apply wpQuiet_nil
        intro w3 k3
        have HK3 := hide (HKW.out.tr k3)
        clear k3 hbx hck hak
        go_wp2_with fail
        exact HR.out _ _ (ret_bool (by rw [HF.out]; rfl)) (HK1.out.tr (HK2.out.tr HK3.out))
      | false =>
        refine wp_region_same (by kernel_rfl) (by kernel_rfl) ?_
        iterate 8
          (apply wpQuiet_step
           intro K hK
           first
             | (apply quiet_skip
                case hw => rfl
                go_simp
                refine hK _ ?_; clear hK K)
             | (apply quiet_do
                case hw => rfl
                case h =>
                  intro w' hw'
                  (have z0 := Keeps.cell hw' hbx trivial; have z1 := Keeps.cell hw' hck trivial; have z2 := Keeps.cell hw' hak trivial)
                  go_simp
                  first | exact rfl | (fail)
                go_simp
                refine hK _ ?_; clear hK K))
        apply wpQuiet_nil
        intro w3 k3
        have HK3 := hide (HKW.out.tr k3)
        clear k3 hbx hck hak
        go_wp2_with fail
        go_roundw
        case rel => exact ⟨k + 1, by go_num, by omega, hide (by rw [HTK.out, hno.out, HACS.out]; rfl), HK3.out⟩
        case measure => simp [intOf]; omega
    · obtain rfl : k = l.length := by omega
      have HF : Hid (l.any (accA A) = false) := hide (by have := hno.out; rwa [List.take_length] at this)
      have HKW := hide hK
      clear hno hK
      go_wp2_with fail
      exact HR.out _ _ (ret_bool (by rw [HF.out]; rfl)) (HK1.out.tr (HK2.out.tr HKW.out))

set_option maxRecDepth 10000 in
set_option maxHeartbeats 2000000 in
theorem refAll {v : Value} (hA : AutoAt w v A) (hok : AuOk A) (hR : ∀ e w', e = .returned (.bool (!(rchL A).any fun x => !accA A x)) → Same w w' → R e w') :
    Calls Try.prog 54 #[v] w R := by
  have HR := hide hR
  clear hR
  have HOK := hide hok
  have HA := hide hA
  obtain ⟨va, vn, rfl, hacc, hnext, hT⟩ := hA
  obtain ⟨aa, ac', rfl, _, ha2, hacell⟩ := hacc.open
  obtain ⟨na, nc, rfl, _⟩ := hnext.open
  have HAC := hide hacell
  have hbx := heap_new w (.cells #[.int .i64 A.T, .slice aa A.acc.length ac', .slice na A.next.length nc] 25)
  have hk1 : Same w (w.alloc (.cells #[.int .i64 A.T, .slice aa A.acc.length ac', .slice na A.next.length nc] 25)) := (Keeps.refl _ w).alloc _
  unfold maxLen at ha2
  clear hok hacc hnext hT hacell
  go_enter Try.func54, Try.ntmps54
  have q0 := cell_at hbx 0; have q1 := cell_at hbx 1; have q2 := cell_at hbx 2; simp only [List.getElem?_toArray, List.getElem?_cons_zero, List.getElem?_cons_succ] at q0 q1 q2
  go_wp2_with fail
  generalize w.alloc (.cells #[.int .i64 A.T, .slice aa A.acc.length ac', .slice na A.next.length nc] 25) = w1 at hbx hk1 q0 q1 q2 ⊢
  generalize w.heap.size = x1 at hbx q0 q1 q2 ⊢
  have HK1 := hide hk1
  have BX := hide q1
  clear q0 q1 q2 hbx hk1
  refine refReach (HA.out.same HK1.out) HOK.out ?_; rintro e w2 u rfl hi2 k2
  have HRB := hide (fun x (hx : x ∈ rchL A) => (mem_rchL HOK.out).1 hx)
  generalize rchL A = l at hi2 HRB HR
  obtain ⟨la, lc, rfl, hl1, hl2, hlcell⟩ := hi2.open
  have HLC := hide hlcell
  have HK2 := hide k2
  unfold maxLen at hl2
  clear hi2 hlcell k2
  go_wp2_with fail
  go_loopw [4] (fun i wr => ∃ k : Nat, i = .int .i64 k ∧ k ≤ l.length ∧ Hid ((l.take k).any (fun x => !accA A x) = false) ∧ Same w2 wr) (fun i _ => l.length - (intOf i).toNat)
  case atStart => exact ⟨0, rfl, Nat.zero_le _, hide (by simp), Keeps.refl _ _⟩
  case round =>
    obtain ⟨k, rfl, hk, hno, hK⟩ := hrel
    by_cases hlt : k < l.length
    · obtain ⟨lb, loff, rfl, _, hcl⟩ := HLC.out k hlt
      have hck := Keeps.cell hK (hcl k hlt) trivial
      obtain ⟨s, hs, hr⟩ := HRB.out _ (List.getElem_mem hlt)
      have hsn := hr.lt HOK.out
      have HTK := hide (any_take (p := fun x => !accA A x) hlt)
      have HMEM := hide (List.getElem_mem hlt)
      rw [hs] at hck HTK HMEM
      simp only [accA_ac hsn] at HTK
      obtain ⟨ab, aoff, rfl, _, hcl2⟩ := HAC.out s hsn
      have hak := Keeps.cell (HK1.out.tr (HK2.out.tr hK)) (hcl2 s hsn) trivial
      have HACS := hide (show ac A s = A.acc[s] by unfold ac; rw [List.getD_eq_getElem?_getD, List.getElem?_eq_getElem hsn]; rfl)
      have hbx := Keeps.cell (HK2.out.tr hK) BX.out trivial
      have HKW := hide hK
      generalize A.acc[s] = y at hak HACS
      clear hcl hcl2 hs hr hK
      go_wp2_with fail
      cases y with
      | false =>
        have HF : Hid (l.any (fun x => !accA A x) = true) := hide (List.any_eq_true.2 ⟨_, HMEM.out, by rw [accA_ac hsn, HACS.out]; rfl⟩)
        refine wp_region_same (by kernel_rfl) (by kernel_rfl) ?_
        iterate 9
          (apply wpQuiet_step
           intro K hK
           first
             | (apply quiet_skip
                case hw => rfl
                go_simp
                refine hK _ ?_; clear hK K)
             | (apply quiet_do
                case hw => rfl
                case h =>
                  intro w' hw'
                  (have z0 := Keeps.cell hw' hbx trivial; have z1 := Keeps.cell hw' hck trivial; have z2 := Keeps.cell hw' hak trivial)
                  go_simp
                  first | exact rfl | (fail)
                go_simp
                refine hK _ ?_; clear hK K))
        apply wpQuiet_nil
        intro w3 k3
        have HK3 := hide (HKW.out.tr k3)
        clear k3 hbx hck hak
        go_wp2_with fail
        exact HR.out _ _ (ret_bool (by rw [HF.out]; rfl)) (HK1.out.tr (HK2.out.tr HK3.out))
      | true =>
        refine wp_region_same (by kernel_rfl) (by kernel_rfl) ?_
        iterate 9
          (apply wpQuiet_step
           intro K hK
           first
             | (apply quiet_skip
                case hw => rfl
                go_simp
                refine hK _ ?_; clear hK K)
             | (apply quiet_do
                case hw => rfl
                case h =>
                  intro w' hw'
                  (have z0 := Keeps.cell hw' hbx trivial; have z1 := Keeps.cell hw' hck trivial; have z2 := Keeps.cell hw' hak trivial)
                  go_simp
                  first | exact rfl | (fail)
                go_simp
                refine hK _ ?_; clear hK K))
        apply wpQuiet_nil
        intro w3 k3
        have HK3 := hide (HKW.out.tr k3)
        clear k3 hbx hck hak
        go_wp2_with fail
        go_roundw
        case rel => exact ⟨k + 1, by go_num, by omega, hide (by rw [HTK.out, hno.out, HACS.out]; rfl), HK3.out⟩
        case measure => simp [intOf]; omega
    · obtain rfl : k = l.length := by omega
      have HF : Hid (l.any (fun x => !accA A x) = false) := hide (by have := hno.out; rwa [List.take_length] at this)
      have HKW := hide hK
      clear hno hK
      go_wp2_with fail
      exact HR.out _ _ (ret_bool (by rw [HF.out]; rfl)) (HK1.out.tr (HK2.out.tr HKW.out))

end Go.Proofs.Ytohhjdadhdibfaa
