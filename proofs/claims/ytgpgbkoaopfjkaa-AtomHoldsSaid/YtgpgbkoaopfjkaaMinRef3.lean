/- The walk of sibylref24.Classes. -/
import Derived.Test.YtgpgbkoaopfjkaaMinRef2
namespace Go.Proofs.Ytgpgbkoaopfjkaa
open Go.RowKit

attribute [local irreducible] wpQuiet wpPlan wpPlanZ wpUp

variable {R : Ending → World → Prop} {w : World} {A : Au} {B d : Nat}

/-- The states told apart as the classes tell them. -/
structure LikeK (A : Au) (k : Nat) (cls : List Nat) : Prop where
  len : cls.length = A.acc.length
  small : ∀ x ∈ cls, x ≤ 1000
  like : ∀ i j, i < A.acc.length → j < A.acc.length → (cls.getD i 0 = cls.getD j 0 ↔ (clsK A k).getD i 0 = (clsK A k).getD j 0)

theorem LikeK.own (h : A.acc.length ≤ 400) (k : Nat) : LikeK A k (clsK A k) := ⟨clsK_length A k, fun x hx => by have := clsK_lt A k x hx; omega, fun _ _ _ _ => Iff.rfl⟩

theorem LikeK.numb (hok : AuOk A) {k : Nat} {cls : List Nat} (h : LikeK A k cls) : numb (sigsK A cls A.acc.length) = clsK A (k + 1) ∧ (nub (sigsK A cls A.acc.length)).length = cntK A (k + 1) := by
  have := numb_same (l := sigsK A cls A.acc.length) (m := (List.range A.acc.length).map (sig A (clsK A k))) (by simp [sigsK]) fun i h1 j h2 => by
    have hi : i < A.acc.length := by simpa [sigsK] using h1
    have hj : j < A.acc.length := by simpa [sigsK] using h2
    simp only [sigsK, List.getElem_map, List.getElem_range]
    rw [sigR_inj, sig_iff, sig_iff, h.like i j hi hj]
    constructor
    · rintro ⟨e1, e2⟩
      exact ⟨e1, fun c hc => (h.like _ _ (nx_lt hok i c) (nx_lt hok j c)).1 (e2 c hc)⟩
    · rintro ⟨e1, e2⟩
      exact ⟨e1, fun c hc => (h.like _ _ (nx_lt hok i c) (nx_lt hok j c)).2 (e2 c hc)⟩
  exact this

/-- Which states do not tell what the first tells; the first k done. -/
def c0L (A : Au) (k : Nat) : List Nat := (List.range A.acc.length).map fun i => if i < k ∧ ac A i ≠ ac A 0 then 1 else 0

theorem c0L_zero (A : Au) : c0L A 0 = List.replicate A.acc.length 0 := by
  apply List.ext_getElem
  · simp [c0L]
  · intro i h1 h2; simp [c0L]
theorem c0L_length (A : Au) (k : Nat) : (c0L A k).length = A.acc.length := by simp [c0L]
theorem c0L_set {k : Nat} (h : ac A k ≠ ac A 0) : (c0L A k).set k 1 = c0L A (k + 1) := by
  apply List.ext_getElem
  · simp [c0L]
  · intro i h1 h2
    rw [List.getElem_set]
    simp only [c0L, List.getElem_map, List.getElem_range]
    by_cases e : k = i
    · subst e; simp [h]
    · rw [if_neg e]
      have : (i < k ∧ ac A i ≠ ac A 0) ↔ (i < k + 1 ∧ ac A i ≠ ac A 0) := ⟨fun h => ⟨by omega, h.2⟩, fun h => ⟨by omega, h.2⟩⟩
      simp only [this]
theorem c0L_stay {k : Nat} (h : ac A k = ac A 0) : c0L A (k + 1) = c0L A k := by
  unfold c0L
  apply List.map_congr_left
  intro i _
  by_cases e : i = k
  · subst e; simp [h]
  · have : (i < k + 1 ∧ ac A i ≠ ac A 0) ↔ (i < k ∧ ac A i ≠ ac A 0) := ⟨fun h => ⟨by omega, h.2⟩, fun h => ⟨by omega, h.2⟩⟩
    simp only [this]

theorem LikeK.first (A : Au) : LikeK A 0 (c0L A A.acc.length) := by
  have hg : ∀ i, i < A.acc.length → (c0L A A.acc.length).getD i 0 = if ac A i ≠ ac A 0 then 1 else 0 := fun i hi => by
    rw [List.getD_eq_getElem?_getD]
    simp [c0L, hi]
  refine ⟨c0L_length A _, fun x hx => ?_, fun i j hi hj => ?_⟩
  · obtain ⟨i, _, rfl⟩ := List.mem_map.1 hx
    split <;> omega
  · rw [hg i hi, hg j hj, acc_iff hi hj]
    cases ac A i <;> cases ac A j <;> cases ac A 0 <;> simp

/-- How many classes there were. -/
def wasK (A : Au) (k : Nat) : Nat := if k = 0 then 0 else cntK A k

theorem wasK_stop (h : 0 < A.acc.length) {k : Nat} (e : cntK A (k + 1) = wasK A k) : clsK A (k + 1) = stab A := by
  unfold wasK at e
  by_cases hk : k = 0
  · rw [if_pos hk] at e
    have := cnt_pos h (k + 1); omega
  · rw [if_neg hk] at e
    have h1 := (cnt_mono A k).2 e.symm
    rw [h1]; exact stab_of h h1

theorem wasK_more (h : 0 < A.acc.length) {k : Nat} (e : cntK A (k + 1) ≠ wasK A k) : wasK A k < cntK A (k + 1) := by
  unfold wasK at e ⊢
  by_cases hk : k = 0
  · rw [if_pos hk]; exact cnt_pos h (k + 1)
  · rw [if_neg hk] at e ⊢
    have := (cnt_mono A k).1; omega

theorem RowIn.keep1 {w' : World} {b : Nat} {l : List Int} (h : RowIn w b l) (k : Same w w') : RowIn w' b l := k.at h trivial

set_option maxRecDepth 10000 in
set_option maxHeartbeats 4000000 in
theorem refClasses {v : Value} (hA : AutoAt w v A) (hok : AuOk A) (hR : ∀ e w' u, e = .returned u → IntsAt w' u ((stab A).map Int.ofNat) → Same w w' → R e w') :
    Calls Try.prog 61 #[v] w R := by
  have HR := hide hR
  clear hR
  have HOK := hide hok
  have HA := hide hA
  obtain ⟨va, vn, rfl, hacc, hnext, hT⟩ := hA
  obtain ⟨aa, ac', rfl, _, ha2, hacell⟩ := hacc.open
  obtain ⟨na, nc, rfl, _⟩ := hnext.open
  have hn1 : 0 < A.acc.length := hok.1.2.2.1
  have hn4 : A.acc.length ≤ 400 := hok.1.2.2.2.1
  obtain ⟨ab, aoff, rfl, _, hacell⟩ := hacell 0 hn1
  have HAC : Hid (∀ s, s < A.acc.length → w.cell? ⟨ab, aoff + s, none⟩ = some (.bool (ac A s))) := hide fun s hs => by
    rw [hacell s hs]; unfold ac; rw [List.getD_eq_getElem?_getD, List.getElem?_eq_getElem hs]; rfl
  have hbx := heap_new w (.cells #[.int .i64 A.T, .slice (some ⟨ab, aoff, none⟩) A.acc.length ac', .slice na A.next.length nc] 33)
  have hk1 : Same w (w.alloc (.cells #[.int .i64 A.T, .slice (some ⟨ab, aoff, none⟩) A.acc.length ac', .slice na A.next.length nc] 33)) := (Keeps.refl _ w).alloc _
  unfold maxLen at ha2
  obtain ⟨i0, hi0, hz0, hz1, hz2⟩ := info_parts int_info
  have HMK : Hid (∀ wq : World, (Instr.makeSlice 42 (.int .i64 (A.acc.length : Int)) (.int .i64 (A.acc.length : Int))).run Try.prog wq = .ok (.slice (some ⟨wq.heap.size, 0, none⟩) A.acc.length A.acc.length) (wq.alloc (.cells ((List.replicate A.acc.length (0 : Int)).map (Value.int .i64)).toArray 3))) := hide fun wq => by
    have hmk := run_make (P := Try.prog) wq 42 3 i0 _ Try.underlying42 hi0 hz0 .i64 .i64 A.acc.length A.acc.length (by omega) (by omega) (by rw [hz2]; omega) (by omega)
    rw [hz1, Int.toNat_natCast, make_ints] at hmk
    exact hmk
  clear hok hacc hnext hT hacell hi0 hz0 hz1 hz2
  go_enter Try.func61, Try.ntmps61
  have b1 := cell_at hbx 1
  simp only [List.getElem?_toArray, List.getElem?_cons_zero, List.getElem?_cons_succ] at b1
  have hmk := HMK.out (w.alloc (.cells #[.int .i64 A.T, .slice (some ⟨ab, aoff, none⟩) A.acc.length ac', .slice na A.next.length nc] 33))
  go_wp2_with fail
  have hsz : (w.alloc (.cells #[.int .i64 A.T, .slice (some ⟨ab, aoff, none⟩) A.acc.length ac', .slice na A.next.length nc] 33)).heap.size = w.heap.size + 1 := by simp
  clear hmk
  generalize w.alloc (.cells #[.int .i64 A.T, .slice (some ⟨ab, aoff, none⟩) A.acc.length ac', .slice na A.next.length nc] 33) = w1 at hbx hk1 b1 hsz ⊢
  rw [← hsz]
  have hrow : RowIn (w1.alloc (.cells (Array.replicate A.acc.length (Value.int .i64 0)) 3)) w1.heap.size ((c0L A 0).map Int.ofNat) := by
    unfold RowIn
    rw [heap_new, c0L_zero]
    simp
  have ka : Same w1 (w1.alloc (.cells (Array.replicate A.acc.length (Value.int .i64 0)) 3)) := (Keeps.refl _ w1).alloc _
  generalize w1.alloc (.cells (Array.replicate A.acc.length (Value.int .i64 0)) 3) = w2 at hrow ka ⊢
  obtain ⟨W, hW⟩ : ∃ W, W = w1.heap.size := ⟨_, rfl⟩
  rw [← hW] at hrow ⊢
  generalize w.heap.size = xb at hbx b1 ⊢
  have HBX := hide hbx
  have HB1 := hide b1
  have HK1 := hide hk1
  have HROW := hide hrow
  have HKA := hide ka
  have HW := hide hW
  clear hbx hk1 b1 hrow ka hsz hW
  go_loopw [4] (fun i wr => ∃ k : Nat, i = .int .i64 k ∧ k ≤ A.acc.length ∧ Hid (RowIn wr W ((c0L A k).map Int.ofNat)) ∧ Same w1 wr) (fun i _ => A.acc.length - (intOf i).toNat)
  case atStart => exact ⟨0, rfl, Nat.zero_le _, HROW.out, HKA.out⟩
  case round =>
    obtain ⟨k, rfl, hk, hrow, hK⟩ := hrel
    have hb1 := Keeps.cell hK HB1.out trivial
    by_cases hlt : k < A.acc.length
    · have ha := Keeps.cell (HK1.out.tr hK) (HAC.out k hlt) trivial
      have ha0 := Keeps.cell (HK1.out.tr hK) (HAC.out 0 hn1) trivial
      rw [Nat.add_zero] at ha0
      have hc1 : wr.cell? ⟨W, k, none⟩ = some (.int .i64 (((c0L A k).map Int.ofNat)[k]'(by rw [List.length_map, c0L_length]; exact hlt))) := by
        rw [cell_at hrow.out]
        simp [c0L_length, hlt]
      have hc2 := free_at hrow.out k
      generalize ((c0L A k).map Int.ofNat)[k]'(by rw [List.length_map, c0L_length]; exact hlt) = y0 at hc1
      have HSET := hide (hrow.out.set k 1)
      have HRW := hide hrow.out
      have HKW := hide hK
      have HEQ : Hid (ac A k ≠ ac A 0 → RowIn (wr.setCell ⟨W, k, none⟩ (.int .i64 1)) W ((c0L A (k + 1)).map Int.ofNat)) := hide (fun h => by
        have h1 := HSET.out
        rw [← c0L_set h, List.map_set]
        exact h1)
      have HST : Hid (ac A k = ac A 0 → RowIn wr W ((c0L A (k + 1)).map Int.ofNat)) := hide (fun h => by rw [c0L_stay h]; exact HRW.out)
      have HKS : Hid (Same w1 (wr.setCell ⟨W, k, none⟩ (.int .i64 1))) := hide (hK.setCell (fun hh => by have := hh.1; rw [← HW.out] at this; exact Nat.lt_irrefl _ this) _)
      generalize ac A k = p at ha HEQ HST
      generalize ac A 0 = q at ha0 HEQ HST
      clear hrow hK
      by_cases hpq : p = q
      · subst hpq
        have HF := hide (HST.out rfl)
        clear HEQ HST
        cases p
        · go_wp2_with fail
          refine wp_region_same (by kernel_rfl) (by kernel_rfl) ?_
          iterate 10
            (apply wpQuiet_step
             intro K hK
             first
               | (apply quiet_skip
                  case hw => rfl
                  go_simp
                  refine hK _ ?_; clear hK K)
               | (apply quiet_do
                  case hw => rfl
                  case h =>
                    intro w' hw'
                    (have z0 := Keeps.cell hw' hb1 trivial; have z1 := Keeps.cell hw' ha trivial; have z2 := Keeps.cell hw' ha0 trivial)
                    go_simp
                    first | exact rfl | (fail)
                  go_simp
                  refine hK _ ?_; clear hK K))
          apply wpQuiet_nil
          intro w3 k3
          have HK3 := hide (HKW.out.tr k3)
          have HF3 : Hid (RowIn w3 W ((c0L A (k + 1)).map Int.ofNat)) := hide (HF.out.keep1 k3)
          clear k3 hb1 ha ha0 hc1 hc2
          go_wp2_with fail
          go_roundw
          case rel => exact ⟨k + 1, by go_num, by omega, HF3.out, HK3.out⟩
          case measure => simp [intOf]; omega
        · go_wp2_with fail
          refine wp_region_same (by kernel_rfl) (by kernel_rfl) ?_
          iterate 10
            (apply wpQuiet_step
             intro K hK
             first
               | (apply quiet_skip
                  case hw => rfl
                  go_simp
                  refine hK _ ?_; clear hK K)
               | (apply quiet_do
                  case hw => rfl
                  case h =>
                    intro w' hw'
                    (have z0 := Keeps.cell hw' hb1 trivial; have z1 := Keeps.cell hw' ha trivial; have z2 := Keeps.cell hw' ha0 trivial)
                    go_simp
                    first | exact rfl | (fail)
                  go_simp
                  refine hK _ ?_; clear hK K))
          apply wpQuiet_nil
          intro w3 k3
          have HK3 := hide (HKW.out.tr k3)
          have HF3 : Hid (RowIn w3 W ((c0L A (k + 1)).map Int.ofNat)) := hide (HF.out.keep1 k3)
          clear k3 hb1 ha ha0 hc1 hc2
          go_wp2_with fail
          go_roundw
          case rel => exact ⟨k + 1, by go_num, by omega, HF3.out, HK3.out⟩
          case measure => simp [intOf]; omega
      · have HPQ := hide hpq
        rcases (show (p = true ∧ q = false) ∨ (p = false ∧ q = true) by cases p <;> cases q <;> simp at hpq ⊢) with ⟨rfl, rfl⟩ | ⟨rfl, rfl⟩
        · clear hpq
          go_wp2_with fail
          refine wp_region_same (by kernel_rfl) (by kernel_rfl) ?_
          iterate 10
            (apply wpQuiet_step
             intro K hK
             first
               | (apply quiet_skip
                  case hw => rfl
                  go_simp
                  refine hK _ ?_; clear hK K)
               | (apply quiet_do
                  case hw => rfl
                  case h =>
                    intro w' hw'
                    (have z0 := Keeps.cell hw' hb1 trivial; have z1 := Keeps.cell hw' ha trivial; have z2 := Keeps.cell hw' ha0 trivial)
                    go_simp
                    first | exact rfl | (fail)
                  go_simp
                  refine hK _ ?_; clear hK K))
          apply wpQuiet_nil
          intro w3 k3
          have hrow3 := HRW.out.keep1 k3
          have hc1 := Keeps.cell k3 hc1 trivial
          have hc2 := free_at hrow3 k
          have HF3 : Hid (RowIn (w3.setCell ⟨W, k, none⟩ (.int .i64 1)) W ((c0L A (k + 1)).map Int.ofNat)) := hide (by
            have h1 := hrow3.set k 1
            have h2 := HEQ.out HPQ.out
            have h3 := HSET.out
            unfold RowIn at h1 h2 h3 ⊢
            rw [h3] at h2
            rw [h1]; exact h2)
          have HK3 : Hid (Same w1 (w3.setCell ⟨W, k, none⟩ (.int .i64 1))) := hide ((HKW.out.tr k3).setCell (fun hh => by have := hh.1; rw [← HW.out] at this; exact Nat.lt_irrefl _ this) _)
          clear k3 hb1 ha ha0 hrow3
          go_wp2_with fail
          go_roundw
          case rel => exact ⟨k + 1, by go_num, by omega, HF3.out, HK3.out⟩
          case measure => simp [intOf]; omega
        · clear hpq
          go_wp2_with fail
          refine wp_region_same (by kernel_rfl) (by kernel_rfl) ?_
          iterate 10
            (apply wpQuiet_step
             intro K hK
             first
               | (apply quiet_skip
                  case hw => rfl
                  go_simp
                  refine hK _ ?_; clear hK K)
               | (apply quiet_do
                  case hw => rfl
                  case h =>
                    intro w' hw'
                    (have z0 := Keeps.cell hw' hb1 trivial; have z1 := Keeps.cell hw' ha trivial; have z2 := Keeps.cell hw' ha0 trivial)
                    go_simp
                    first | exact rfl | (fail)
                  go_simp
                  refine hK _ ?_; clear hK K))
          apply wpQuiet_nil
          intro w3 k3
          have hrow3 := HRW.out.keep1 k3
          have hc1 := Keeps.cell k3 hc1 trivial
          have hc2 := free_at hrow3 k
          have HF3 : Hid (RowIn (w3.setCell ⟨W, k, none⟩ (.int .i64 1)) W ((c0L A (k + 1)).map Int.ofNat)) := hide (by
            have h1 := hrow3.set k 1
            have h2 := HEQ.out HPQ.out
            have h3 := HSET.out
            unfold RowIn at h1 h2 h3 ⊢
            rw [h3] at h2
            rw [h1]; exact h2)
          have HK3 : Hid (Same w1 (w3.setCell ⟨W, k, none⟩ (.int .i64 1))) := hide ((HKW.out.tr k3).setCell (fun hh => by have := hh.1; rw [← HW.out] at this; exact Nat.lt_irrefl _ this) _)
          clear k3 hb1 ha ha0 hrow3
          go_wp2_with fail
          go_roundw
          case rel => exact ⟨k + 1, by go_num, by omega, HF3.out, HK3.out⟩
          case measure => simp [intOf]; omega
    · obtain rfl : k = A.acc.length := by omega
      have HC0 : Hid (IntsAt wr (.slice (some ⟨W, 0, none⟩) A.acc.length A.acc.length) ((c0L A A.acc.length).map Int.ofNat)) := hide (ints_of_block hrow.out _ rfl (nat_ints fun y hy => by have := (LikeK.first A).small y hy; omega) (by rw [List.length_map, c0L_length]) (Nat.le_refl _) (by unfold maxLen; omega))
      have HKW := hide hK
      clear hrow hK
      go_wp2_with fail
      clear hb1
      go_loopw [3, 5] (fun cv wv wr => ∃ (k : Nat) (cls : List Nat), wv = .int .i64 (wasK A k : Int) ∧ Hid (LikeK A k cls) ∧ Hid (IntsAt wr cv (cls.map Int.ofNat)) ∧ Same w1 wr) (fun _ wv _ => A.acc.length + 1 - (intOf wv).toNat)
      case atStart => exact ⟨0, _, rfl, LikeK.first A, HC0.out, HKW.out⟩
      case round =>
        obtain ⟨k, cls, rfl, hlk, hcv, hK⟩ := hrel
        have hS := hK.at HBX.out trivial
        have q0 := cell_at hS 0; have q1 := cell_at hS 1; have q2 := cell_at hS 2; simp only [List.getElem?_toArray, List.getElem?_cons_zero, List.getElem?_cons_succ] at q0 q1 q2
        have HLK := hide hlk.out
        have HCV := hide hcv.out
        have HKX := hide hK
        clear hlk hcv hK hS
        go_wp2_with fail
        refine refFiner (HA.out.same (HK1.out.tr HKX.out)) HOK.out HCV.out HLK.out.len HLK.out.small ?_; rintro e w5 u rfl o5 k5
        obtain ⟨e1, e2⟩ := HLK.out.numb HOK.out
        rw [e1] at o5
        rw [e2]
        have HI5 : Hid (IntsAt w5 u ((clsK A (k + 1)).map Int.ofNat)) := hide (o5.ints (nat_ints fun y hy => by have := clsK_lt A (k + 1) y hy; omega))
        have HK5 := hide (HKX.out.tr k5)
        have hcn := cnt_le A (k + 1)
        clear o5 k5 e1 e2 q0 q1 q2
        by_cases hw : cntK A (k + 1) = wasK A k
        · have hbe : (((cntK A (k + 1) : Nat) : Int) == ((wasK A k : Nat) : Int)) = true := by rw [hw]; simp
          have HST := hide (wasK_stop hn1 hw)
          clear hw
          go_wp2_with fail
          exact HR.out _ _ _ rfl (by rw [← HST.out]; exact HI5.out) (HK1.out.tr HK5.out)
        · have hbe : (((cntK A (k + 1) : Nat) : Int) == ((wasK A k : Nat) : Int)) = false := by rw [beq_eq_false_iff_ne]; omega
          have HM := hide (wasK_more hn1 hw)
          have HN : Hid (wasK A (k + 1) = cntK A (k + 1)) := hide (by unfold wasK; rw [if_neg (by omega)])
          clear hw
          go_wp2_with fail
          go_roundw
          case rel => exact ⟨k + 1, _, by rw [HN.out], LikeK.own hn4 (k + 1), HI5.out, HK5.out⟩
          case measure => have := HM.out; simp [intOf]; omega

end Go.Proofs.Ytgpgbkoaopfjkaa
