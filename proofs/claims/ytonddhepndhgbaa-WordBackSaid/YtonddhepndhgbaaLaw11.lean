/- The walks of sibyllaw11.long, known; what letters are. -/
import Derived.Test.YtonddhepndhgbaaSorted2
namespace Go.Proofs.Ytonddhepndhgbaa
open Go.RowKit

variable {R : Ending → World → Prop} {w : World}

/-- Letters are what they are. -/
theorem Letters.unique {ls : List (List Int)} {W W' : List Nat} (h : Letters ls W) (h' : Letters ls W') : W = W' := by
  have hl : W.length = W'.length := by have := h.1; have := h'.1; omega
  apply List.ext_getElem hl
  intro x h1 h2
  apply Nat.eq_of_testBit_eq
  intro j
  have a := h.2.2 x j _ (List.getElem?_eq_getElem h1)
  have b := h'.2.2 x j _ (List.getElem?_eq_getElem h2)
  rw [Bool.eq_iff_iff, a, b]

theorem letters_known : Letters [[0, 2], [1]] [1, 2, 1] := by
  refine ⟨by decide, by decide, fun x j y hy => ?_⟩
  have hx : x = 0 ∨ x = 1 ∨ x = 2 ∨ 3 ≤ x := by omega
  have hj : j = 0 ∨ j = 1 ∨ 2 ≤ j := by omega
  rcases hx with rfl | rfl | rfl | hx
  all_goals first | (simp at hy; subst hy) | (exfalso; rw [List.getElem?_eq_none (by simpa using hx)] at hy; cases hy)
  all_goals
    rcases hj with rfl | rfl | hj
    · first | (simp; done) | (simp; decide)
    · first | (simp; done) | (simp; decide)
    · rw [List.getElem?_eq_none (by simpa using hj)]
      simp
      first | (rw [Nat.testBit_lt_two_pow]; exact Nat.lt_of_lt_of_le (by decide) (Nat.pow_le_pow_right (by decide) hj)) | trivial

theorem RowsAt.lit {b g1 g2 : Nat} {l1 l2 : List Int} {c1 c2 : Nat} (h : w.heap[b]? = some (.cells #[.slice (some ⟨g1, 0, none⟩) l1.length c1, .slice (some ⟨g2, 0, none⟩) l2.length c2] 22 (0, 0))) (h1 : IntsAt w (.slice (some ⟨g1, 0, none⟩) l1.length c1) l1) (h2 : IntsAt w (.slice (some ⟨g2, 0, none⟩) l2.length c2) l2) :
    RowsAt w (.slice (some ⟨b, 0, none⟩) 2 2) [l1, l2] := by
  refine ⟨[.slice (some ⟨g1, 0, none⟩) l1.length c1, .slice (some ⟨g2, 0, none⟩) l2.length c2], ⟨_, 2, rfl, Nat.le_refl _, by decide, .inr ⟨b, 0, _, _, _, rfl, h, fun i x hx => ?_⟩⟩, rfl, fun i u l hu hl => ?_⟩
  · simpa using hx
  · match i with
    | 0 => simp at hu hl; subst hu; subst hl; exact h1
    | 1 => simp at hu hl; subst hu; subst hl; exact h2
    | n + 2 => simp at hu

set_option maxHeartbeats 1000000 in
theorem known11 (hR : ∀ e w', e = .returned (.bool true) → Same w w' → R e w') : Calls Try.prog 28 #[] w R := by
  have HR := hide hR
  clear hR
  go_enter Try.func28, Try.ntmps28
  go_wp2_with fail
  have e1 : (w.alloc (.cells #[.int .i64 0, .int .i64 2] 3)).heap.size = w.heap.size + 1 := by simp
  have e2 : ((w.alloc (.cells #[.int .i64 0, .int .i64 2] 3)).alloc (.cells #[.int .i64 1] 3)).heap.size = w.heap.size + 1 + 1 := by simp
  have h0 := heap_new w (.cells #[.int .i64 0, .int .i64 2] 3)
  have h1 := heap_new (w.alloc (.cells #[.int .i64 0, .int .i64 2] 3)) (.cells #[.int .i64 1] 3)
  have h2 := heap_new ((w.alloc (.cells #[.int .i64 0, .int .i64 2] 3)).alloc (.cells #[.int .i64 1] 3)) (.cells #[.slice (some ⟨w.heap.size, 0, none⟩) 2 2, .slice (some ⟨w.heap.size + 1, 0, none⟩) 1 1] 22)
  rw [e1] at h1
  rw [e2] at h2
  have h01 := heap_old (heap_old h0 (.cells #[.int .i64 1] 3)) (.cells #[.slice (some ⟨w.heap.size, 0, none⟩) 2 2, .slice (some ⟨w.heap.size + 1, 0, none⟩) 1 1] 22)
  have h11 := heap_old h1 (.cells #[.slice (some ⟨w.heap.size, 0, none⟩) 2 2, .slice (some ⟨w.heap.size + 1, 0, none⟩) 1 1] 22)
  have hrows := RowsAt.lit (l1 := [0, 2]) (l2 := [1]) (c1 := 2) (c2 := 1) h2 (ints_of_block h01 [0, 2] rfl (by simp [InI64]) rfl (Nat.le_refl _) (by decide)) (ints_of_block h11 [1] rfl (by simp [InI64]) rfl (Nat.le_refl _) (by decide))
  have hk : Same w (((w.alloc (.cells #[.int .i64 0, .int .i64 2] 3)).alloc (.cells #[.int .i64 1] 3)).alloc (.cells #[.slice (some ⟨w.heap.size, 0, none⟩) 2 2, .slice (some ⟨w.heap.size + 1, 0, none⟩) 1 1] 22)) := (((Keeps.refl _ w).alloc _).alloc _).alloc _
  generalize ((w.alloc (.cells #[.int .i64 0, .int .i64 2] 3)).alloc (.cells #[.int .i64 1] 3)).alloc (.cells #[.slice (some ⟨w.heap.size, 0, none⟩) 2 2, .slice (some ⟨w.heap.size + 1, 0, none⟩) 1 1] 22) = w3 at hrows hk ⊢
  clear e1 e2 h0 h1 h2 h01 h11
  refine wordEncode hrows (by unfold Small; simp) (by decide) ?_
  rintro e w4 b W rfl hL hW _ k4
  obtain rfl := hL.unique letters_known
  have i4 := hide ((hW.ints hL.2.1 rfl (Nat.le_refl _) (by decide)).same ((Keeps.refl _ w4).alloc (.cells #[.int .i64 1, .int .i64 2, .int .i64 1] 3)))
  have K4 := hide (hk.tr k4)
  clear hrows hk hL hW k4
  go_wp2_with fail
  refine sameInts i4.out (ints_of_block (heap_new w4 (.cells #[.int .i64 1, .int .i64 2, .int .i64 1] 3)) [1, 2, 1] rfl (by simp [InI64]) rfl (Nat.le_refl _) (by decide)) ?_
  rintro e w5 rfl k5
  rw [show decide (List.map Int.ofNat [1, 2, 1] = [1, 2, 1]) = true by decide]
  go_wp2_with fail
  exact HR.out _ _ rfl ((K4.out.alloc _).tr k5)

set_option maxHeartbeats 1000000 in
/-- More than is looked at: the walk ends, and the answer is one of two. -/
theorem wordLong {v : Value} {ls : List (List Int)} (hv : RowsAt w v ls)
    (hR : ∀ e b, e = .returned (.bool b) → (b = false → ls.length ≤ 15 ∧ ∀ l ∈ ls, l.length ≤ 100) → R e w) :
    Calls Try.prog 22 #[v] w R := by
  have HR := hide hR
  clear hR
  obtain ⟨a, c, rfl, hc1, hc2, hcell⟩ := hv.open
  have HC := hide hcell
  clear hcell hv
  unfold maxLen at hc2
  go_enter Try.func22, Try.ntmps22
  go_wp2_with fail
  go_loopw [3] (fun i wr => ∃ k : Nat, i = .int .i64 k ∧ k ≤ ls.length ∧ k ≤ 20 ∧ Hid (∀ l ∈ ls.take k, l.length ≤ 100) ∧ wr = w) (fun i _ => ls.length - (intOf i).toNat)
  case atStart => exact ⟨0, rfl, Nat.zero_le _, by decide, hide (by simp), rfl⟩
  case round =>
    obtain ⟨k, rfl, hk, hk20, hall, rfl⟩ := hrel
    by_cases hlt : k < ls.length
    · by_cases h20 : k < 20
      · obtain ⟨bl, off, rfl, hbl, hcl⟩ := HC.out k hlt
        obtain ⟨u, hu, hiu⟩ := hcl k hlt
        obtain ⟨ua, uc, rfl, hd1, hd2, _⟩ := hiu.open
        have hrow : ls.take (k + 1) = ls.take k ++ [ls[k]] := List.take_succ_eq_append_getElem hlt
        generalize ls[k] = row at hrow hu hd1 hiu
        have HROW := hide hrow
        clear hcl hiu hrow
        unfold maxLen at hd2
        by_cases h100 : 100 < row.length
        · go_wp2_with fail
          exact HR.out _ true rfl (by intro h; cases h)
        · have H100 := hide h100
          go_wp2_with fail
          go_roundw
          case rel =>
            refine ⟨k + 1, by go_num, by omega, by omega, hide (fun l hl => ?_), by trivial⟩
            rw [HROW.out] at hl
            rcases List.mem_append.1 hl with hl | hl
            · exact hall.out l hl
            · simp at hl; subst hl; have := H100.out; omega
          case measure => simp [intOf]; omega
      · go_wp2_with fail
        exact HR.out _ _ rfl (by intro h; simp at h; omega)
    · obtain rfl : k = ls.length := by omega
      have HA := hide (show ∀ l ∈ ls, l.length ≤ 100 by have := hall.out; rwa [List.take_length] at this)
      clear hall
      go_wp2_with fail
      exact HR.out _ _ rfl (by intro h; simp at h; exact ⟨by omega, HA.out⟩)

end Go.Proofs.Ytonddhepndhgbaa
