/- The walk of WordDecodes. -/
import Derived.Test.YtonddhepndhgbaaLaw11
import Derived.Test.YtonddhepndhgbaaLawOf
namespace Go.Proofs.Ytonddhepndhgbaa
open Go.RowKit

variable {R : Ending → World → Prop} {w : World}

/-- Ints, each from 0 to 63: as Nats. -/
theorem as_nats {l : List Int} (h : ∀ x ∈ l, 0 ≤ x ∧ x ≤ 63) : ∃ W : List Nat, l = W.map Int.ofNat ∧ ∀ y ∈ W, y < 64 := by
  refine ⟨l.map Int.toNat, ?_, fun y hy => ?_⟩
  · rw [List.map_map]
    conv => lhs; rw [← List.map_id l]
    apply List.map_congr_left
    intro x hx
    have := h x hx
    simp; omega
  · obtain ⟨x, hx, rfl⟩ := List.mem_map.1 hy
    have := h x hx
    omega

theorem posOf_bounds (W : List Nat) (i m : Nat) : ∀ x ∈ posOf W i m, 0 ≤ x ∧ x < m := by
  intro x hx
  unfold posOf at hx
  obtain ⟨y, hy, rfl⟩ := List.mem_map.1 hx
  have := (List.mem_filter.1 hy).1
  rw [List.mem_range] at this
  simp; omega

theorem decRows_bounds (W : List Nat) (n m : Nat) (hm : m ≤ 1000) : ∀ l ∈ decRows W n m 0, ∀ x ∈ l, InI64 x := by
  intro l hl x hx
  unfold decRows at hl
  obtain ⟨i, _, rfl⟩ := List.mem_map.1 hl
  rw [if_neg (by omega)] at hx
  have := posOf_bounds W i m x hx
  unfold InI64; omega

theorem trim_bounds {l : List Int} (h : ∀ x ∈ l, InI64 x) : ∀ x ∈ trim l, InI64 x := by
  intro x hx
  unfold trim at hx
  rw [List.mem_reverse] at hx
  exact h x (List.mem_reverse.1 ((List.dropWhile_suffix _).subset hx))

theorem IntsAt.small {v : Value} {W : List Nat} (h : IntsAt w v (W.map Int.ofNat)) : ∀ x ∈ W.map Int.ofNat, InI64 x := h.2

set_option maxHeartbeats 2000000 in
theorem wordDecodesWalk (v : Value) (l : List Int) (n : Int) (w : World) (hv : IntsAt w v l) (hn : InI64 n) :
    Calls Try.prog 7 #[v, .int .i64 n] w fun e w' => e = .returned (.bool true) ∧ Below w.heap.size w w' := by
  refine law_of fun R HR => ?_
  have HV := hide hv
  obtain ⟨va, vc, rfl, hc1, hc2, hcell⟩ := hv.open
  have HC := hide hcell
  unfold maxLen at hc2
  unfold InI64 at hn
  clear hcell hv
  by_cases h1 : 300 < l.length
  · go_enter Try.func7, Try.ntmps7
    go_wp2_with fail
    all_goals exact HR.out _ _ rfl (Keeps.refl _ _)
  · by_cases h2 : n < 0
    · go_enter Try.func7, Try.ntmps7
      go_wp2_with fail
      all_goals exact HR.out _ _ rfl (Keeps.refl _ _)
    · by_cases h3 : 6 < n
      · go_enter Try.func7, Try.ntmps7
        go_wp2_with fail
        all_goals exact HR.out _ _ rfl (Keeps.refl _ _)
      · obtain ⟨n, rfl⟩ := Int.eq_ofNat_of_zero_le (show 0 ≤ n by omega)
        have hn6 : n ≤ 6 := by omega
        go_enter Try.func7, Try.ntmps7
        go_wp2_with fail
        go_loopw [5] (fun i wr => ∃ k : Nat, i = .int .i64 k ∧ k ≤ l.length ∧ Hid (∀ x ∈ l.take k, 0 ≤ x ∧ x ≤ 63) ∧ Same w wr) (fun i _ => l.length - (intOf i).toNat)
        case atStart => exact ⟨0, rfl, Nat.zero_le _, hide (by simp), Keeps.refl _ _⟩
        case round =>
          obtain ⟨k, rfl, hk, hall, hK⟩ := hrel
          by_cases hlt : k < l.length
          · obtain ⟨bl, off, rfl, hbl, hcl⟩ := HC.out k hlt
            have hck := Keeps.cell hK (hcl k hlt) trivial
            have hT := List.take_succ_eq_append_getElem hlt
            generalize l[k] = x at hck hT
            have HT := hide hT
            clear hcl hT
            by_cases hx0 : x < 0
            · go_wp2_with fail
              all_goals exact HR.out _ _ rfl (hK.mono fun _ _ _ => trivial)
            · by_cases hx1 : 63 < x
              · go_wp2_with fail
                all_goals exact HR.out _ _ rfl (hK.mono fun _ _ _ => trivial)
              · have HX := hide (show 0 ≤ x ∧ x ≤ 63 by omega)
                go_wp2_with fail
                go_roundw
                case rel =>
                  refine ⟨k + 1, by go_num, by omega, hide (fun y hy => ?_), hK⟩
                  rw [HT.out] at hy
                  rcases List.mem_append.1 hy with hy | hy
                  · exact hall.out y hy
                  · simp at hy; subst hy; exact HX.out
                case measure => simp [intOf]; omega
          · obtain rfl : k = l.length := by omega
            have hall2 := hall.out
            rw [List.take_length] at hall2
            obtain ⟨W, rfl, h64⟩ := as_nats hall2
            have H64 := hide h64
            have hWl : W.length ≤ 300 := by simpa using h1
            have HV2 : Hid (IntsAt w (.slice va W.length vc) (W.map Int.ofNat)) := hide (by have := HV.out; rw [List.length_map] at this; exact this)
            simp only [List.length_map] at hc1
            have HB := hide (decRows_bounds W n W.length (by omega))
            have HIS := hide (HV2.out.2)
            clear hall hall2 h64 HC
            have HK := hide hK
            clear hK
            go_wp2_with fail
            refine wordDecode (HV2.out.same HK.out) H64.out n hn6 (by omega) ?_; rintro e w1 b1 vs1 rfl r1 k1
            have R1 := hide (r1.rows HB.out (n := n) (by rw [decRows_len]) (by unfold maxLen; omega))
            have HK1 := hide (HK.out.tr k1)
            clear r1 k1
            go_wp2_with fail
            refine refDecode (HV2.out.same HK1.out) H64.out n hn6 (by omega) ?_; rintro e w2 b2 vs2 rfl r2 k2
            have R2 := hide (r2.rows HB.out (n := n) (by rw [decRows_len]) (by unfold maxLen; omega))
            have HK2 := hide (HK1.out.tr k2)
            have R1' := hide (R1.out.same k2)
            clear r2 k2
            go_wp2_with fail
            refine sameRows R1'.out R2.out ?_; rintro e w3 rfl k3
            rw [show decide (decRows W n W.length 0 = decRows W n W.length 0) = true by simp]
            have HK3 := hide (HK2.out.tr k3)
            clear k3
            go_wp2_with fail
            refine wordTrim (HV2.out.same HK3.out) (by simpa using Nat.le_trans hWl (by decide)) ?_; rintro e w4 u4 rfl o4 k4
            have O4 := hide (o4.ints (trim_bounds HIS.out))
            have HK4 := hide (HK3.out.tr k4)
            clear o4 k4
            go_wp2_with fail
            refine refTrim (HV2.out.same HK4.out) (by simpa using Nat.le_trans hWl (by decide)) ?_; rintro e w5 u5 rfl o5 k5
            have O5 := hide (o5.ints (trim_bounds HIS.out))
            have O4' := hide (O4.out.same k5)
            have HK5 := hide (HK4.out.tr k5)
            clear o5 k5
            go_wp2_with fail
            refine sameInts O4'.out O5.out ?_; rintro e w6 rfl k6
            rw [show decide (trim (W.map Int.ofNat) = trim (W.map Int.ofNat)) = true by simp]
            have HK6 := hide (HK5.out.tr k6)
            clear k6
            go_wp2_with fail
            refine known11 ?_; rintro e w7 rfl k7
            go_wp2_with fail
            exact HR.out _ _ rfl ((HK6.out.tr k7).mono fun _ _ _ => trivial)

end Go.Proofs.Ytonddhepndhgbaa
