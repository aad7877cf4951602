/- The walks of word.Encode and sibylref11.Encode where the sets may not be. -/
import Derived.Test.YtbmpnfibebiaeaaWord
namespace Go.Proofs.Ytbmpnfibebiaeaa
open Go.RowKit

attribute [local irreducible] wpQuiet wpPlan wpPlanZ wpUp

variable {R : Ending → World → Prop} {w : World}

theorem small_row {ls : List (List Int)} {k : Nat} (hlt : k < ls.length) (h : ∀ l ∈ ls.take k, ∀ x ∈ l, 0 ≤ x ∧ x ≤ 999) (hr : ∀ x ∈ ls[k], 0 ≤ x ∧ x ≤ 999) : ∀ l ∈ ls.take (k + 1), ∀ x ∈ l, 0 ≤ x ∧ x ≤ 999 := by
  intro l hl
  rw [List.take_succ_eq_append_getElem hlt] at hl
  rcases List.mem_append.1 hl with hl | hl
  · exact h l hl
  · simp at hl; subst hl; exact hr

set_option maxRecDepth 10000 in
set_option maxHeartbeats 2000000 in
theorem wordEncodeNot {v : Value} {ls : List (List Int)} (hv : RowsAt w v ls) (hno : ¬ (ls.length ≤ 6 ∧ Small ls))
    (hR : ∀ e w', e = .returned (.tuple #[.slice none 0 0, .bool false]) → Same w w' → R e w') :
    Calls Try.prog 29 #[v] w R := by
  have HR := hide hR
  clear hR
  obtain ⟨a, c, rfl, hc1, hc2, hcell⟩ := hv.open
  have HC := hide hcell
  clear hcell hv
  unfold maxLen at hc2
  by_cases h6 : 6 < ls.length
  · go_enter Try.func29, Try.ntmps29
    go_wp2_with fail
    exact HR.out _ _ rfl (Keeps.refl _ _)
  have HN : Hid (¬ Small ls) := hide fun h => hno ⟨by omega, h⟩
  clear hno
  go_enter Try.func29, Try.ntmps29
  go_wp2_with fail
  go_loopw [18] (fun i wr => ∃ k : Nat, i = .int .i64 k ∧ k ≤ ls.length ∧ Hid (∀ l ∈ ls.take k, ∀ x ∈ l, 0 ≤ x ∧ x ≤ 999) ∧ Same w wr) (fun i _ => ls.length - (intOf i).toNat)
  case atStart => exact ⟨0, rfl, Nat.zero_le _, hide (by simp), Keeps.refl _ _⟩
  case round =>
    obtain ⟨k, rfl, hk, hall, hK⟩ := hrel
    by_cases hlt : k < ls.length
    · obtain ⟨bl, off, rfl, hbl, hcl⟩ := HC.out k hlt
      obtain ⟨u, hu, hiu⟩ := hcl k hlt
      obtain ⟨ua, uc, rfl, hd1, hd2, hdell⟩ := hiu.open
      have hck := Keeps.cell hK hu trivial
      have HSR := hide (small_row hlt hall.out)
      generalize ls[k] = row at hck hd1 hdell HSR
      have HD := hide hdell
      have HKo := hide hK
      unfold maxLen at hd2
      clear hcl hu hiu hdell hK
      obtain ⟨wo, hwo⟩ : ∃ wo : World, wo = wr := ⟨_, rfl⟩
      have HST : Hid (Same wo wr) := hide (by rw [hwo]; exact Keeps.refl _ _)
      rw [← hwo] at HKo
      clear hwo
      go_wp2_with fail
      go_loopw [24] (fun i wr => ∃ m : Nat, i = .int .i64 m ∧ m ≤ row.length ∧ Hid (∀ x ∈ row.take m, 0 ≤ x ∧ x ≤ 999) ∧ Same wo wr) (fun i _ => row.length - (intOf i).toNat)
      case atStart => exact ⟨0, rfl, Nat.zero_le _, hide (by simp), HST.out⟩
      case round =>
        clear hck
        obtain ⟨m, rfl, hm, hin, hK2⟩ := hrel
        by_cases hlt2 : m < row.length
        · obtain ⟨rl, roff, rfl, hrl, hdl⟩ := HD.out m hlt2
          have hdk := Keeps.cell (HKo.out.tr hK2) (hdl m hlt2) trivial
          have hT := List.take_succ_eq_append_getElem hlt2
          generalize row[m] = x at hdk hT
          have HT := hide hT
          clear hdl hT
          by_cases hx0 : x < 0
          · go_wp2_with fail
            exact HR.out _ _ rfl (HKo.out.tr hK2)
          by_cases hx1 : 999 < x
          · go_wp2_with fail
            exact HR.out _ _ rfl (HKo.out.tr hK2)
          have HX := hide (show 0 ≤ x ∧ x ≤ 999 by omega)
          go_wp2_with fail
          go_roundw
          case rel =>
            refine ⟨m + 1, by go_num, by omega, hide (fun y hy => ?_), hK2⟩
            rw [HT.out] at hy
            rcases List.mem_append.1 hy with hy | hy
            · exact hin.out y hy
            · simp at hy; subst hy; exact HX.out
          case measure => simp [intOf]; omega
        · obtain rfl : m = row.length := by omega
          have HALL : Hid (∀ x ∈ row, 0 ≤ x ∧ x ≤ 999) := hide (by have := hin.out; rwa [List.take_length] at this)
          clear hin
          go_wp2_with fail
          go_roundw
          case rel => exact ⟨k + 1, by go_num, by omega, hide (HSR.out HALL.out), HKo.out.tr hK2⟩
          case measure => simp [intOf]; omega
    · exact absurd (fun l hl => hall.out l (by rw [List.take_of_length_le (by omega)]; exact hl)) HN.out

set_option maxRecDepth 10000 in
set_option maxHeartbeats 2000000 in
theorem refEncodeNot {v : Value} {ls : List (List Int)} (hv : RowsAt w v ls) (hno : ¬ (ls.length ≤ 6 ∧ Small ls))
    (hR : ∀ e w', e = .returned (.tuple #[.slice none 0 0, .bool false]) → Same w w' → R e w') :
    Calls Try.prog 19 #[v] w R := by
  have HR := hide hR
  clear hR
  obtain ⟨a, c, rfl, hc1, hc2, hcell⟩ := hv.open
  have HC := hide hcell
  clear hcell hv
  unfold maxLen at hc2
  by_cases h6 : 6 < ls.length
  · go_enter Try.func19, Try.ntmps19
    go_wp2_with fail
    exact HR.out _ _ rfl (Keeps.refl _ _)
  have HN : Hid (¬ Small ls) := hide fun h => hno ⟨by omega, h⟩
  clear hno
  go_enter Try.func19, Try.ntmps19
  go_wp2_with fail
  go_loopw [4] (fun i wr => ∃ k : Nat, i = .int .i64 k ∧ k ≤ ls.length ∧ Hid (∀ l ∈ ls.take k, ∀ x ∈ l, 0 ≤ x ∧ x ≤ 999) ∧ Same w wr) (fun i _ => ls.length - (intOf i).toNat)
  case atStart => exact ⟨0, rfl, Nat.zero_le _, hide (by simp), Keeps.refl _ _⟩
  case round =>
    obtain ⟨k, rfl, hk, hall, hK⟩ := hrel
    by_cases hlt : k < ls.length
    · obtain ⟨bl, off, rfl, hbl, hcl⟩ := HC.out k hlt
      obtain ⟨u, hu, hiu⟩ := hcl k hlt
      obtain ⟨ua, uc, rfl, hd1, hd2, hdell⟩ := hiu.open
      have hck0 := Keeps.cell hK hu trivial
      have HSR := hide (small_row hlt hall.out)
      generalize ls[k] = row at hck0 hd1 hdell HSR
      have HD := hide hdell
      have HKo := hide hK
      unfold maxLen at hd2
      clear hcl hu hiu hdell hK
      obtain ⟨wo, hwo⟩ : ∃ wo : World, wo = wr := ⟨_, rfl⟩
      have HST : Hid (Same wo wr) := hide (by rw [hwo]; exact Keeps.refl _ _)
      rw [← hwo] at HKo hck0
      have HCK := hide hck0
      clear hwo hck0
      go_wp2_with fail
      go_loopw [5] (fun i wr => ∃ m : Nat, i = .int .i64 m ∧ m ≤ row.length ∧ Hid (∀ x ∈ row.take m, 0 ≤ x ∧ x ≤ 999) ∧ Same wo wr) (fun i _ => row.length - (intOf i).toNat)
      case atStart => exact ⟨0, rfl, Nat.zero_le _, hide (by simp), HST.out⟩
      case round =>
        obtain ⟨m, rfl, hm, hin, hK2⟩ := hrel
        have hck := Keeps.cell hK2 HCK.out trivial
        by_cases hlt2 : m < row.length
        · obtain ⟨rl, roff, rfl, hrl, hdl⟩ := HD.out m hlt2
          have hdk := Keeps.cell (HKo.out.tr hK2) (hdl m hlt2) trivial
          have hT := List.take_succ_eq_append_getElem hlt2
          generalize row[m] = x at hdk hT
          have HT := hide hT
          clear hdl hT
          by_cases hx0 : x < 0
          · go_wp2_with fail
            exact HR.out _ _ rfl (HKo.out.tr hK2)
          by_cases hx1 : 999 < x
          · go_wp2_with fail
            exact HR.out _ _ rfl (HKo.out.tr hK2)
          have HX := hide (show 0 ≤ x ∧ x ≤ 999 by omega)
          go_wp2_with fail
          go_roundw
          case rel =>
            refine ⟨m + 1, by go_num, by omega, hide (fun y hy => ?_), hK2⟩
            rw [HT.out] at hy
            rcases List.mem_append.1 hy with hy | hy
            · exact hin.out y hy
            · simp at hy; subst hy; exact HX.out
          case measure => simp [intOf]; omega
        · obtain rfl : m = row.length := by omega
          have HALL : Hid (∀ x ∈ row, 0 ≤ x ∧ x ≤ 999) := hide (by have := hin.out; rwa [List.take_length] at this)
          clear hin
          go_wp2_with fail
          go_roundw
          case rel => exact ⟨k + 1, by go_num, by omega, hide (HSR.out HALL.out), HKo.out.tr hK2⟩
          case measure => simp [intOf]; omega
    · exact absurd (fun l hl => hall.out l (by rw [List.take_of_length_le (by omega)]; exact hl)) HN.out

end Go.Proofs.Ytbmpnfibebiaeaa
