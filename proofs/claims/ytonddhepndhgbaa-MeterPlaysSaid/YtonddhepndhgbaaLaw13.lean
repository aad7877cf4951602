/- The walks of the three laws of chapter 13: for every input they return true and leave what was there. -/
import Derived.Test.YtonddhepndhgbaaRef13
import Derived.Test.YtonddhepndhgbaaOrd
namespace Go.Proofs.Ytonddhepndhgbaa
open Go.RowKit

theorem meterOfNothingWalk (n : Int) (w : World) (_ : InI64 n) :
    Calls Try.prog 5 #[.int .i64 n] w fun e w' => e = .returned (.bool true) ∧ Below w.heap.size w w' := by
  refine Calls.mono (R := fun e w' => e = .returned (.bool true) ∧ Same w w') ?_ fun e w' h => ⟨h.1, h.2.below⟩
  generalize hR' : (fun e w' => e = Ending.returned (.bool true) ∧ Same w w') = R
  have HR : Hid (∀ e w', e = .returned (.bool true) → Same w w' → R e w') := hide (by subst hR'; exact fun e w' a b => ⟨a, b⟩)
  clear hR'
  go_enter Try.func5, Try.ntmps5
  go_wp2_with fail
  refine spendNil n ?_; rintro e rfl
  go_wp2_with fail
  refine meterLeftNil ?_; rintro e rfl
  go_wp2_with fail
  refine meterOutNil ?_; rintro e rfl
  go_wp2_with fail
  refine known13 ?_; rintro e w1 rfl k1
  go_wp2_with fail
  exact HR.out _ _ rfl k1


/-- The sum of the first k. -/
def sumTo (l : List Int) (k : Nat) : Int := (l.take k).sum

set_option maxHeartbeats 1000000 in
theorem meterSumWalk (fuel : Int) (v : Value) (l : List Int) (w : World) (hf : InI64 fuel) (hv : IntsAt w v l) :
    Calls Try.prog 4 #[.int .i64 fuel, v] w fun e w' => e = .returned (.bool true) ∧ Below w.heap.size w w' := by
  refine Calls.mono (R := fun e w' => e = .returned (.bool true) ∧ Same w w') ?_ fun e w' h => ⟨h.1, h.2.below⟩
  generalize hR' : (fun e w' => e = Ending.returned (.bool true) ∧ Same w w') = R
  have HR : Hid (∀ e w', e = .returned (.bool true) → Same w w' → R e w') := hide (by subst hR'; exact fun e w' a b => ⟨a, b⟩)
  clear hR'
  obtain ⟨a, c, rfl, hc1, hc2, hcell⟩ := hv.open
  have HV := hide hv.2
  clear hv
  unfold InI64 at hf
  unfold maxLen at hc2
  have HC := hide hcell
  clear hcell
  by_cases hl : 100 < l.length ∨ fuel < 0 ∨ 1099511627776 < fuel
  · go_enter Try.func4, Try.ntmps4
    go_wp2_with fail
    all_goals first | exact HR.out _ _ rfl (Keeps.refl _ _) | (exfalso; omega)
  · have hl1 : l.length ≤ 100 := by omega
    have hl2 : 0 ≤ fuel := by omega
    have hl3 : fuel ≤ 1099511627776 := by omega
    clear hl
    go_enter Try.func4, Try.ntmps4
    go_wp2_with fail
    refine meterNew fuel ?_; rintro e w1 rfl m1 k1
    generalize hm : w.heap.size = am at *
    go_wp2_with fail
    go_loopw [6, 7, 8] (fun t b i wr => ∃ k : Nat, ∃ s : Int, ∃ d : Bool, ∃ n : Int, i = .int .i64 k ∧ k ≤ l.length ∧ 0 ≤ s ∧ s ≤ k * 1099511627776 ∧ t = .int .i64 s ∧ b = .bool d ∧
      Hid (d = decide (s ≤ fuel)) ∧ Hid (n = if d = true then fuel - s else 0) ∧ MeterAt wr am n (!d) ∧ Keeps (· ≠ am) w wr) (fun _ _ i _ => l.length - (intOf i).toNat)
    case atStart => exact ⟨0, 0, true, fuel, rfl, Nat.zero_le _, by omega, by omega, rfl, rfl, hide (by simp [hl2]), hide (by simp), by simpa [show max fuel 0 = fuel by omega] using m1, k1.mono (fun _ _ _ => trivial)⟩
    case round =>
      obtain ⟨k, s, d, n, rfl, hk, hs0, hs1, rfl, rfl, hd, hn, hM, hK⟩ := hrel
      have hsame : Same w wr := hK.mono (by rw [hm]; intro x hx _; omega)
      have HS := hide hsame
      clear hsame
      by_cases hlt : k < l.length
      · obtain ⟨bl, off, rfl, hbl, hcl⟩ := HC.out k hlt
        have hck := Keeps.cell hK (hcl k hlt) (by show bl ≠ am; omega)
        clear hcl
        obtain ⟨z, hz⟩ : ∃ z, z = l[k] := ⟨_, rfl⟩
        rw [← hz] at hck
        have hzb : InI64 z := by rw [hz]; exact HV.out _ (List.getElem_mem _)
        clear hz
        obtain ⟨hz1, hz2⟩ := hzb
        by_cases hz3 : z < 0 ∨ 1099511627776 < z
        · go_wp2_with fail
          all_goals first | exact HR.out _ _ rfl HS.out | (exfalso; omega)
        · have hz4 : 0 ≤ z := by omega
          have hz5 : z ≤ 1099511627776 := by omega
          clear hz3
          cases d
          · have h1 : ¬ s + z ≤ fuel := by have := hd.out; simp at this; omega
            have h2 : n = 0 := by have := hn.out; simpa using this
            subst h2
            go_wp2_with fail
            refine spend z hM hz2 (by omega) (by omega) ?_; rintro e w2 rfl m2 k2
            rw [show spendOk 0 z (!false) = false by rfl]
            rw [show spendLeft 0 z (!false) = 0 by rfl, show spendOut 0 z (!false) = true by rfl] at m2
            go_wp2_with fail
            refine meterOut m2 ?_; rintro e rfl
            go_wp2_with fail
            go_roundw
            case rel => exact ⟨k + 1, s + z, false, 0, by go_num, by omega, by omega, by omega, rfl, rfl, hide (by simp; omega), hide (by simp), m2, hK.tr k2⟩
            case measure => simp [intOf]; omega
          · have h0 : s ≤ fuel := by have := hd.out; simpa using this
            have h2 : n = fuel - s := by have := hn.out; simpa using this
            subst h2
            by_cases h1 : s + z ≤ fuel
            · go_wp2_with fail
              refine spend z hM hz2 (by omega) (by omega) ?_; rintro e w2 rfl m2 k2
              rw [show spendOk (fuel - s) z (!true) = true by simp [spendOk]; omega]
              rw [show spendLeft (fuel - s) z (!true) = fuel - (s + z) by unfold spendLeft; rw [if_neg (by simp; omega), if_pos (by omega)]; omega, show spendOut (fuel - s) z (!true) = false by simp [spendOut]; omega] at m2
              go_wp2_with fail
              refine meterOut m2 ?_; rintro e rfl
              go_wp2_with fail
              go_roundw
              case rel => exact ⟨k + 1, s + z, true, fuel - (s + z), by go_num, by omega, by omega, by omega, rfl, rfl, hide (by simp; omega), hide (by simp), m2, hK.tr k2⟩
              case measure => simp [intOf]; omega
            · go_wp2_with fail
              refine spend z hM hz2 (by omega) (by omega) ?_; rintro e w2 rfl m2 k2
              rw [show spendOk (fuel - s) z (!true) = false by simp [spendOk]; omega]
              rw [show spendLeft (fuel - s) z (!true) = 0 by unfold spendLeft; rw [if_neg (by simp; omega), if_neg (by omega)], show spendOut (fuel - s) z (!true) = true by simp [spendOut]; omega] at m2
              go_wp2_with fail
              refine meterOut m2 ?_; rintro e rfl
              go_wp2_with fail
              go_roundw
              case rel => exact ⟨k + 1, s + z, false, 0, by go_num, by omega, by omega, by omega, rfl, rfl, hide (by simp; omega), hide (by simp), m2, hK.tr k2⟩
              case measure => simp [intOf]; omega
      · cases d
        · go_wp2_with fail
          refine known13 ?_; rintro e w3 rfl k3
          go_wp2_with fail
          exact HR.out _ _ rfl (HS.out.tr k3)
        · have h2 : n = fuel - s := by have := hn.out; simpa using this
          subst h2
          go_wp2_with fail
          refine meterLeft hM ?_; rintro e rfl
          go_wp2_with fail
          refine known13 ?_; rintro e w3 rfl k3
          go_wp2_with fail
          exact HR.out _ _ rfl (HS.out.tr k3)

end Go.Proofs.Ytonddhepndhgbaa
