/- The walks of sibyllaw16.known, BddRows, BddOnce, BddMakes. -/
import Derived.Test.YtonddhepndhgbaaOfLaw
import Derived.Test.YtonddhepndhgbaaSame
namespace Go.Proofs.Ytonddhepndhgbaa
open Go.RowKit

variable {R : Ending → World → Prop} {w : World} {a T : Nat} {L : List Nd}

/-- A law's walk: true, and what was there is as it was. -/
theorem law_of {f : Nat} {args : Array Value} {w : World} (h : ∀ R : Ending → World → Prop, Hid (∀ e w', e = .returned (.bool true) → Keeps (· < w.heap.size) w w' → R e w') → Calls Try.prog f args w R) :
    Calls Try.prog f args w fun e w' => e = .returned (.bool true) ∧ Below w.heap.size w w' :=
  h _ (hide fun _ _ he hk => ⟨he, ⟨hk.os, hk.tape, hk.output, hk.size, fun k hk' => hk.block k hk' hk'⟩⟩)

theorem known16 (hR : ∀ e w', e = .returned (.bool true) → Same w w' → R e w') : Calls Try.prog 36 #[] w R := by
  have HR := hide hR
  clear hR
  obtain ⟨B, hB⟩ : ∃ B, B = w.heap.size := ⟨_, rfl⟩
  have HB := hide hB
  clear hB
  go_enter Try.func36, Try.ntmps36
  go_wp2_with fail
  refine storeNew 1 (by decide) (by decide) ?_; rintro e w1 a rfl s1 k1 f1
  rw [← HB.out] at f1
  go_wp2_with fail
  have i2 := ints_of_block (heap_new w1 (.cells #[.int .i64 5, .int .i64 5] 3)) [5, 5] rfl (by simp [InI64]) (n := 2) (c := 2) rfl (Nat.le_refl _) (by decide)
  have s2 := s1.same ((Keeps.refl _ w1).alloc (.cells #[.int .i64 5, .int .i64 5] 3))
  have g2 := Grew.under s1 ((Keeps.refl _ w1).alloc (.cells #[.int .i64 5, .int .i64 5] 3))
  refine storeOfC s2 i2 (Apart.cells s2 (heap_new _ _) (by decide) (by decide)) (by decide) ?_; rintro e w3 rfl s3 g3
  rw [show (OfA (Int.toNat 1) [] [5, 5]).2 = 0 by decide]
  rw [show (OfA (Int.toNat 1) [] [5, 5]).1 = [.leaf 5] by decide] at s3
  go_wp2_with fail
  have i4 := ints_of_block (heap_new w3 (.cells #[.int .i64 5, .int .i64 7] 3)) [5, 7] rfl (by simp [InI64]) (n := 2) (c := 2) rfl (Nat.le_refl _) (by decide)
  have s4 := s3.same ((Keeps.refl _ w3).alloc (.cells #[.int .i64 5, .int .i64 7] 3))
  have g4 := Grew.under s3 ((Keeps.refl _ w3).alloc (.cells #[.int .i64 5, .int .i64 7] 3))
  refine storeOfC s4 i4 (Apart.cells s4 (heap_new _ _) (by decide) (by decide)) (by decide) ?_; rintro e w5 rfl s5 g5
  rw [show (OfA (Int.toNat 1) [.leaf 5] [5, 7]).2 = 2 by decide]
  rw [show (OfA (Int.toNat 1) [.leaf 5] [5, 7]).1 = [.leaf 5, .leaf 7, .fork 0 0 1] by decide] at s5
  go_wp2_with fail
  refine storeLen s5 ?_; rintro e rfl
  go_wp2_with fail
  refine storeNewNot 7 (by decide) ?_; rintro e rfl
  go_wp2_with fail
  have gg := ((g2.trans g3).trans g4).trans g5
  refine HR.out _ _ rfl (k1.trans (gg.below f1) fun x hx _ => ⟨trivial, by rw [HB.out]; exact hx⟩)

theorem refValue (i : Int) (hR : ∀ e, e = .returned (.bool (isVal i)) → R e w) :
    Calls Try.prog 37 #[.int .i64 i] w R := by
  have HR := hide hR
  clear hR
  by_cases h0 : 0 ≤ i
  · go_enter Try.func37, Try.ntmps37
    go_wp2_with fail
    exact HR.out _ (ret_bool (by simp [isVal, h0]))
  · go_enter Try.func37, Try.ntmps37
    go_wp2_with fail
    exact HR.out _ (ret_bool (by simp [isVal]; omega))

theorem all_prefix {row : List Int} {k : Nat} (h : ∀ i, i < k → isVal (row.getD i 0) = true) (hk : row.length ≤ k) : row.all isVal = true := by
  rw [List.all_eq_true]
  intro x hx
  obtain ⟨i, hi, rfl⟩ := List.getElem_of_mem hx
  have := h i (by omega)
  simpa [List.getD, List.getElem?_eq_getElem hi] using this

set_option maxHeartbeats 2000000 in
theorem bddRowsWalk (t : Int) (v : Value) (row : List Int) (w : World) (ht : InI64 t) (hv : IntsAt w v row) :
    Calls Try.prog 10 #[.int .i64 t, v] w fun e w' => e = .returned (.bool true) ∧ Below w.heap.size w w' := by
  refine law_of fun R HR => ?_
  have HV := hide hv
  have hlv := hv.lt
  obtain ⟨va, vc, rfl, hc1, hc2, hcell⟩ := hv.open
  have HC := hide hcell
  have HLV := hide hlv
  unfold maxLen at hc2
  unfold InI64 at ht
  clear hcell hv hlv
  by_cases h1 : t < 0 ∨ 6 < t
  · go_enter Try.func10, Try.ntmps10
    go_wp2_with fail
    all_goals first | exact HR.out _ _ rfl (Keeps.refl _ _) | (exfalso; omega)
  · obtain ⟨T, rfl⟩ := Int.eq_ofNat_of_zero_le (show 0 ≤ t by omega)
    have h6 : T ≤ 6 := by omega
    have hw2 := wrap_two h6
    clear h1 ht
    by_cases h2 : row.length = 2 ^ T
    · have hne : (((row.length : Nat) : Int) != ((2 ^ T : Nat) : Int)) = false := by rw [h2]; simp
      have H2 := hide h2
      clear h2
      generalize hpp : 2 ^ T = p at hw2 hne
      have HPP := hide hpp
      clear hpp
      go_enter Try.func10, Try.ntmps10
      go_wp2_with fail
      go_loopw [5] (fun i wr => ∃ k : Nat, i = .int .i64 k ∧ k ≤ row.length ∧ Hid (∀ i, i < k → isVal (row.getD i 0) = true) ∧ Same w wr) (fun i _ => row.length - (intOf i).toNat)
      case atStart => exact ⟨0, rfl, Nat.zero_le _, hide (fun i hi => absurd hi (Nat.not_lt_zero _)), Keeps.refl _ _⟩
      case round =>
        obtain ⟨k, rfl, hk, hall, hK⟩ := hrel
        by_cases hlt : k < row.length
        · obtain ⟨bl, off, rfl, hbl, hcl⟩ := HC.out k hlt
          have hck := Keeps.cell hK (hcl k hlt) trivial
          clear hcl
          obtain ⟨x, hx⟩ : ∃ x, x = row[k] := ⟨_, rfl⟩
          rw [← hx] at hck
          have HX := hide (show row.getD k 0 = x by rw [hx]; simp [List.getD, List.getElem?_eq_getElem hlt])
          clear hx
          go_wp2_with fail
          refine refValue x ?_; rintro e rfl
          cases hxv : isVal x with
          | false =>
            go_wp2_with fail
            exact HR.out _ _ rfl (hK.mono fun _ _ _ => trivial)
          | true =>
            have HXV := hide hxv
            clear hxv
            go_wp2_with fail
            go_roundw
            case rel =>
              refine ⟨k + 1, by go_num, by omega, hide (fun i hi => ?_), hK⟩
              by_cases e : i = k
              · subst e; rw [HX.out]; exact HXV.out
              · exact hall.out i (by omega)
            case measure => simp [intOf]; omega
        · have hval := hide (all_prefix hall.out (by omega))
          clear hall hk
          go_wp2_with fail
          refine storeNew (T : Int) (by omega) (by omega) ?_; rintro e w1 a rfl s1 k1 f1
          rw [Int.toNat_natCast] at s1
          have kk := hide (hK.tr k1)
          have ff := hide (show ∀ x, Foot w1 a x → w.heap.size ≤ x from fun x hx => Nat.le_trans hK.size (f1 x hx))
          clear hK k1 f1
          go_wp2_with fail
          refine storeOfC s1 (HV.out.same kk.out) (Apart.old ff.out HLV.out kk.out.size) (by decide) ?_; rintro e w2 rfl s2 g2
          obtain ⟨id, hm, hvid⟩ := OfA_made (WF.nil h6) H2.out hval.out
          rw [hm.num]
          have hidl := hm.lt
          generalize (OfA T [] row).1 = L at s2 hvid hidl
          have kB : Keeps (· < w.heap.size) w w2 := kk.out.trans (g2.below ff.out) fun x _ hx => ⟨trivial, hx⟩
          have hv2 : IntsAt w2 (.slice va row.length vc) row := HV.out.keep kB HLV.out
          have HV2 := hide hv2
          have KB := hide kB
          have HVI := hide hvid
          clear hm hv2 kB hvid
          go_wp2_with fail
          go_loopw [8] (fun i wr => ∃ k : Nat, i = .int .i64 k ∧ k ≤ row.length ∧ Same w2 wr) (fun i _ => row.length - (intOf i).toNat)
          case atStart => exact ⟨0, rfl, Nat.zero_le _, Keeps.refl _ _⟩
          case round =>
            obtain ⟨k, rfl, hk, hK⟩ := hrel
            by_cases hlt : k < row.length
            · obtain ⟨va', vc', e1, _, _, hcell2⟩ := HV2.out.open
              simp only [Value.slice.injEq] at e1
              obtain ⟨rfl, _, rfl⟩ := e1
              obtain ⟨bl, off, rfl, hbl, hcl⟩ := hcell2 k hlt
              have hck := Keeps.cell hK (hcl k hlt) trivial
              clear hcl hcell2
              obtain ⟨x, hx⟩ : ∃ x, x = row[k] := ⟨_, rfl⟩
              rw [← hx] at hck
              have hat : atA T L id k = x := by
                unfold atA
                have h2 := H2.out
                rw [if_pos ⟨by omega, by omega, by omega, by rw [h2] at hlt; exact_mod_cast hlt⟩, Int.toNat_natCast, Int.toNat_natCast, HVI.out k (by rw [← h2]; exact hlt), hx]
                simp [List.getD, List.getElem?_eq_getElem hlt]
              have HAT := hide hat
              have S2 := hide (s2.same hK)
              have hxx : (x != x) = false := by simp
              clear hx hat
              go_wp2_with fail
              refine wp_region_same (by kernel_rfl) (by kernel_rfl) ?_
              repeat
                (apply wpQuiet_step
                 intro K hK
                 first
                   | (apply quiet_skip
                      case hw => rfl
                      go_simp
                      refine hK _ ?_; clear hK K)
                   | (apply quiet_do
                      case hw => rfl
                      case h =>
                        intro w' hw'
                        (have q1 := Keeps.cell hw' hck trivial)
                        go_simp
                        first | exact rfl | (exact storeAtC (S2.out.same hw') id k (fun e w'' he hk => ⟨he, hw'.tr hk⟩))
                      go_simp
                      refine hK _ ?_; clear hK K))
              apply wpQuiet_nil
              intro w3 k3
              rw [HAT.out]
              go_wp2_with fail
              go_roundw
              case rel => exact ⟨k + 1, by go_num, by omega, hK.tr k3⟩
              case measure => simp [intOf]; omega
            · have S2 := hide (s2.same hK)
              have K2 := hide hK
              clear s2 hK
              have hge : (0 : Int) ≤ (id : Int) := by omega
              go_wp2_with fail
              refine storeRow S2.out id ?_; rintro e w3 rv rfl o3 k3
              have hrow : rowA T L id = row := by
                unfold rowA
                rw [if_pos ⟨by omega, by omega⟩, Int.toNat_natCast]
                apply List.ext_getElem (by simp [← H2.out])
                intro i h1 h2
                simp only [List.getElem_map, List.getElem_range]
                rw [HVI.out i (by simpa using h1)]
                simp [List.getD, List.getElem?_eq_getElem h2]
              rw [hrow] at o3
              go_wp2_with fail
              refine sameInts (o3.ints (HV.out.2)) ((HV2.out.same K2.out).same k3) ?_; rintro e w4 rfl k4
              rw [show decide (row = row) = true by simp]
              go_wp2_with fail
              refine storeAtC ((S2.out.same k3).same k4) id _ ?_; rintro e w5 rfl k5
              rw [show atA T L id row.length = -1 by unfold atA; rw [if_neg]; rintro ⟨_, _, _, h⟩; rw [H2.out] at h; exact absurd h (by simp)]
              go_wp2_with fail
              refine storeAtC (((S2.out.same k3).same k4).same k5) id _ ?_; rintro e w6 rfl k6
              rw [show atA T L id (-1) = -1 by unfold atA; rw [if_neg]; rintro ⟨_, _, h, _⟩; omega]
              go_wp2_with fail
              refine known16 ?_; rintro e w7 rfl k7
              go_wp2_with fail
              exact HR.out _ _ rfl (KB.out.tr_same ((((K2.out.tr k3).tr k4).tr k5).tr (k6.tr k7)))
    · have hne : (((row.length : Nat) : Int) != ((2 ^ T : Nat) : Int)) = true := by rw [bne_iff_ne]; intro e; exact h2 (by exact_mod_cast e)
      clear h2
      generalize hpp : 2 ^ T = p at hw2 hne
      clear hpp
      go_enter Try.func10, Try.ntmps10
      go_wp2_with fail
      all_goals first | exact HR.out _ _ rfl (Keeps.refl _ _) | (exfalso; omega)

end Go.Proofs.Ytonddhepndhgbaa
