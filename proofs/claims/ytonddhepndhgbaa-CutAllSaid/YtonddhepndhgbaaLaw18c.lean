/- The walk of CutAll. -/
import Derived.Test.YtonddhepndhgbaaLaw18b
namespace Go.Proofs.Ytonddhepndhgbaa
open Go.RowKit

variable {R : Ending → World → Prop} {w : World} {a T : Nat} {L : List Nd}

theorem mixB_set (c d m : Nat) : mixB (setB c m (d.testBit m)) d m = mixB c d (m + 1) := by
  apply Nat.eq_of_testBit_eq
  intro i
  rw [mixB_bit, mixB_bit]
  by_cases h : i < m
  · rw [if_pos h, if_pos (by omega)]
  · rw [if_neg h]
    by_cases h2 : i = m
    · subst h2; rw [setB_at, if_pos (by omega)]
    · rw [setB_ne _ _ _ h2, if_neg (by omega)]

set_option maxHeartbeats 2000000 in
theorem cutAllWalk (t : Int) (v : Value) (f : List Int) (letter : Int) (w : World) (ht : InI64 t) (hv : IntsAt w v f) (hle : InI64 letter) :
    Calls Try.prog 14 #[.int .i64 t, v, .int .i64 letter] w fun e w' => e = .returned (.bool true) ∧ Below w.heap.size w w' := by
  refine law_of fun R HR => ?_
  unfold InI64 at hle
  by_cases h1 : t < 0 ∨ 6 < t ∨ f.length ≠ 2 ^ t.toNat
  · go_enter Try.func14, Try.ntmps14
    go_wp2_with fail
    refine of18Not hv ht h1 ?_; rintro e rfl
    go_wp2_with fail
    exact HR.out _ _ rfl (Keeps.refl _ _)
  · obtain ⟨T, rfl⟩ := Int.eq_ofNat_of_zero_le (show 0 ≤ t by omega)
    have h6 : T ≤ 6 := by omega
    have hl : f.length = 2 ^ T := by
      have : ¬ (f.length ≠ 2 ^ (T : Int).toNat) := fun h => h1 (.inr (.inr h))
      simpa using this
    have HL := hide hl
    have HLV := hide hv.lt
    have HV := hide hv
    have hw2 := wrap_two h6
    have h64 := two_le h6
    clear h1 ht hl hv
    by_cases h2 : letter < 0
    · go_enter Try.func14, Try.ntmps14
      go_wp2_with fail
      refine of18 HV.out h6 HL.out ?_; rintro e w1 s rfl s1 k1 f1
      go_wp2_with fail
      exact HR.out _ _ rfl k1
    · obtain ⟨d, rfl⟩ := Int.eq_ofNat_of_zero_le (show 0 ≤ letter by omega)
      by_cases h3 : 2 ^ T ≤ d
      · generalize hpp : 2 ^ T = p at hw2 h3 h64
        clear hpp
        go_enter Try.func14, Try.ntmps14
        go_wp2_with fail
        refine of18 HV.out h6 HL.out ?_; rintro e w1 s rfl s1 k1 f1
        have K1 := hide k1
        clear k1 f1
        go_wp2_with fail
        all_goals first | exact HR.out _ _ rfl K1.out | (exfalso; simp_all; omega)
      · have HD := hide (show d < 2 ^ T by omega)
        have hd64 : d < 64 := by omega
        have hdp : d < 2 ^ T := by omega
        clear h3 h2
        generalize hpp : 2 ^ T = p at hw2 h64 hdp
        have HPP := hide hpp
        clear hpp
        rcases OfA_cases h6 HL.out with ⟨k, hk, hkl, hlen, hkv⟩ | hk
        · generalize hr : OfA T [] f = r0 at hk hkl hlen hkv
          obtain ⟨L0, i0⟩ := r0
          simp only at hk hkl hlen hkv
          subst hk
          have E0 := hide hr
          have HKV := hide hkv
          clear hr hkv
          go_enter Try.func14, Try.ntmps14
          go_wp2_with fail
          refine of18 HV.out h6 HL.out ?_; rw [E0.out]; rintro e w1 s rfl s1 k1 f1
          simp only []
          have F1 := hide f1
          have K1 := hide k1
          have WF0 := s1.wf
          clear f1 k1
          go_wp2_with fail
          go_loopw [10, 11] (fun u j wr => ∃ m x : Nat, ∃ L, j = .int .i64 m ∧ m ≤ T ∧ u = .int .i64 x ∧ StoreAt wr s T L ∧ L0 <+: L ∧ x < L.length ∧ Hid (∀ c, val L x c = val L k (mixB c d m)) ∧ L.length ≤ 127 + 64 * m ∧ Keeps (· < w.heap.size) w wr ∧ Hid (∀ y, Foot wr s y → w.heap.size ≤ y))
            (fun _ j _ => T - (intOf j).toNat)
          case atStart => exact ⟨0, k, L0, rfl, Nat.zero_le _, rfl, s1, List.prefix_rfl, hkl, hide (fun c => rfl), by omega, K1.out, F1⟩
          case round =>
            obtain ⟨m, x, L, rfl, hm, rfl, sr, pr, xr, vr, lr, kr, fr⟩ := hrel
            have PR := hide pr
            have KR := hide kr
            have wfr := sr.wf
            clear pr kr
            by_cases hlt : m < T
            · have hbt := bit_test d m (by omega)
              generalize hb : d.testBit m = b at hbt
              have HB := hide hb
              clear hb
              go_wp2_with fail
              refine cutFix sr x m b (by omega) ?_; rintro e w2 r2 L2 rfl s2 g2 a2
              obtain ⟨x2, rfl, hx2⟩ := a2.yes xr hlt
              have hkl0 : k < L.length := Nat.lt_of_lt_of_le hkl PR.out.length_le
              have hv2 : ∀ c, val L2 x2 c = val L2 k (mixB c d (m + 1)) := fun c => by
                rw [hx2.val, val_prefix wfr s2.wf a2.1 _ x xr, vr.out, val_prefix wfr s2.wf a2.1 _ k hkl0, ← mixB_set, HB.out]
              have HX := hide (And.intro hx2.lt (And.intro hv2 (And.intro a2.1 a2.2.1)))
              have HK2 := hide (And.intro (KR.out.tr (g2.below fr.out)) (g2.footB fr.out KR.out.size))
              clear hx2 hv2 a2 g2 hbt
              go_wp2_with fail
              go_roundw
              case rel => exact ⟨m + 1, x2, L2, by go_num, by omega, rfl, s2, PR.out.trans HX.out.2.2.1, HX.out.1, hide HX.out.2.1, by have := HX.out.2.2.2; omega, HK2.out.1, hide HK2.out.2⟩
              case measure => simp [intOf]; omega
            · obtain rfl : m = T := by omega
              have hfix := all_fixed (d := d) wfr xr vr.out
              have hkl0 : k < L.length := Nat.lt_of_lt_of_le hkl PR.out.length_le
              have hdl : d < f.length := by rw [HL.out]; exact HD.out
              obtain ⟨z, hz⟩ : ∃ z, z = f[d] := ⟨_, rfl⟩
              have hz0 : f.getD d 0 = z := by rw [hz]; simp [List.getD, List.getElem?_eq_getElem hdl]
              have hat : atA m L x 0 = z := by
                unfold atA
                have h0p : (0 : Int) < 2 ^ m := by
                  have h := Nat.pow_pos (n := m) (show 0 < 2 by decide)
                  exact_mod_cast h
                rw [if_pos ⟨by omega, by omega, by omega, h0p⟩, Int.toNat_natCast]
                show val L x 0 = z
                rw [hfix.2, Nat.mod_eq_of_lt HD.out, val_prefix WF0 wfr PR.out d k hkl, HKV.out d HD.out, hz0]
              have hv2 : IntsAt wr v f := HV.out.keep KR.out HLV.out
              obtain ⟨va, vc, rfl, hc1, hc2, hcell⟩ := hv2.open
              obtain ⟨bl, off, rfl, hbl, hcl⟩ := hcell d hdl
              have hck := hcl d hdl
              rw [← hz] at hck
              unfold maxLen at hc2
              have HT := hide (show trackA L x = -1 from hfix.1)
              have HA := hide hat
              have SR := hide sr
              have hzz : (z == z) = true := by simp
              clear hcl hcell hz hz0 hat hfix hv2 sr
              go_wp2_with fail
              refine wp_region_same (by kernel_rfl) (by kernel_rfl) ?_
              repeat
                (refine wpQuiet_step (fun K hK => ?_)
                 first
                   | (apply quiet_skip
                      case hw => rfl
                      go_simp
                      refine hK _ ?_; clear hK K)
                   | (apply quiet_do
                      case hw => rfl
                      case h =>
                        intro w' hw'
                        (have q1 := Keeps.cell hw' hck trivial)
                        go_simp
                        first | exact rfl | (first | (go_at_call 47; exact storeTrack (SR.out.same hw') x (fun e w'' he hk => ⟨by rw [HT.out] at he; exact he, hw'.tr hk⟩)) | (go_at_call 38; exact storeAtC (SR.out.same hw') x 0 (fun e w'' he hk => ⟨by rw [HA.out] at he; exact he, hw'.tr hk⟩)) | (go_at_call 43; exact known18 (fun e w'' he hk => ⟨he, hw'.tr hk⟩)))
                      go_simp
                      refine hK _ ?_; clear hK K))
              refine wpQuiet_nil ?_
              intro w2 k2
              go_wp2_with fail
              exact HR.out _ _ rfl (KR.out.tr_same k2)
        · generalize hr : OfA T [] f = r0 at hk
          obtain ⟨L0, i0⟩ := r0
          simp only at hk
          subst hk
          have E0 := hide hr
          clear hr
          go_enter Try.func14, Try.ntmps14
          go_wp2_with fail
          refine of18 HV.out h6 HL.out ?_; rw [E0.out]; rintro e w1 s rfl s1 k1 f1
          simp only []
          go_wp2_with fail
          refine known18 ?_; rintro e w2 rfl k2
          go_wp2_with fail
          exact HR.out _ _ rfl (k1.tr_same k2)

end Go.Proofs.Ytonddhepndhgbaa
