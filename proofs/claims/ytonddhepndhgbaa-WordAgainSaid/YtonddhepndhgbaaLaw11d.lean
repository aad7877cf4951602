/- The walk of WordAgain. -/
import Derived.Test.YtonddhepndhgbaaLaw11c
namespace Go.Proofs.Ytonddhepndhgbaa
open Go.RowKit

variable {R : Ending → World → Prop} {w : World}

theorem mask_bits {x n p : Nat} (hx : x < 64) (hn : n ≤ 6) (hp : 2 ^ n = p) : bits .and .i64 (x : Int) ((p : Int) - 1) = ((x % p : Nat) : Int) := by
  subst hp
  have h0 : 0 < 2 ^ n := Nat.pow_pos (by decide)
  have h6 : 2 ^ n ≤ 64 := two_le hn
  rw [show (((2 ^ n : Nat) : Int) - 1) = ((2 ^ n - 1 : Nat) : Int) by omega, i64_and_nat _ _ (by omega) (by omega), Nat.and_two_pow_sub_one_eq_mod]

/-- The letters cut, as ints. -/
def cutI (p : Nat) (l : List Int) : List Int := l.map fun x => ((x.toNat % p : Nat) : Int)

theorem cutI_nat (n : Nat) (W : List Nat) : cutI (2 ^ n) (W.map Int.ofNat) = (cutTo n W).map Int.ofNat := by
  unfold cutI cutTo
  rw [List.map_map, List.map_map]
  rfl

theorem decRows_small (W : List Nat) (n : Nat) (hW : W.length ≤ 1000) : Small (decRows W n W.length 0) := by
  intro l hl x hx
  unfold decRows at hl
  obtain ⟨i, _, rfl⟩ := List.mem_map.1 hl
  rw [if_neg (by omega)] at hx
  have := posOf_bounds W i W.length x hx
  omega

theorem cut_bounds (n : Nat) (W : List Nat) (h : ∀ y ∈ W, y < 64) : ∀ x ∈ (cutTo n W).map Int.ofNat, InI64 x := by
  intro x hx
  obtain ⟨y, hy, rfl⟩ := List.mem_map.1 hx
  obtain ⟨z, hz, rfl⟩ := List.mem_map.1 hy
  have h1 := h z hz
  have h2 := Nat.mod_le z (2 ^ n)
  simp only [Int.ofNat_eq_natCast, InI64]
  generalize z % 2 ^ n = y at h2
  omega

set_option maxHeartbeats 2000000 in
theorem wordAgainWalk (v : Value) (l : List Int) (n : Int) (w : World) (hv : IntsAt w v l) (hn : InI64 n) :
    Calls Try.prog 8 #[v, .int .i64 n] w fun e w' => e = .returned (.bool true) ∧ Below w.heap.size w w' := by
  refine law_of fun R HR => ?_
  have HV := hide hv
  obtain ⟨va, vc, rfl, hc1, hc2, hcell⟩ := hv.open
  have HC := hide hcell
  unfold maxLen at hc2
  unfold InI64 at hn
  clear hcell hv
  by_cases h1 : 300 < l.length
  · go_enter Try.func8, Try.ntmps8
    go_wp2_with fail
    all_goals exact HR.out _ _ rfl (Keeps.refl _ _)
  · by_cases h2 : n < 0
    · go_enter Try.func8, Try.ntmps8
      go_wp2_with fail
      all_goals exact HR.out _ _ rfl (Keeps.refl _ _)
    · by_cases h3 : 6 < n
      · go_enter Try.func8, Try.ntmps8
        go_wp2_with fail
        all_goals exact HR.out _ _ rfl (Keeps.refl _ _)
      · obtain ⟨n, rfl⟩ := Int.eq_ofNat_of_zero_le (show 0 ≤ n by omega)
        have hn6 : n ≤ 6 := by omega
        have hw2 := wrap_two hn6
        have h64p := two_le hn6
        have h1p : 0 < 2 ^ n := Nat.pow_pos (by decide)
        have hwb : wrap64 ((2 : Int) ^ n - 1) = ((2 ^ n : Nat) : Int) - 1 := by
          have h := h64p
          have h' := h1p
          rw [show ((2 : Int) ^ n) = ((2 ^ n : Nat) : Int) by simp]
          generalize 2 ^ n = q at h h'
          exact IntWalk.wrap64_in _ ⟨by omega, by omega⟩
        have HMASK := hide (fun (x : Nat) (hx : x < 64) => mask_bits hx hn6 (rfl : 2 ^ n = 2 ^ n))
        have HCUT := hide (cutI_nat n)
        generalize hpp : 2 ^ n = p at hw2 h64p h1p HMASK HCUT
        clear hpp
        obtain ⟨B, hBs⟩ : ∃ B, B = w.heap.size := ⟨_, rfl⟩
        have HBS := hide hBs
        clear hBs
        go_enter Try.func8, Try.ntmps8
        go_wp2_with fail
        go_loopw [5, 6] (fun u i wr => ∃ k : Nat, i = .int .i64 k ∧ k ≤ l.length ∧ Hid (∀ x ∈ l.take k, 0 ≤ x ∧ x ≤ 63) ∧ OwnInts wr B u (cutI p (l.take k)) ∧ Same w wr) (fun _ i _ => l.length - (intOf i).toNat)
        case atStart => exact ⟨0, rfl, Nat.zero_le _, hide (by simp), World.ownsRow_nil _ _ _ _, Keeps.refl _ _⟩
        case round =>
          obtain ⟨k, rfl, hk, hall, hown, hK⟩ := hrel
          by_cases hlt : k < l.length
          · obtain ⟨bl, off, rfl, hbl, hcl⟩ := HC.out k hlt
            have hck := Keeps.cell hK (hcl k hlt) trivial
            have hT := List.take_succ_eq_append_getElem hlt
            generalize l[k] = x at hck hT
            have HT := hide hT
            clear hcl hT
            by_cases hx0 : x < 0
            · clear hown
              go_wp2_with fail
              all_goals exact HR.out _ _ rfl (hK.mono fun _ _ _ => trivial)
            · by_cases hx1 : 63 < x
              · clear hown
                go_wp2_with fail
                all_goals exact HR.out _ _ rfl (hK.mono fun _ _ _ => trivial)
              · obtain ⟨y, rfl⟩ := Int.eq_ofNat_of_zero_le (show 0 ≤ x by omega)
                have hy64 : y < 64 := by omega
                have HX := hide (show (0 : Int) ≤ (y : Int) ∧ (y : Int) ≤ 63 by omega)
                have hmask := HMASK.out y hy64
                have hlen : (cutI p (l.take k)).length = k := by unfold cutI; simp; omega
                obtain ⟨g, cap1, w2, hr, hown2, hk2, hg, _⟩ := append_one (P := Try.prog) wr 22 22 3 Try.underlying22 int_info rfl hown (by rw [HBS.out]; exact hK.size) (.int .i64 ((y % p : Nat) : Int)) rfl (by rw [hlen]; omega) (by decide)
                have hK2 : Same w w2 := by
                  refine hK.trans hk2 fun x hx _ => ⟨trivial, ?_⟩
                  intro e
                  have := (hown.lt x e).1
                  rw [HBS.out] at this; omega
                have HO : Hid (OwnInts w2 B (.slice (some ⟨g, 0, none⟩) ((cutI p (l.take k)).length + 1) cap1) (cutI p (l.take (k + 1)))) := by
                  refine hide ?_
                  unfold OwnInts
                  rw [HT.out]
                  simpa [cutI] using hown2
                rw [hlen] at HO
                rw [hlen] at hr
                clear hown2 hown hk2 hlen
                go_wp2_with (at_builtin; refine wpList_append_run rfl _ _ _ rfl rfl rfl hr ?_; clear hr)
                go_roundw
                case rel =>
                  refine ⟨k + 1, by go_num, by omega, hide (fun y hy => ?_), HO.out, hK2⟩
                  rw [HT.out] at hy
                  rcases List.mem_append.1 hy with hy | hy
                  · exact hall.out y hy
                  · simp at hy; subst hy; exact HX.out
                case measure => simp [intOf]; omega
          · obtain rfl : k = l.length := by omega
            have hall2 := hall.out
            rw [List.take_length] at hall2 hown
            obtain ⟨W, rfl, h64⟩ := as_nats hall2
            rw [HCUT.out] at hown
            have H64 := hide h64
            have hWl : W.length ≤ 300 := by simpa using h1
            have HV2 : Hid (IntsAt w (.slice va W.length vc) (W.map Int.ofNat)) := hide (by have := HV.out; rw [List.length_map] at this; exact this)
            simp only [List.length_map] at hc1
            have HB := hide (decRows_bounds W n W.length (by omega))
            have HSM := hide (decRows_small W n (by omega))
            have HCB := hide (cut_bounds n W h64)
            have HCL : Hid (((cutTo n W).map Int.ofNat).length ≤ 1000) := hide (by simp [cutTo]; omega)
            have HI := hide (hown.ints HCB.out)
            clear hall hall2 h64 HC hown
            have HK := hide hK
            clear hK
            go_wp2_with fail
            refine wordDecode (HV2.out.same HK.out) H64.out n hn6 (by omega) ?_; rintro e w1 b1 vs1 rfl r1 k1
            have R1 := hide (r1.rows HB.out (n := n) (by rw [decRows_len]) (by unfold maxLen; omega))
            have HK1 := hide (HK.out.tr k1)
            have HI1 := hide (HI.out.same k1)
            clear r1 k1
            go_wp2_with fail
            refine wordEncode R1.out HSM.out (by rw [decRows_len]; exact hn6) ?_; rintro e w2 b2 X rfl hL hX _ k2
            have HXL := hide (letters_again hn6 hL)
            have hXb : (X.length : Int) ≤ 1000 := by rw [hL.1]; exact (bnd_bounds (fun x hx => by obtain ⟨l, hl, hxl⟩ := List.mem_flatten.1 hx; exact HSM.out l hl x hxl)).2
            have HX := hide (hX.ints hL.2.1 rfl (Nat.le_refl _) (by unfold maxLen; omega))
            have HK2 := hide (HK1.out.tr k2)
            have HI2 := hide (HI1.out.same k2)
            clear hL hX k2 hXb
            go_wp2_with fail
            refine refTrim HI2.out HCL.out ?_; rintro e w3 u3 rfl o3 k3
            have O3 := hide (o3.ints (trim_bounds HCB.out))
            have HK3 := hide (HK2.out.tr k3)
            have HI3 := hide (HI2.out.same k3)
            have HX3 := hide (HX.out.same k3)
            clear o3 k3
            go_wp2_with fail
            refine sameInts HX3.out O3.out ?_; rintro e w4 rfl k4
            rw [show decide (X.map Int.ofNat = trim ((cutTo n W).map Int.ofNat)) = true by rw [HXL.out]; simp]
            have HK4 := hide (HK3.out.tr k4)
            have HI4 := hide (HI3.out.same k4)
            have HX4 := hide (HX3.out.same k4)
            clear k4
            go_wp2_with fail
            refine wordTrim HI4.out HCL.out ?_; rintro e w5 u5 rfl o5 k5
            have O5 := hide (o5.ints (trim_bounds HCB.out))
            have HK5 := hide (HK4.out.tr k5)
            have HX5 := hide (HX4.out.same k5)
            clear o5 k5
            go_wp2_with fail
            refine sameInts O5.out HX5.out ?_; rintro e w6 rfl k6
            rw [show decide (trim ((cutTo n W).map Int.ofNat) = X.map Int.ofNat) = true by rw [HXL.out]; simp]
            have HK6 := hide (HK5.out.tr k6)
            clear k6
            go_wp2_with fail
            refine known11 ?_; rintro e w7 rfl k7
            go_wp2_with fail
            exact HR.out _ _ rfl ((HK6.out.tr k7).mono fun _ _ _ => trivial)

end Go.Proofs.Ytonddhepndhgbaa
