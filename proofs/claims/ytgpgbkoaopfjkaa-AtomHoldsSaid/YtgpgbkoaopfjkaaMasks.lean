/- The walk of sibyllaw25.masks. -/
import Derived.Test.YtgpgbkoaopfjkaaHoldsLaw2
namespace Go.Proofs.Ytgpgbkoaopfjkaa
open Go.RowKit

attribute [local irreducible] wpQuiet wpPlan wpPlanZ wpUp

variable {R : Ending → World → Prop} {w : World}

/-- The numbers of all variables. -/
def masksI (W : List Nat) (k : Nat) : List Int := (List.range k).map fun i => (maskOf W i : Int)

theorem masksI_succ (W : List Nat) (k : Nat) : masksI W (k + 1) = masksI W k ++ [(maskOf W k : Int)] := by simp [masksI, List.range_succ]
theorem masksI_len (W : List Nat) (k : Nat) : (masksI W k).length = k := by simp [masksI]

theorem pos_in {W : List Nat} {i m : Nat} {x : Int} (hx : x ∈ posOf W i m) : 0 ≤ x ∧ x < m := by
  unfold posOf at hx
  obtain ⟨y, hy, rfl⟩ := List.mem_map.1 hx
  have := (List.mem_filter.1 hy).1
  rw [List.mem_range] at this
  simp only [Int.ofNat_eq_natCast]
  omega

theorem dec_in {W : List Nat} (hW : W.length ≤ 16) (n : Nat) : ∀ l ∈ decRows W n W.length 0, ∀ x ∈ l, InI64 x := by
  intro l hl x hx
  unfold decRows at hl
  obtain ⟨i, _, rfl⟩ := List.mem_map.1 hl
  rw [if_neg (by omega)] at hx
  have := pos_in hx
  unfold InI64; omega

theorem two16 {y : Nat} (h : y < 16) : 2 ^ y < 65536 := by
  have h2 := Nat.pow_lt_pow_right (a := 2) (by decide) h
  exact h2

theorem wrap16 {y : Nat} (h : y < 16) : wrap64 ((2 : Int) ^ y) = ((2 ^ y : Nat) : Int) := by
  have h1 := two16 h
  rw [show ((2 : Int) ^ y) = ((2 ^ y : Nat) : Int) by simp]
  generalize 2 ^ y = q at h1
  exact IntWalk.wrap64_in _ ⟨by omega, by omega⟩

theorem dec_at {W : List Nat} {n m : Nat} (h : m < n) : (decRows W n W.length 0)[m]? = some (posOf W m W.length) := by simp [decRows, h]

set_option maxRecDepth 10000 in
set_option maxHeartbeats 1000000 in
theorem refMasks {v : Value} {W : List Nat} {n : Nat} (hv : IntsAt w v (W.map Int.ofNat)) (hs : ∀ y ∈ W, y < 64) (hn : n ≤ 6) (hW : W.length ≤ 16) (hR : ∀ e w' u, e = .returned u → IntsAt w' u (masksI W n) → Same w w' → R e w') :
    Calls Try.prog 18 #[v, .int .i64 (n : Int)] w R := by
  have HR := hide hR
  clear hR
  obtain ⟨va, vc, rfl, _⟩ := hv.open
  rw [List.length_map] at hv ⊢
  have HV := hide hv
  have HS := hide hs
  clear hv hs
  go_enter Try.func18, Try.ntmps18
  go_wp2_with fail
  refine refDecode HV.out HS.out n hn (by omega) ?_; rintro e w1 b vs rfl r1 k1
  have hrows := r1.rows (dec_in hW n) (n := n) (by rw [decRows_len]) (by unfold maxLen; omega)
  have HRW := hide hrows
  have HK1 := hide k1
  obtain ⟨na, nc, he, hd1, hd2, hcell⟩ := hrows.open
  have HC : Hid (∀ m, m < n → ∃ u, w1.cell? ⟨b, m, none⟩ = some u ∧ IntsAt w1 u (posOf W m W.length)) := hide (fun m hm => by
    have hm2 : m < (decRows W n W.length 0).length := by rw [decRows_len]; exact hm
    obtain ⟨xa, xo, e2, _, hx⟩ := hcell m hm2
    simp only [Value.slice.injEq] at he
    obtain ⟨he, _⟩ := he
    rw [← he] at e2
    simp only [Option.some.injEq, Addr.mk.injEq] at e2
    obtain ⟨rfl, rfl, _⟩ := e2
    obtain ⟨u, hu, hi⟩ := hx m hm2
    refine ⟨u, by simpa using hu, ?_⟩
    have e3 : (decRows W n W.length 0)[m] = posOf W m W.length := Option.some.inj ((List.getElem?_eq_getElem hm2).symm.trans (dec_at hm))
    rw [← e3]; exact hi)
  clear r1 hrows he hd1 hd2 hcell k1
  go_wp2_with fail
  obtain ⟨B, hBs⟩ : ∃ B, B = w1.heap.size := ⟨_, rfl⟩
  have HBS := hide hBs
  clear hBs
  go_loopw [6, 7, 8, 9] (fun u i _ _ wr => ∃ k : Nat, i = .int .i64 k ∧ k ≤ n ∧ Hid (OwnInts wr B u (masksI W k)) ∧ Same w1 wr) (fun _ i _ _ _ => n - (intOf i).toNat)
  case atStart => exact ⟨0, rfl, Nat.zero_le _, hide (World.ownsRow_nil _ _ _ _), Keeps.refl _ _⟩
  case round =>
    obtain ⟨k, rfl, hk, hown, hK⟩ := hrel
    have HKO := hide hK
    have HOW := hide hown.out
    clear hown
    by_cases hlt : k < n
    · obtain ⟨u, hu, hi⟩ := HC.out k hlt
      have p1 := Keeps.cell hK hu trivial
      obtain ⟨sa, sc, rfl, hs1, hs2, hscell⟩ := hi.open
      have hpl := posOf_len W k W.length
      have HPB : Hid (∀ x ∈ posOf W k W.length, 0 ≤ x ∧ x < (W.length : Int)) := hide (fun x hx => pos_in hx)
      have HMK := hide (orN_pos W k)
      have HSC := hide hscell
      generalize posOf W k W.length = row at p1 hs1 hs2 hpl HPB HMK HSC
      clear hu hi hscell hK
      obtain ⟨wo, hwo⟩ : ∃ wo : World, wo = wr := ⟨_, rfl⟩
      have HST : Hid (Same wo wr) := hide (by rw [hwo]; exact Keeps.refl _ _)
      rw [← hwo] at HKO HOW
      have P1 : Hid (wo.cell? ⟨b, k, none⟩ = some (.slice sa row.length sc)) := hide (by rw [hwo]; exact p1)
      clear hwo
      unfold maxLen at hs2
      go_wp2_with fail
      clear p1
      go_loopw [8, 9] (fun m j wi => ∃ q : Nat, j = .int .i64 q ∧ q ≤ row.length ∧ m = .int .i64 (orN (row.take q) : Int) ∧ Same wo wi) (fun _ j _ => row.length - (intOf j).toNat)
      case atStart => exact ⟨0, rfl, Nat.zero_le _, rfl, HST.out⟩
      case round =>
        obtain ⟨q, rfl, hq, rfl, hKi⟩ := hrel
        have HKI := hide hKi
        have p1 := Keeps.cell hKi P1.out trivial
        by_cases hlt2 : q < row.length
        · obtain ⟨ya, yo, rfl, _, hy⟩ := HSC.out q hlt2
          have p2 := Keeps.cell (HKO.out.tr hKi) (hy q hlt2) trivial
          have hT := List.take_succ_eq_append_getElem hlt2
          have hb := HPB.out _ (List.getElem_mem hlt2)
          have hol : orN (row.take q) < 65536 := orN_lt fun x hx => by
            have := HPB.out x (List.mem_of_mem_take hx)
            omega
          generalize row[q] = x at p2 hT hb
          obtain ⟨y, rfl⟩ := Int.eq_ofNat_of_zero_le hb.1
          have hy16 : y < 16 := by omega
          have hwx := wrap16 hy16
          have h2y := two16 hy16
          have HOR : Hid (bits .or .i64 (orN (row.take q) : Int) ((2 : Int) ^ y) = ((orN (row.take q) ||| 2 ^ y : Nat) : Int)) := hide (by
            rw [show ((2 : Int) ^ y) = ((2 ^ y : Nat) : Int) by simp]
            exact i64_or_nat (orN (row.take q)) (2 ^ y) (by omega) (by omega))
          have HNX : Hid (orN (row.take (q + 1)) = orN (row.take q) ||| 2 ^ y) := hide (by rw [hT, orN_snoc, Int.toNat_natCast])
          clear hy hKi hT hb
          go_wp2_with fail
          go_roundw
          case rel => exact ⟨q + 1, by go_num, by omega, by rw [HOR.out, HNX.out], HKI.out⟩
          case measure => simp [intOf]; omega
        · obtain rfl : q = row.length := by omega
          rw [List.take_length, HMK.out]
          have HKA := hide (HKO.out.tr hKi)
          have hown1 := ownsRow_keep HOW.out hKi fun _ _ => trivial
          obtain ⟨g, cap1, w2, hr, hown2, hk2, _, _⟩ := append_one (P := Try.prog) wr 42 42 3 Try.underlying42 int_info rfl hown1 (by rw [HBS.out]; exact HKA.out.size) (.int .i64 (maskOf W k : Int)) rfl (by rw [masksI_len]; omega) (by decide)
          rw [masksI_len] at hr hown2
          obtain ⟨s4, c4, hu⟩ := (show OwnInts wr B u6 (masksI W k) from hown1).shape
          rw [masksI_len] at hu
          subst hu
          have HO2 : Hid (OwnInts w2 B (.slice (some ⟨g, 0, none⟩) (k + 1) cap1) (masksI W (k + 1))) := hide (by
            unfold OwnInts
            rw [masksI_succ, List.length_append, List.map_append, masksI_len]
            exact hown2)
          have HK2 : Hid (Same w1 w2) := hide (HKA.out.trans hk2 fun y hy _ => ⟨trivial, fun e => by
            have := (ownsRow_block hown1 e).1
            rw [HBS.out] at this; omega⟩)
          clear hKi hown1 hown2 hk2
          go_wp2_with (at_builtin; refine wpList_append_run rfl _ _ _ rfl rfl rfl hr ?_; clear hr)
          go_roundw
          case rel => exact ⟨k + 1, by go_num, by omega, HO2, HK2.out⟩
          case measure => simp [intOf]; omega
    · obtain rfl : k = n := by omega
      have HI := hide (OwnInts.ints HOW.out (fun x hx => by
        obtain ⟨i, _, rfl⟩ := List.mem_map.1 hx
        have := maskOf_lt hW i
        unfold InI64; omega))
      obtain ⟨s4, c4, hu⟩ := HOW.out.shape
      subst hu
      clear hK
      go_wp2_with fail
      exact HR.out _ _ _ rfl HI.out (HK1.out.tr HKO.out)

end Go.Proofs.Ytgpgbkoaopfjkaa
