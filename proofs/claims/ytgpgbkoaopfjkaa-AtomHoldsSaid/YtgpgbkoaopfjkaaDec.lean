/- Rows that the call owns, in a block that it owns; the walks of word.Decode, sibylref11.Decode. -/
import Derived.Test.YtgpgbkoaopfjkaaWord
import Derived.Test.YtgpgbkoaopfjkaaPkA
namespace Go.Proofs.Ytgpgbkoaopfjkaa
open Go.RowKit

variable {R : Ending → World → Prop} {w : World}

/-- Where letters have bit i, of the first m. -/
def posOf (W : List Nat) (i m : Nat) : List Int := ((List.range m).filter fun x => (W.getD x 0).testBit i).map Int.ofNat

theorem posOf_len (W : List Nat) (i m : Nat) : (posOf W i m).length ≤ m := by
  unfold posOf
  rw [List.length_map]
  exact Nat.le_trans (List.length_filter_le _ _) (by simp)

theorem posOf_succ (W : List Nat) (i : Nat) {m : Nat} {y : Nat} (hm : W[m]? = some y) : posOf W i (m + 1) = if y.testBit i then posOf W i m ++ [(m : Int)] else posOf W i m := by
  unfold posOf
  rw [List.range_succ, List.filter_append]
  have : W.getD m 0 = y := by simp [List.getD, hm]
  cases hy : y.testBit i <;> simp [hy, hm]

/-- The sets so far: of the first m letters, and of the next one's first k bits. -/
def decRows (W : List Nat) (n m k : Nat) : List (List Int) := (List.range n).map fun i => posOf W i (if i < k then m + 1 else m)

theorem decRows_len (W : List Nat) (n m k : Nat) : (decRows W n m k).length = n := by simp [decRows]

theorem decRows_at (W : List Nat) {n m k : Nat} (hk : k < n) : (decRows W n m k)[k]? = some (posOf W k m) := by simp [decRows, hk]

theorem decRows_set (W : List Nat) {n m k : Nat} {y : Nat} (hm : W[m]? = some y) (hy : y.testBit k = true) : (decRows W n m k).set k (posOf W k m ++ [(m : Int)]) = decRows W n m (k + 1) := by
  apply List.ext_getElem (by simp [decRows])
  intro i h1 h2
  rw [List.getElem_set]
  simp only [decRows, List.getElem_map, List.getElem_range]
  split
  · rename_i e
    subst e
    rw [if_pos (by omega), posOf_succ W k hm, if_pos hy]
  · rename_i e
    by_cases hi : i < k
    · rw [if_pos hi, if_pos (by omega)]
    · rw [if_neg hi, if_neg (by omega)]

theorem decRows_skip (W : List Nat) {n m k : Nat} {y : Nat} (hm : W[m]? = some y) (hy : y.testBit k = false) : decRows W n m k = decRows W n m (k + 1) := by
  unfold decRows
  apply List.map_congr_left
  intro i _
  by_cases hi : i < k
  · rw [if_pos hi, if_pos (by omega)]
  · rw [if_neg hi]
    by_cases e : i = k
    · subst e
      rw [if_pos (by omega), posOf_succ W i hm, if_neg (by simp [hy])]
    · rw [if_neg (by omega)]

theorem decRows_row (W : List Nat) {n m k : Nat} (hk : n ≤ k) : decRows W n m k = decRows W n (m + 1) 0 := by
  unfold decRows
  apply List.map_congr_left
  intro i hi
  rw [List.mem_range] at hi
  rw [if_pos (by omega), if_neg (by omega)]

theorem decRows_start (W : List Nat) (n : Nat) : decRows W n 0 0 = List.replicate n [] := by
  unfold decRows
  rw [List.eq_replicate_iff]
  simp [posOf]

set_option maxHeartbeats 2000000 in
theorem refDecode {v : Value} {W : List Nat} (hv : IntsAt w v (W.map Int.ofNat)) (hs : ∀ y ∈ W, y < 64) (n : Nat) (h6 : n ≤ 6) (hW : W.length ≤ 1000)
    (hR : ∀ e w' b vs, e = .returned (.slice (some ⟨b, 0, none⟩) n n) → OwnRows w' w.heap.size b vs (decRows W n W.length 0) → Same w w' → R e w') :
    Calls Try.prog 36 #[v, .int .i64 n] w R := by
  have HR := hide hR
  clear hR
  obtain ⟨a, c, rfl, hc1, hc2, hcell⟩ := hv.open
  have HC := hide hcell
  have HS := hide hs
  clear hcell hv hs
  unfold maxLen at hc2
  simp only [List.length_map] at *
  obtain ⟨i0, hi0, hz0, hz1, hz2⟩ := info_parts ints_info
  have hmk := run_make (P := Try.prog) w 31 42 i0 _ Try.underlying31 hi0 hz0 .i64 .i64 n n (by omega) (by omega) (by rw [hz2]; omega) (by omega)
  rw [hz1, Int.toNat_natCast, make_none] at hmk
  obtain ⟨B, hBs⟩ : ∃ B, B = w.heap.size := ⟨_, rfl⟩
  have HO := hide (OwnRows.make w (n := n) (Nat.le_refl _))
  have HK := hide ((Keeps.refl (fun _ => True) w).alloc (.cells (List.replicate n (Value.slice none 0 0)).toArray 42))
  rw [← hBs] at HR HO hmk
  generalize w.alloc (.cells (List.replicate n (Value.slice none 0 0)).toArray 42) = w2 at HO HK hmk
  have HBS := hide hBs
  have HST := hide (decRows_start W n)
  clear hi0 hz0 hz1 hz2 hBs
  go_enter Try.func36, Try.ntmps36
  go_wp2_with fail
  go_loopw [6] (fun i wr => ∃ k : Nat, ∃ vs, i = .int .i64 k ∧ k ≤ W.length ∧ Hid (OwnRows wr B B vs (decRows W n k 0)) ∧ Same w wr) (fun i _ => W.length - (intOf i).toNat)
  case atStart => exact ⟨0, _, rfl, Nat.zero_le _, hide (by rw [HST.out]; exact HO.out), HK.out⟩
  case round =>
    obtain ⟨k, vs, rfl, hk, hO, hK⟩ := hrel
    by_cases hlt : k < W.length
    · obtain ⟨bl, off, rfl, hbl, hcl⟩ := HC.out k hlt
      have hck := hcl k hlt
      have hy := HS.out W[k] (List.getElem_mem hlt)
      have HX := hide (show W[k]? = some W[k] from List.getElem?_eq_getElem hlt)
      rw [show (W.map Int.ofNat)[k]'(by simpa using hlt) = (W[k] : Int) by simp] at hck
      generalize W[k] = y at hck hy HX
      have HCK := hide hck
      clear hcl hck
      go_wp2_with fail
      go_loopw [7] (fun i wr => ∃ m : Nat, ∃ vs, i = .int .i64 m ∧ m ≤ n ∧ Hid (OwnRows wr B B vs (decRows W n k m)) ∧ Same w wr) (fun i _ => n - (intOf i).toNat)
      case atStart => exact ⟨0, vs, rfl, Nat.zero_le _, hO, hK⟩
      case round =>
        clear hO hK
        obtain ⟨m, vs, rfl, hm, hO, hK⟩ := hrel
        have hck := Keeps.cell hK HCK.out trivial
        by_cases hlt2 : m < n
        · have hbt := bit_test y m (by omega)
          cases hyb : y.testBit m with
          | false =>
            rw [hyb] at hbt
            have HN := hide (decRows_skip W (n := n) HX.out hyb)
            clear hyb
            go_wp2_with fail
            go_roundw
            case rel => exact ⟨m + 1, vs, by go_num, by omega, hide (by rw [← HN.out]; exact hO.out), hK⟩
            case measure => simp [intOf]; omega
          | true =>
            rw [hyb] at hbt
            have hN := decRows_set W (n := n) HX.out hyb
            have hpl := posOf_len W m k
            have hvl : m < vs.length := by rw [hO.out.len, decRows_len]; exact hlt2
            obtain ⟨g, cap, w3, q1, ⟨s, c2, q2⟩, hr, q3, ⟨u, q4⟩, q5, q6⟩ := hO.out.push (by rw [HBS.out]; exact hK.size) hvl (decRows_at W hlt2) (by omega) k
            rw [hN] at q5
            have HN := hide q5
            have HQ := hide q6
            rw [q2] at q1 hr
            clear hyb hN hO q2 q5 q6 hvl
            go_wp2_with (at_builtin; refine wpList_append_run rfl _ _ _ rfl rfl rfl hr ?_; clear hr)
            go_roundw
            case rel => exact ⟨m + 1, _, by go_num, by omega, HN, hK.trans HQ.out fun x hx _ => ⟨trivial, by rw [HBS.out]; exact hx⟩⟩
            case measure => simp [intOf]; omega
        · go_wp2_with fail
          go_roundw
          case rel => exact ⟨k + 1, vs, by go_num, by omega, hide (by rw [← decRows_row W (show n ≤ m by omega)]; exact hO.out), hK⟩
          case measure => simp [intOf]; omega
    · go_wp2_with fail
      obtain rfl : k = W.length := by omega
      exact HR.out _ _ _ vs rfl hO.out hK

end Go.Proofs.Ytgpgbkoaopfjkaa
