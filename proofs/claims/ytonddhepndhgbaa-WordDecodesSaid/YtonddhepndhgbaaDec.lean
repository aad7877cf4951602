/- Rows that the call owns, in a block that it owns; the walks of word.Decode, sibylref11.Decode. -/
import Derived.Test.YtonddhepndhgbaaWord
import Derived.Test.YtonddhepndhgbaaRow
namespace Go.Proofs.Ytonddhepndhgbaa
open Go.RowKit

variable {R : Ending → World → Prop} {w : World}

/-- The block b holds slices of ints, each the call's own (from B on), no two in one block. -/
structure OwnRows (w : World) (B b : Nat) (vs : List Value) (rows : List (List Int)) : Prop where
  blk : w.heap[b]? = some (.cells vs.toArray 22 (0, 0))
  low : B ≤ b
  len : vs.length = rows.length
  own : ∀ (j : Nat) (v : Value) (l : List Int), vs[j]? = some v → rows[j]? = some l → OwnInts w B v l
  apart : ∀ (j j' : Nat) (v v' : Value) (k : Nat), vs[j]? = some v → vs[j']? = some v' → v.ownBlock = some k → v'.ownBlock = some k → j = j'

theorem OwnInts.ne_block {B b : Nat} {v : Value} {l : List Int} (h : OwnInts w B v l) {cs : Array Value} {t : TypeId} {fr : Nat × Nat} (hb : w.heap[b]? = some (.cells cs t fr)) (ht : t ≠ 3) : v.ownBlock ≠ some b := by
  intro e
  rcases h.2 with ⟨rfl, h0⟩ | ⟨g, cap, cur, rfl, hg, hgb, rest⟩
  · simp [Value.ownBlock] at e
  · simp [Value.ownBlock] at e
    subst e
    rw [hb] at hgb
    simp at hgb
    exact ht hgb.2.1

theorem OwnInts.low {B : Nat} {v : Value} {l : List Int} (h : OwnInts w B v l) {g : Nat} (e : v.ownBlock = some g) : B ≤ g ∧ g < w.heap.size := h.lt g e

theorem OwnRows.make (w : World) {B n : Nat} (hB : B ≤ w.heap.size) : OwnRows (w.alloc (.cells (List.replicate n (.slice none 0 0)).toArray 22)) B w.heap.size (List.replicate n (.slice none 0 0)) (List.replicate n []) := by
  refine ⟨heap_new _ _, hB, by simp, fun j v l hv hl => ?_, fun j j' v v' k hv _ hk _ => ?_⟩
  · obtain rfl := List.eq_of_mem_replicate (List.mem_of_getElem? hv)
    obtain rfl := List.eq_of_mem_replicate (List.mem_of_getElem? hl)
    exact World.ownsRow_nil _ _ _ _
  · obtain rfl := List.eq_of_mem_replicate (List.mem_of_getElem? hv)
    simp [Value.ownBlock] at hk

/-- One number more at a row's end. -/
theorem OwnRows.push {B b : Nat} {vs : List Value} {rows : List (List Int)} (h : OwnRows w B b vs rows) (hB : B ≤ w.heap.size) {j : Nat} (hj : j < vs.length) {l : List Int} (hl : rows[j]? = some l) (hlen : l.length + 1 ≤ 2199023255552) (x : Int) :
    ∃ g cap w2, w.cell? ⟨b, j, none⟩ = some vs[j] ∧ (∃ s c, vs[j] = .slice s l.length c) ∧ (Builtin.append_ #[22, 22] 22 #[vs[j], .slice (some ⟨w.heap.size, 0, none⟩) 1 1]).run Try.prog (w.alloc (.cells #[.int .i64 x] 3)) = .ok (.slice (some ⟨g, 0, none⟩) (l.length + 1) cap) w2 ∧
      w2.frozen? ⟨b, j, none⟩ = false ∧ (∃ u, w2.cell? ⟨b, j, none⟩ = some u) ∧
      OwnRows (w2.setCell ⟨b, j, none⟩ (.slice (some ⟨g, 0, none⟩) (l.length + 1) cap)) B b (vs.set j (.slice (some ⟨g, 0, none⟩) (l.length + 1) cap)) (rows.set j (l ++ [x])) ∧
      Keeps (· < B) w (w2.setCell ⟨b, j, none⟩ (.slice (some ⟨g, 0, none⟩) (l.length + 1) cap)) := by
  have hvj : vs[j]? = some vs[j] := List.getElem?_eq_getElem hj
  have ho := h.own j _ _ hvj hl
  obtain ⟨g, cap, w2, hr, hown2, hk2, hg, hgs⟩ := append_one (P := Try.prog) w 22 22 3 Try.underlying22 int_info rfl ho hB (.int .i64 x) rfl (by simpa using hlen) (by decide)
  have hb2 : w2.heap[b]? = some (.cells vs.toArray 22 (0, 0)) := hk2.at h.blk (ho.ne_block h.blk (by decide))
  have hOg : w2.ownsRow B 3 1 (.slice (some ⟨g, 0, none⟩) (l.length + 1) cap) (l.length + 1) (l.map (Value.int .i64) ++ [.int .i64 x]) := by simpa using hown2
  have hOn : OwnInts w2 B (.slice (some ⟨g, 0, none⟩) (l.length + 1) cap) (l ++ [x]) := by
    unfold OwnInts; simpa using hOg
  have hgb : g ≠ b := by
    have := hOn.ne_block hb2 (by decide)
    simpa [Value.ownBlock] using this
  have hBg : B ≤ g := (hOn.low (g := g) (by simp [Value.ownBlock])).1
  have hset : ∀ k, k ≠ b → (w2.setCell ⟨b, j, none⟩ (.slice (some ⟨g, 0, none⟩) (l.length + 1) cap)).heap[k]? = w2.heap[k]? := fun k hk => heap_setCell_ne hk _ _
  have hlenj : j < rows.length := by rw [← h.len]; exact hj
  refine ⟨g, cap, w2, by rw [cell_at h.blk]; simp [hj], ?_, hr, free_at hb2 _, ⟨vs[j], by rw [cell_at hb2]; simp [hj]⟩, ⟨?_, h.low, by simp [h.len], ?_, ?_⟩, ?_⟩
  · rcases ho.2 with ⟨e, h0⟩ | ⟨g', cap', cur, e, _⟩
    · rw [e]; have : l.length = 0 := by simpa using h0
      exact ⟨none, 0, by rw [this]⟩
    · exact ⟨_, _, by rw [e]⟩
  · rw [heap_setCell_at hb2]; simp
  · intro i v l' hv hl'
    have hks : Keeps (· ≠ b) w2 (w2.setCell ⟨b, j, none⟩ (.slice (some ⟨g, 0, none⟩) (l.length + 1) cap)) := (Keeps.refl (· ≠ b) w2).setCell (fun hh => hh.2 rfl) _
    have hfin : ∀ {v : Value} {l' : List Int}, OwnInts w2 B v l' → OwnInts (w2.setCell ⟨b, j, none⟩ (.slice (some ⟨g, 0, none⟩) (l.length + 1) cap)) B v l' := fun hh => hh.keep hks fun k hk hkb => hh.ne_block hb2 (by decide) (hkb ▸ hk)
    rw [List.getElem?_set] at hv hl'
    by_cases e : j = i
    · subst e
      rw [if_pos rfl, if_pos hlenj] at hl'
      rw [if_pos rfl, if_pos hj] at hv
      obtain rfl := Option.some.inj hv
      obtain rfl := Option.some.inj hl'
      exact hfin hOn
    · rw [if_neg e] at hl' hv
      refine hfin ((h.own i v l' hv hl').keep hk2 fun k hk hkk => e ?_)
      exact h.apart j i _ _ k hvj hv hkk hk
  · intro i i' v v' k hv hv' hk hk'
    have hnew : ∀ {i : Nat} {v : Value}, i ≠ j → vs[i]? = some v → v.ownBlock ≠ some g := by
      intro i v hij hv hvg
      rcases hg with hg | hg
      · exact hij (h.apart i j _ _ g hv hvj hvg hg)
      · obtain ⟨l', hl'⟩ : ∃ l', rows[i]? = some l' := ⟨_, List.getElem?_eq_getElem (by rw [← h.len]; exact (List.getElem?_eq_some_iff.1 hv).1)⟩
        have := ((h.own i v l' hv hl').low hvg).2
        omega
    rw [List.getElem?_set] at hv hv'
    by_cases e : j = i
    · rw [if_pos e, if_pos hj] at hv
      obtain rfl := Option.some.inj hv
      by_cases e' : j = i'
      · omega
      · rw [if_neg e'] at hv'
        simp only [Value.ownBlock, Option.some.injEq] at hk
        subst hk
        exact absurd hk' (hnew (fun hh => e' hh.symm) hv')
    · rw [if_neg e] at hv
      by_cases e' : j = i'
      · rw [if_pos e', if_pos hj] at hv'
        obtain rfl := Option.some.inj hv'
        simp only [Value.ownBlock, Option.some.injEq] at hk'
        subst hk'
        exact absurd hk (hnew (fun hh => e hh.symm) hv)
      · rw [if_neg e'] at hv'
        exact h.apart i i' _ _ k hv hv' hk hk'
  · refine (hk2.mono (S' := (· < B)) fun x hx hxB hh => ?_).setCell (fun hh => by have := h.low; have : b < B := hh.2; omega) _
    have := (ho.low hh).1
    have : x < B := hxB
    omega

/-- Where letters have bit i, of the first m. -/
def posOf (W : List Nat) (i m : Nat) : List Int := ((List.range m).filter fun x => (W.getD x 0).testBit i).map Int.ofNat

theorem posOf_len (W : List Nat) (i m : Nat) : (posOf W i m).length ≤ m := by
  unfold posOf
  rw [List.length_map]
  exact Nat.le_trans (List.length_filter_le _ _) (by simp)

theorem posOf_succ (W : List Nat) (i : Nat) {m : Nat} {y : Nat} (hm : W[m]? = some y) : posOf W i (m + 1) = if y.testBit i then posOf W i m ++ [(m : Int)] else posOf W i m := by
  unfold posOf
  rw [List.range_succ, List.filter_append]
  have : W.getD m 0 = y := by simp [List.getD, hm]
  cases hy : y.testBit i <;> simp [hy, hm]

/-- The sets so far: of the first m letters, and of the next one's first k bits. -/
def decRows (W : List Nat) (n m k : Nat) : List (List Int) := (List.range n).map fun i => posOf W i (if i < k then m + 1 else m)

theorem decRows_len (W : List Nat) (n m k : Nat) : (decRows W n m k).length = n := by simp [decRows]

theorem decRows_at (W : List Nat) {n m k : Nat} (hk : k < n) : (decRows W n m k)[k]? = some (posOf W k m) := by simp [decRows, hk]

theorem decRows_set (W : List Nat) {n m k : Nat} {y : Nat} (hm : W[m]? = some y) (hy : y.testBit k = true) : (decRows W n m k).set k (posOf W k m ++ [(m : Int)]) = decRows W n m (k + 1) := by
  apply List.ext_getElem (by simp [decRows])
  intro i h1 h2
  rw [List.getElem_set]
  simp only [decRows, List.getElem_map, List.getElem_range]
  split
  · rename_i e
    subst e
    rw [if_pos (by omega), posOf_succ W k hm, if_pos hy]
  · rename_i e
    by_cases hi : i < k
    · rw [if_pos hi, if_pos (by omega)]
    · rw [if_neg hi, if_neg (by omega)]

theorem decRows_skip (W : List Nat) {n m k : Nat} {y : Nat} (hm : W[m]? = some y) (hy : y.testBit k = false) : decRows W n m k = decRows W n m (k + 1) := by
  unfold decRows
  apply List.map_congr_left
  intro i _
  by_cases hi : i < k
  · rw [if_pos hi, if_pos (by omega)]
  · rw [if_neg hi]
    by_cases e : i = k
    · subst e
      rw [if_pos (by omega), posOf_succ W i hm, if_neg (by simp [hy])]
    · rw [if_neg (by omega)]

theorem decRows_row (W : List Nat) {n m k : Nat} (hk : n ≤ k) : decRows W n m k = decRows W n (m + 1) 0 := by
  unfold decRows
  apply List.map_congr_left
  intro i hi
  rw [List.mem_range] at hi
  rw [if_pos (by omega), if_neg (by omega)]

theorem decRows_start (W : List Nat) (n : Nat) : decRows W n 0 0 = List.replicate n [] := by
  unfold decRows
  rw [List.eq_replicate_iff]
  simp [posOf]

theorem ints_info : (Try.prog.info? 22).map (fun i => (i.zero, i.size, i.bytes)) = some (some (.slice none 0 0), 1, 24) := by kernel_rfl

theorem make_none {n : Nat} : madeCells (Value.cells (.slice none 0 0)) (n * 1) = (List.replicate n (Value.slice none 0 0)).toArray := by
  apply Array.ext
  · simp [size_madeCells]
  · intro i h1 h2
    simp [madeCells, Value.cells, Nat.mod_one]

set_option maxHeartbeats 2000000 in
theorem wordDecode {v : Value} {W : List Nat} (hv : IntsAt w v (W.map Int.ofNat)) (hs : ∀ y ∈ W, y < 64) (n : Nat) (h6 : n ≤ 6) (hW : W.length ≤ 1000)
    (hR : ∀ e w' b vs, e = .returned (.slice (some ⟨b, 0, none⟩) n n) → OwnRows w' w.heap.size b vs (decRows W n W.length 0) → Same w w' → R e w') :
    Calls Try.prog 26 #[v, .int .i64 n] w R := by
  have HR := hide hR
  clear hR
  obtain ⟨a, c, rfl, hc1, hc2, hcell⟩ := hv.open
  have HC := hide hcell
  have HS := hide hs
  clear hcell hv hs
  unfold maxLen at hc2
  simp only [List.length_map] at *
  obtain ⟨i0, hi0, hz0, hz1, hz2⟩ := info_parts ints_info
  have hmk := run_make (P := Try.prog) w 33 22 i0 _ Try.underlying33 hi0 hz0 .i64 .i64 n n (by omega) (by omega) (by rw [hz2]; omega) (by omega)
  rw [hz1, Int.toNat_natCast, make_none] at hmk
  obtain ⟨B, hBs⟩ : ∃ B, B = w.heap.size := ⟨_, rfl⟩
  have HO := hide (OwnRows.make w (n := n) (Nat.le_refl _))
  have HK := hide ((Keeps.refl (fun _ => True) w).alloc (.cells (List.replicate n (Value.slice none 0 0)).toArray 22))
  rw [← hBs] at HR HO hmk
  generalize w.alloc (.cells (List.replicate n (Value.slice none 0 0)).toArray 22) = w2 at HO HK hmk
  have HBS := hide hBs
  have HST := hide (decRows_start W n)
  clear hi0 hz0 hz1 hz2 hBs
  go_enter Try.func26, Try.ntmps26
  go_wp2_with fail
  go_loopw [13] (fun i wr => ∃ k : Nat, ∃ vs, i = .int .i64 k ∧ k ≤ W.length ∧ Hid (OwnRows wr B B vs (decRows W n k 0)) ∧ Same w wr) (fun i _ => W.length - (intOf i).toNat)
  case atStart => exact ⟨0, _, rfl, Nat.zero_le _, hide (by rw [HST.out]; exact HO.out), HK.out⟩
  case round =>
    obtain ⟨k, vs, rfl, hk, hO, hK⟩ := hrel
    by_cases hlt : k < W.length
    · obtain ⟨bl, off, rfl, hbl, hcl⟩ := HC.out k hlt
      have hck := Keeps.cell hK (hcl k hlt) trivial
      have hy := HS.out W[k] (List.getElem_mem hlt)
      have HX := hide (show W[k]? = some W[k] from List.getElem?_eq_getElem hlt)
      rw [show (W.map Int.ofNat)[k]'(by simpa using hlt) = (W[k] : Int) by simp] at hck
      generalize W[k] = y at hck hy HX
      clear hcl
      go_wp2_with fail
      go_loopw [19] (fun i wr => ∃ m : Nat, ∃ vs, i = .int .i64 m ∧ m ≤ n ∧ Hid (OwnRows wr B B vs (decRows W n k m)) ∧ Same w wr) (fun i _ => n - (intOf i).toNat)
      case atStart => exact ⟨0, vs, rfl, Nat.zero_le _, hO, hK⟩
      case round =>
        clear hO hK hck
        obtain ⟨m, vs, rfl, hm, hO, hK⟩ := hrel
        by_cases hlt2 : m < n
        · have hbt := bit_test y m (by omega)
          cases hyb : y.testBit m with
          | false =>
            rw [hyb] at hbt
            have HN := hide (decRows_skip W (n := n) HX.out hyb)
            clear hyb
            go_wp2_with fail
            go_roundw
            case rel => exact ⟨m + 1, vs, by go_num, by omega, hide (by rw [← HN.out]; exact hO.out), hK⟩
            case measure => simp [intOf]; omega
          | true =>
            rw [hyb] at hbt
            have hN := decRows_set W (n := n) HX.out hyb
            have hpl := posOf_len W m k
            have hvl : m < vs.length := by rw [hO.out.len, decRows_len]; exact hlt2
            obtain ⟨g, cap, w3, q1, ⟨s, c2, q2⟩, hr, q3, ⟨u, q4⟩, q5, q6⟩ := hO.out.push (by rw [HBS.out]; exact hK.size) hvl (decRows_at W hlt2) (by omega) k
            rw [hN] at q5
            have HN := hide q5
            have HQ := hide q6
            rw [q2] at q1 hr
            clear hyb hN hO q2 q5 q6 hvl
            go_wp2_with (at_builtin; refine wpList_append_run rfl _ _ _ rfl rfl rfl hr ?_; clear hr)
            go_roundw
            case rel => exact ⟨m + 1, _, by go_num, by omega, HN, hK.trans HQ.out fun x hx _ => ⟨trivial, by rw [HBS.out]; exact hx⟩⟩
            case measure => simp [intOf]; omega
        · go_wp2_with fail
          go_roundw
          case rel => exact ⟨k + 1, vs, by go_num, by omega, hide (by rw [← decRows_row W (show n ≤ m by omega)]; exact hO.out), hK⟩
          case measure => simp [intOf]; omega
    · go_wp2_with fail
      obtain rfl : k = W.length := by omega
      exact HR.out _ _ _ vs rfl hO.out hK

set_option maxHeartbeats 2000000 in
theorem refDecode {v : Value} {W : List Nat} (hv : IntsAt w v (W.map Int.ofNat)) (hs : ∀ y ∈ W, y < 64) (n : Nat) (h6 : n ≤ 6) (hW : W.length ≤ 1000)
    (hR : ∀ e w' b vs, e = .returned (.slice (some ⟨b, 0, none⟩) n n) → OwnRows w' w.heap.size b vs (decRows W n W.length 0) → Same w w' → R e w') :
    Calls Try.prog 29 #[v, .int .i64 n] w R := by
  have HR := hide hR
  clear hR
  obtain ⟨a, c, rfl, hc1, hc2, hcell⟩ := hv.open
  have HC := hide hcell
  have HS := hide hs
  clear hcell hv hs
  unfold maxLen at hc2
  simp only [List.length_map] at *
  obtain ⟨i0, hi0, hz0, hz1, hz2⟩ := info_parts ints_info
  have hmk := run_make (P := Try.prog) w 33 22 i0 _ Try.underlying33 hi0 hz0 .i64 .i64 n n (by omega) (by omega) (by rw [hz2]; omega) (by omega)
  rw [hz1, Int.toNat_natCast, make_none] at hmk
  obtain ⟨B, hBs⟩ : ∃ B, B = w.heap.size := ⟨_, rfl⟩
  have HO := hide (OwnRows.make w (n := n) (Nat.le_refl _))
  have HK := hide ((Keeps.refl (fun _ => True) w).alloc (.cells (List.replicate n (Value.slice none 0 0)).toArray 22))
  rw [← hBs] at HR HO hmk
  generalize w.alloc (.cells (List.replicate n (Value.slice none 0 0)).toArray 22) = w2 at HO HK hmk
  have HBS := hide hBs
  have HST := hide (decRows_start W n)
  clear hi0 hz0 hz1 hz2 hBs
  go_enter Try.func29, Try.ntmps29
  go_wp2_with fail
  go_loopw [6] (fun i wr => ∃ k : Nat, ∃ vs, i = .int .i64 k ∧ k ≤ W.length ∧ Hid (OwnRows wr B B vs (decRows W n k 0)) ∧ Same w wr) (fun i _ => W.length - (intOf i).toNat)
  case atStart => exact ⟨0, _, rfl, Nat.zero_le _, hide (by rw [HST.out]; exact HO.out), HK.out⟩
  case round =>
    obtain ⟨k, vs, rfl, hk, hO, hK⟩ := hrel
    by_cases hlt : k < W.length
    · obtain ⟨bl, off, rfl, hbl, hcl⟩ := HC.out k hlt
      have hck := hcl k hlt
      have hy := HS.out W[k] (List.getElem_mem hlt)
      have HX := hide (show W[k]? = some W[k] from List.getElem?_eq_getElem hlt)
      rw [show (W.map Int.ofNat)[k]'(by simpa using hlt) = (W[k] : Int) by simp] at hck
      generalize W[k] = y at hck hy HX
      have HCK := hide hck
      clear hcl hck
      go_wp2_with fail
      go_loopw [7] (fun i wr => ∃ m : Nat, ∃ vs, i = .int .i64 m ∧ m ≤ n ∧ Hid (OwnRows wr B B vs (decRows W n k m)) ∧ Same w wr) (fun i _ => n - (intOf i).toNat)
      case atStart => exact ⟨0, vs, rfl, Nat.zero_le _, hO, hK⟩
      case round =>
        clear hO hK
        obtain ⟨m, vs, rfl, hm, hO, hK⟩ := hrel
        have hck := Keeps.cell hK HCK.out trivial
        by_cases hlt2 : m < n
        · have hbt := bit_test y m (by omega)
          cases hyb : y.testBit m with
          | false =>
            rw [hyb] at hbt
            have HN := hide (decRows_skip W (n := n) HX.out hyb)
            clear hyb
            go_wp2_with fail
            go_roundw
            case rel => exact ⟨m + 1, vs, by go_num, by omega, hide (by rw [← HN.out]; exact hO.out), hK⟩
            case measure => simp [intOf]; omega
          | true =>
            rw [hyb] at hbt
            have hN := decRows_set W (n := n) HX.out hyb
            have hpl := posOf_len W m k
            have hvl : m < vs.length := by rw [hO.out.len, decRows_len]; exact hlt2
            obtain ⟨g, cap, w3, q1, ⟨s, c2, q2⟩, hr, q3, ⟨u, q4⟩, q5, q6⟩ := hO.out.push (by rw [HBS.out]; exact hK.size) hvl (decRows_at W hlt2) (by omega) k
            rw [hN] at q5
            have HN := hide q5
            have HQ := hide q6
            rw [q2] at q1 hr
            clear hyb hN hO q2 q5 q6 hvl
            go_wp2_with (at_builtin; refine wpList_append_run rfl _ _ _ rfl rfl rfl hr ?_; clear hr)
            go_roundw
            case rel => exact ⟨m + 1, _, by go_num, by omega, HN, hK.trans HQ.out fun x hx _ => ⟨trivial, by rw [HBS.out]; exact hx⟩⟩
            case measure => simp [intOf]; omega
        · go_wp2_with fail
          go_roundw
          case rel => exact ⟨k + 1, vs, by go_num, by omega, hide (by rw [← decRows_row W (show n ≤ m by omega)]; exact hO.out), hK⟩
          case measure => simp [intOf]; omega
    · go_wp2_with fail
      obtain rfl : k = W.length := by omega
      exact HR.out _ _ _ vs rfl hO.out hK

end Go.Proofs.Ytonddhepndhgbaa
