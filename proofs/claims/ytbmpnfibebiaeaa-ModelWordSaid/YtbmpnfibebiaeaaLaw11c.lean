/- The plain laws of letters: of a word's sets, of sets and back. -/
import Derived.Test.YtbmpnfibebiaeaaLaw11b
namespace Go.Proofs.Ytbmpnfibebiaeaa
open Go.RowKit

theorem mem_posOf {W : List Nat} {i m x : Nat} (hm : m ≤ W.length) : ((x : Int) ∈ posOf W i m) ↔ ∃ y, x < m ∧ W[x]? = some y ∧ y.testBit i = true := by
  unfold posOf
  rw [List.mem_map]
  constructor
  · rintro ⟨z, hz, e⟩
    obtain rfl : z = x := by exact_mod_cast (show ((z : Nat) : Int) = (x : Int) from e)
    obtain ⟨h1, h2⟩ := List.mem_filter.1 hz
    rw [List.mem_range] at h1
    have hx : W[z]? = some W[z] := List.getElem?_eq_getElem (by omega)
    refine ⟨W[z], h1, hx, ?_⟩
    simpa [List.getD, hx] using h2
  · rintro ⟨y, h1, h2, h3⟩
    refine ⟨x, List.mem_filter.2 ⟨List.mem_range.2 h1, ?_⟩, rfl⟩
    simpa [List.getD, h2] using h3

/-- The letters that are not above n bits. -/
def cutTo (n : Nat) (W : List Nat) : List Nat := W.map (· % 2 ^ n)

theorem trim_nat (M : List Nat) : ∃ t, t ≤ M.length ∧ trim (M.map Int.ofNat) = (M.take t).map Int.ofNat ∧ (∀ (i y : Nat), t ≤ i → M[i]? = some y → y = 0) ∧ (t = 0 ∨ ∃ y, M[t - 1]? = some y ∧ y ≠ 0) := by
  generalize hn : M.length = n
  induction n generalizing M with
  | zero =>
    obtain rfl := List.eq_nil_of_length_eq_zero hn
    exact ⟨0, Nat.le_refl _, rfl, by simp, .inl rfl⟩
  | succ n ih =>
    obtain ⟨L, y, rfl⟩ : ∃ L y, M = L ++ [y] := ⟨M.dropLast, M.getLast (by intro h; subst h; simp at hn), (List.dropLast_concat_getLast _).symm⟩
    have hL : L.length = n := by simpa using hn
    by_cases hy : y = 0
    · subst hy
      obtain ⟨t, h1, h2, h3, h4⟩ := ih L hL
      refine ⟨t, by omega, ?_, fun i z hi hz => ?_, ?_⟩
      · rw [List.map_append, show [0].map Int.ofNat = [(0 : Int)] from rfl, trim_zero, h2, List.take_append_of_le_length (by omega)]
      · rw [List.getElem?_append] at hz
        split at hz
        · exact h3 i z hi hz
        · have := List.mem_of_getElem? hz
          simpa using this
      · rcases h4 with h4 | ⟨z, h4, h5⟩
        · exact .inl h4
        · refine .inr ⟨z, ?_, h5⟩
          have := (List.getElem?_eq_some_iff.1 h4).1
          rw [List.getElem?_append_left this]; exact h4
    · refine ⟨n + 1, Nat.le_refl _, ?_, fun i z hi hz => ?_, .inr ⟨y, ?_, hy⟩⟩
      · rw [List.map_append, show [y].map Int.ofNat = [(y : Int)] from rfl, trim_end _ (by omega), List.take_of_length_le (by simp; omega), List.map_append]; rfl
      · have := (List.getElem?_eq_some_iff.1 hz).1
        simp at this; omega
      · rw [List.getElem?_append_right (by omega)]; simp [hL]

theorem le_bnd {l : List Int} {x : Int} (h : x ∈ l) : x + 1 ≤ bnd l := (le_foldl_max l 0).2 x h

theorem bnd_le {l : List Int} {m : Int} (h0 : 0 ≤ m) (h : ∀ x ∈ l, x + 1 ≤ m) : bnd l ≤ m := foldl_max_le l 0 m h0 h

/-- There is a largest, unless there is none. -/
theorem bnd_at {l : List Int} (h0 : ∀ x ∈ l, 0 ≤ x) : bnd l = 0 ∨ (bnd l - 1) ∈ l := by
  generalize hn : l.length = n
  induction n generalizing l with
  | zero => obtain rfl := List.eq_nil_of_length_eq_zero hn; exact .inl rfl
  | succ n ih =>
    obtain ⟨L, y, rfl⟩ : ∃ L y, l = L ++ [y] := ⟨l.dropLast, l.getLast (by intro h; subst h; simp at hn), (List.dropLast_concat_getLast _).symm⟩
    have hy := h0 y (by simp)
    have := ih (l := L) (fun x hx => h0 x (by simp [hx])) (by simpa using hn)
    rw [bnd_snoc]
    by_cases hm : bnd L ≤ y + 1
    · right
      rw [show max (bnd L) (y + 1) - 1 = y by omega]; simp
    · rw [show max (bnd L) (y + 1) = bnd L by omega]
      rcases this with h | h
      · exact .inl h
      · exact .inr (by simp [h])

theorem mem_decRows {W : List Nat} {n j : Nat} {l : List Int} (h : (decRows W n W.length 0)[j]? = some l) : j < n ∧ l = posOf W j W.length := by
  unfold decRows at h
  rw [List.getElem?_map, Option.map_eq_some_iff] at h
  obtain ⟨i, hi, rfl⟩ := h
  obtain ⟨hi1, hi2⟩ := List.getElem?_eq_some_iff.1 hi
  simp only [List.length_range] at hi1
  simp only [List.getElem_range] at hi2
  subst hi2
  exact ⟨hi1, by rw [if_neg (by omega)]⟩

theorem decRows_get (W : List Nat) {n j : Nat} (h : j < n) : (decRows W n W.length 0)[j]? = some (posOf W j W.length) := by
  unfold decRows
  rw [List.getElem?_map, List.getElem?_range h]
  simp

/-- A word's sets have that word, without what is above n bits, without noughts at its end. -/
theorem letters_again {W X : List Nat} {n : Nat} (hn : n ≤ 6) (h : Letters (decRows W n W.length 0) X) : X.map Int.ofNat = trim ((cutTo n W).map Int.ofNat) := by
  obtain ⟨t, h1, h2, h3, h4⟩ := trim_nat (cutTo n W)
  rw [h2]
  congr 1
  refine h.unique ?_
  have hlen : (cutTo n W).length = W.length := by simp [cutTo]
  have hget : ∀ (x y : Nat), (cutTo n W)[x]? = some y → ∃ z, W[x]? = some z ∧ y = z % 2 ^ n := by
    intro x y hy
    unfold cutTo at hy
    rw [List.getElem?_map, Option.map_eq_some_iff] at hy
    obtain ⟨z, hz, rfl⟩ := hy
    exact ⟨z, hz, rfl⟩
  have hmem : ∀ x : Int, x ∈ (decRows W n W.length 0).flatten → ∃ (k y j : Nat), x = k ∧ j < n ∧ W[k]? = some y ∧ y.testBit j = true := by
    intro x hx
    obtain ⟨l, hl, hxl⟩ := List.mem_flatten.1 hx
    obtain ⟨j, hj⟩ := List.getElem?_of_mem hl
    obtain ⟨hjn, rfl⟩ := mem_decRows hj
    have hb := posOf_bounds W j W.length x hxl
    obtain ⟨k, rfl⟩ := Int.eq_ofNat_of_zero_le hb.1
    obtain ⟨y, _, hy, hyb⟩ := (mem_posOf (Nat.le_refl _)).1 hxl
    exact ⟨k, y, j, rfl, hjn, hy, hyb⟩
  have hin : ∀ (k y j : Nat), j < n → W[k]? = some y → y.testBit j = true → (k : Int) ∈ (decRows W n W.length 0).flatten := by
    intro k y j hj hy hyb
    refine List.mem_flatten.2 ⟨posOf W j W.length, List.mem_of_getElem? (decRows_get W hj), ?_⟩
    exact (mem_posOf (Nat.le_refl _)).2 ⟨y, (List.getElem?_eq_some_iff.1 hy).1, hy, hyb⟩
  have hbit : ∀ (k z : Nat), W[k]? = some z → t ≤ k → ∀ j, j < n → z.testBit j = false := by
    intro k z hz hk j hj
    have : (cutTo n W)[k]? = some (z % 2 ^ n) := by unfold cutTo; rw [List.getElem?_map, hz]; rfl
    have := h3 k _ hk this
    have h5 := Nat.testBit_mod_two_pow z n j
    rw [this, Nat.zero_testBit] at h5
    simpa [hj] using h5.symm
  refine ⟨?_, fun y hy => ?_, fun x j y hy => ?_⟩
  · rw [List.length_take, Nat.min_eq_left h1]
    apply Int.le_antisymm
    · rcases h4 with rfl | ⟨y, h4, h5⟩
      · exact (le_foldl_max _ 0).1
      · obtain ⟨z, hz, rfl⟩ := hget _ _ h4
        obtain ⟨j, hj⟩ := Nat.exists_testBit_of_ne_zero h5
        rw [Nat.testBit_mod_two_pow] at hj
        simp only [Bool.and_eq_true, decide_eq_true_eq] at hj
        have := le_bnd (hin _ z j hj.1 hz hj.2)
        have ht : t ≠ 0 := by
          rintro rfl
          have := hbit 0 z hz (Nat.le_refl _) j hj.1
          rw [hj.2] at this; cases this
        omega
    · refine bnd_le (by omega) fun x hx => ?_
      obtain ⟨k, y, j, rfl, hj, hy, hyb⟩ := hmem x hx
      rcases Nat.lt_or_ge k t with hkt | hkt
      · omega
      · have := hbit k y hy hkt j hj
        rw [hyb] at this; cases this
  · obtain ⟨x, hx⟩ := List.getElem?_of_mem (List.mem_of_mem_take hy)
    obtain ⟨z, _, rfl⟩ := hget x y hx
    have h5 : z % 2 ^ n < 2 ^ n := Nat.mod_lt _ (Nat.pow_pos (by decide))
    have h6 : 2 ^ n ≤ 64 := two_le hn
    omega
  · rw [List.getElem?_take] at hy
    split at hy
    · obtain ⟨z, hz, rfl⟩ := hget x y hy
      rw [Nat.testBit_mod_two_pow]
      simp only [Bool.and_eq_true, decide_eq_true_eq]
      constructor
      · rintro ⟨a, b⟩
        exact ⟨_, decRows_get W a, (mem_posOf (Nat.le_refl _)).2 ⟨z, (List.getElem?_eq_some_iff.1 hz).1, hz, b⟩⟩
      · rintro ⟨l, a, b⟩
        obtain ⟨hj, rfl⟩ := mem_decRows a
        obtain ⟨z', _, hz', hb⟩ := (mem_posOf (Nat.le_refl _)).1 b
        rw [hz] at hz'; obtain rfl := Option.some.inj hz'
        exact ⟨hj, hb⟩
    · cases hy

theorem posOf_rising (W : List Nat) (i m : Nat) : (posOf W i m).Pairwise (· < ·) := by
  unfold posOf
  rw [List.pairwise_map]
  refine List.Pairwise.filter _ ?_
  refine List.Pairwise.imp (R := (· < ·)) ?_ List.pairwise_lt_range
  intro a b hab
  simpa using hab

/-- Sets come back from their word. -/
theorem letters_back {ls : List (List Int)} {W : List Nat} (hs : ∀ l ∈ ls, ∀ x ∈ l, 0 ≤ x) (h : Letters ls W) : decRows W ls.length W.length 0 = ls.map sortedOf := by
  apply List.ext_getElem (by simp [decRows])
  intro j h1 h2
  rw [decRows_len] at h1
  have ha : (decRows W ls.length W.length 0)[j] = posOf W j W.length := by
    have := decRows_get W h1
    rw [List.getElem?_eq_getElem (by simpa [decRows] using h1)] at this
    exact Option.some.inj this
  rw [ha, List.getElem_map]
  refine rising_unique (posOf_rising _ _ _) (sortedOf_sorted _) fun x => ?_
  rw [mem_sortedOf]
  constructor
  · intro hx
    obtain ⟨k, rfl⟩ := Int.eq_ofNat_of_zero_le (posOf_bounds W j W.length x hx).1
    obtain ⟨y, _, hy, hyb⟩ := (mem_posOf (Nat.le_refl _)).1 hx
    obtain ⟨l, hl, hxl⟩ := (h.2.2 k j y hy).1 hyb
    rw [List.getElem?_eq_getElem h1] at hl
    obtain rfl := Option.some.inj hl
    exact hxl
  · intro hx
    obtain ⟨k, rfl⟩ := Int.eq_ofNat_of_zero_le (hs _ (List.getElem_mem h1) x hx)
    have hk := bnd_lt (List.mem_flatten.2 ⟨_, List.getElem_mem h1, hx⟩)
    rw [← h.1] at hk
    have hkW : k < W.length := by exact_mod_cast hk
    refine (mem_posOf (Nat.le_refl _)).2 ⟨W[k], hkW, List.getElem?_eq_getElem hkW, ?_⟩
    exact (h.2.2 k j _ (List.getElem?_eq_getElem hkW)).2 ⟨_, List.getElem?_eq_getElem h1, hx⟩

theorem letters_last {ls : List (List Int)} {W : List Nat} (hs : ∀ l ∈ ls, ∀ x ∈ l, 0 ≤ x) (h : Letters ls W) (h0 : 0 < W.length) : W[W.length - 1] ≠ 0 := by
  rcases bnd_at (l := ls.flatten) (fun x hx => by obtain ⟨l, hl, hxl⟩ := List.mem_flatten.1 hx; exact hs l hl x hxl) with e | e
  · rw [← h.1] at e; omega
  · obtain ⟨l, hl, hxl⟩ := List.mem_flatten.1 e
    obtain ⟨j, hj⟩ := List.getElem?_of_mem hl
    rw [← h.1, show ((W.length : Int) - 1) = ((W.length - 1 : Nat) : Int) by omega] at hxl
    have := (h.2.2 (W.length - 1) j _ (List.getElem?_eq_getElem (by omega))).2 ⟨l, hj, hxl⟩
    intro e0
    rw [e0] at this
    simp at this

end Go.Proofs.Ytbmpnfibebiaeaa
