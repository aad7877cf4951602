/- Each state twice, whichever is gone to: the same words. No program in sight. -/
import Derived.Test.YtlaipnobfmfgaaaMinLaw
namespace Go.Proofs.Ytlaipnobfmfgaaa

variable {A : Au}

/-- The first c of a row, each gone to as it is or as its twin. -/
def dblR (n : Nat) (f : Nat → Bool) (k : Nat) (row : List Int) (c : Nat) : List Int := (List.range c).map fun j => if f (k + j) then row.getD j 0 + (n : Int) else row.getD j 0

theorem dblR_succ (n : Nat) (f : Nat → Bool) (k : Nat) (row : List Int) (c : Nat) : dblR n f k row (c + 1) = dblR n f k row c ++ [if f (k + c) then row.getD c 0 + (n : Int) else row.getD c 0] := by
  unfold dblR; rw [List.range_succ, List.map_append]; rfl
theorem dblR_length (n : Nat) (f : Nat → Bool) (k : Nat) (row : List Int) (c : Nat) : (dblR n f k row c).length = c := by simp [dblR]

/-- The first i rows. -/
def dblN (A : Au) (f : Nat → Bool) (i : Nat) : List (List Int) := (List.range i).map fun i => dblR A.acc.length f (i * 2 ^ A.T.toNat) (A.next.getD (i % A.acc.length) []) (2 ^ A.T.toNat)

theorem dblN_succ (A : Au) (f : Nat → Bool) (i : Nat) : dblN A f (i + 1) = dblN A f i ++ [dblR A.acc.length f (i * 2 ^ A.T.toNat) (A.next.getD (i % A.acc.length) []) (2 ^ A.T.toNat)] := by
  unfold dblN; rw [List.range_succ, List.map_append]; rfl
theorem dblN_length (A : Au) (f : Nat → Bool) (i : Nat) : (dblN A f i).length = i := by simp [dblN]

/-- Each state twice. -/
def dblAu (A : Au) (f : Nat → Bool) : Au := ⟨A.T, A.acc ++ A.acc, dblN A f (2 * A.acc.length)⟩

theorem dbl_ok (h : AuOk A) (hn : A.acc.length ≤ 200) (f : Nat → Bool) : AuOk (dblAu A f) := by
  obtain ⟨⟨h1, h2, h3, h4, h5⟩, h6⟩ := h
  refine ⟨⟨h1, h2, ?_, ?_, ?_⟩, fun l hl => ?_⟩
  · simp [dblAu]; omega
  · simp [dblAu]; omega
  · simp [dblAu, dblN_length]; omega
  · obtain ⟨i, hi, rfl⟩ := List.mem_map.1 hl
    have hm : i % A.acc.length < A.next.length := by rw [h5]; exact Nat.mod_lt _ h3
    obtain ⟨hl2, hb⟩ := h6 _ (List.getElem_mem hm)
    rw [show A.next.getD (i % A.acc.length) [] = A.next[i % A.acc.length] by simp [List.getD, List.getElem?_eq_getElem hm]]
    refine ⟨dblR_length _ _ _ _ _, fun x hx => ?_⟩
    obtain ⟨j, hj, rfl⟩ := List.mem_map.1 hx
    have hj2 : j < (A.next[i % A.acc.length]).length := by rw [hl2]; simpa using hj
    rw [show (A.next[i % A.acc.length]).getD j 0 = (A.next[i % A.acc.length])[j] by simp [List.getD, List.getElem?_eq_getElem hj2]]
    have := hb _ (List.getElem_mem hj2)
    simp only [dblAu, List.length_append]
    split <;> omega

theorem dbl_nx (h : AuOk A) (f : Nat → Bool) {i c : Nat} (hi : i < 2 * A.acc.length) (hc : c < 2 ^ A.T.toNat) : nx (dblAu A f) i c % A.acc.length = nx A (i % A.acc.length) c ∧ nx (dblAu A f) i c < 2 * A.acc.length := by
  have h3 : 0 < A.acc.length := h.1.2.2.1
  have hm : i % A.acc.length < A.next.length := by rw [h.1.2.2.2.2]; exact Nat.mod_lt _ h3
  have hr := h.2 _ (List.getElem_mem hm)
  have hc2 : c < (A.next[i % A.acc.length]).length := by rw [hr.1]; exact hc
  have hb := hr.2 _ (List.getElem_mem hc2)
  have e1 : nx A (i % A.acc.length) c = ((A.next[i % A.acc.length])[c]).toNat := by
    unfold nx
    simp [List.getD, List.getElem?_eq_getElem hm, List.getElem?_eq_getElem hc2]
  have e2 : nx (dblAu A f) i c = (if f (i * 2 ^ A.T.toNat + c) then (A.next[i % A.acc.length])[c] + (A.acc.length : Int) else (A.next[i % A.acc.length])[c]).toNat := by
    unfold nx dblAu dblN dblR
    simp [List.getD, hi, hc, List.getElem?_eq_getElem hm, List.getElem?_eq_getElem hc2]
  rw [e1, e2]
  generalize (A.next[i % A.acc.length])[c] = y at hb
  obtain ⟨y, rfl⟩ := Int.eq_ofNat_of_zero_le hb.1
  have hy : y < A.acc.length := by omega
  split
  · rw [show ((y : Int) + (A.acc.length : Int)).toNat = y + A.acc.length by omega, Nat.add_mod_right, Nat.mod_eq_of_lt hy]
    exact ⟨by simp, by omega⟩
  · rw [Int.toNat_natCast, Nat.mod_eq_of_lt hy]
    exact ⟨rfl, by omega⟩

theorem dbl_ac (f : Nat → Bool) {i : Nat} (hi : i < 2 * A.acc.length) : ac (dblAu A f) i = ac A (i % A.acc.length) := by
  unfold ac dblAu
  simp only [List.getD_eq_getElem?_getD]
  by_cases h : i < A.acc.length
  · rw [List.getElem?_append_left h, Nat.mod_eq_of_lt h]
  · rw [List.getElem?_append_right (by omega)]
    have : i % A.acc.length = i - A.acc.length := by
      rw [Nat.mod_eq_sub_mod (by omega), Nat.mod_eq_of_lt (by omega)]
    rw [this]

theorem dbl_lang (h : AuOk A) (f : Nat → Bool) : ∀ (l : List Nat) (i : Nat), (∀ c ∈ l, c < 2 ^ A.T.toNat) → i < 2 * A.acc.length → ac (dblAu A f) (runN (dblAu A f) i l) = ac A (runN A (i % A.acc.length) l)
  | [], i, _, hi => dbl_ac f hi
  | c :: l, i, hl, hi => by
    obtain ⟨h1, h2⟩ := dbl_nx h f hi (hl c (by simp))
    show ac (dblAu A f) (runN (dblAu A f) (nx (dblAu A f) i c) l) = ac A (runN A (nx A (i % A.acc.length) c) l)
    rw [dbl_lang h f l _ (fun x hx => hl x (by simp [hx])) h2, h1]

theorem dbl_min (h : AuOk A) (hn : A.acc.length ≤ 200) (f : Nat → Bool) : minAu (dblAu A f) = minAu A :=
  min_same (dbl_ok h hn f) h rfl fun l hl => by
    have := dbl_lang h f l 0 hl (by have := h.1.2.2.1; omega)
    rw [Nat.zero_mod] at this
    exact this

/-- What the turn says of an arrow. -/
def turnF (turn : List Bool) (j : Nat) : Bool := turn.getD (j % turn.length) false

end Go.Proofs.Ytlaipnobfmfgaaa
