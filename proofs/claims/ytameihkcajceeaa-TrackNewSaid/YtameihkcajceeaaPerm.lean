/- The plain laws of tracks that stand elsewhere. -/
import Derived.Test.YtameihkcajceeaaBits
namespace Go.Proofs.Ytameihkcajceeaa

/-- A letter with its tracks elsewhere. -/
def tb (l : List Nat) (c : Nat) : Nat := l.zipIdx.foldl (fun out p => out ||| (if c.testBit p.2 then 2 ^ p.1 else 0)) 0

theorem tb_snoc (l : List Nat) (p c : Nat) : tb (l ++ [p]) c = tb l c ||| (if c.testBit l.length then 2 ^ p else 0) := by
  unfold tb
  rw [List.zipIdx_append, List.foldl_append]
  simp

theorem tb_bit (c q : Nat) (l : List Nat) : (tb l c).testBit q = true ↔ ∃ i, l[i]? = some q ∧ c.testBit i = true := by
  generalize hn : l.length = n
  induction n generalizing l with
  | zero =>
    obtain rfl := List.eq_nil_of_length_eq_zero hn
    simp [tb]
  | succ n ih =>
    obtain ⟨L, y, rfl⟩ : ∃ L y, l = L ++ [y] := ⟨l.dropLast, l.getLast (by intro h; subst h; simp at hn), (List.dropLast_concat_getLast _).symm⟩
    have hL : L.length = n := by simpa using hn
    rw [tb_snoc, Nat.testBit_or, Bool.or_eq_true, ih L hL]
    constructor
    · rintro (⟨i, h1, h2⟩ | h)
      · exact ⟨i, by rw [List.getElem?_append_left (List.getElem?_eq_some_iff.1 h1).1]; exact h1, h2⟩
      · split at h
        · rename_i hc
          rw [Nat.testBit_two_pow] at h
          obtain rfl : y = q := by simpa using h
          exact ⟨L.length, by simp, hc⟩
        · simp at h
    · rintro ⟨i, h1, h2⟩
      by_cases hi : i < L.length
      · rw [List.getElem?_append_left hi] at h1
        exact .inl ⟨i, h1, h2⟩
      · have hi2 : i = L.length := by
          have := (List.getElem?_eq_some_iff.1 h1).1
          simp at this; omega
        subst hi2
        right
        rw [if_pos h2, Nat.testBit_two_pow]
        simpa using h1

theorem tb_lt {l : List Nat} {n : Nat} (h : ∀ p ∈ l, p < n) (c : Nat) : tb l c < 2 ^ n := by
  apply Nat.lt_pow_two_of_testBit
  intro q hq
  cases hb : (tb l c).testBit q with
  | false => rfl
  | true =>
    obtain ⟨i, hi, _⟩ := (tb_bit c q l).1 hb
    have := h q (List.mem_of_getElem? hi)
    omega

theorem all_in : ∀ (n : Nat) (l : List Int), (∀ i : Nat, i < n → (i : Int) ∈ l) → n ≤ l.length
  | 0, _, _ => Nat.zero_le _
  | n + 1, l, h => by
    have h1 := h n (by omega)
    have h2 := all_in n (l.erase (n : Int)) fun i hi => (List.mem_erase_of_ne (by omega)).2 (h i (by omega))
    rw [List.length_erase_of_mem h1] at h2
    have := List.length_pos_of_mem h1
    omega

/-- As many numbers as they are, each below that among them: none else is. -/
theorem all_range {l : List Int} (h : ∀ i : Nat, i < l.length → (i : Int) ∈ l) : ∀ x ∈ l, 0 ≤ x ∧ x < (l.length : Int) := by
  intro x hx
  apply Classical.byContradiction
  intro hno
  have h2 := all_in l.length (l.erase x) fun i hi => (List.mem_erase_of_ne (by rintro rfl; omega)).2 (h i hi)
  rw [List.length_erase_of_mem hx] at h2
  have := List.length_pos_of_mem hx
  omega

/-- Which numbers are seen. -/
def seen (l : List Int) : Nat := l.foldl (fun s x => s ||| 2 ^ x.toNat) 0

theorem seen_snoc (l : List Int) (x : Int) : seen (l ++ [x]) = seen l ||| 2 ^ x.toNat := by unfold seen; rw [List.foldl_append]; rfl

theorem seen_bit (q : Nat) (l : List Int) : (seen l).testBit q = true ↔ ∃ x ∈ l, x.toNat = q := by
  generalize hn : l.length = n
  induction n generalizing l with
  | zero =>
    obtain rfl := List.eq_nil_of_length_eq_zero hn
    simp [seen]
  | succ n ih =>
    obtain ⟨L, y, rfl⟩ : ∃ L y, l = L ++ [y] := ⟨l.dropLast, l.getLast (by intro h; subst h; simp at hn), (List.dropLast_concat_getLast _).symm⟩
    have hL : L.length = n := by simpa using hn
    rw [seen_snoc, Nat.testBit_or, Bool.or_eq_true, ih L hL, Nat.testBit_two_pow]
    simp

theorem seen_lt {l : List Int} {n : Nat} (h : ∀ x ∈ l, 0 ≤ x ∧ x < (n : Int)) : seen l < 2 ^ n := by
  apply Nat.lt_pow_two_of_testBit
  intro q hq
  cases hb : (seen l).testBit q with
  | false => rfl
  | true =>
    obtain ⟨x, hx, hxq⟩ := (seen_bit q l).1 hb
    have := h x hx
    omega

/-- Each track once: said in two ways. -/
theorem perm_iff {l : List Int} (hr : ∀ x ∈ l, 0 ≤ x ∧ x < (l.length : Int)) : seen l = 2 ^ l.length - 1 ↔ ∀ i : Nat, i < l.length → (i : Int) ∈ l := by
  constructor
  · intro h i hi
    have hb : (seen l).testBit i = true := by rw [h, Nat.testBit_two_pow_sub_one]; simpa using hi
    obtain ⟨x, hx, hxi⟩ := (seen_bit i l).1 hb
    have := hr x hx
    rwa [show (i : Int) = x by omega]
  · intro h
    apply Nat.eq_of_testBit_eq
    intro q
    rw [Nat.testBit_two_pow_sub_one, Bool.eq_iff_iff, seen_bit]
    constructor
    · rintro ⟨x, hx, rfl⟩
      have := hr x hx
      simp; omega
    · intro hq
      exact ⟨q, h q (by simpa using hq), by simp⟩

/-- Back again. -/
theorem tb_back {l m : List Nat} {n : Nat} (hl : l.length = n) (hm : m.length = n) (hb : ∀ i p : Nat, l[i]? = some p → m[p]? = some i) {c : Nat} (hc : c < 2 ^ n) : tb m (tb l c) = c := by
  have _ := hm
  apply Nat.eq_of_testBit_eq
  intro q
  rw [Bool.eq_iff_iff, tb_bit]
  constructor
  · rintro ⟨p, h1, h2⟩
    obtain ⟨i, h3, h4⟩ := (tb_bit c p l).1 h2
    rw [hb i p h3] at h1
    obtain rfl := Option.some.inj h1
    exact h4
  · intro h
    have hq : q < n := by
      apply Classical.byContradiction
      intro hno
      rw [Nat.testBit_lt_two_pow (Nat.lt_of_lt_of_le hc (Nat.pow_le_pow_right (by decide) (by omega)))] at h
      cases h
    have hql : q < l.length := by omega
    exact ⟨l[q], hb q _ (List.getElem?_eq_getElem hql), (tb_bit c _ l).2 ⟨q, List.getElem?_eq_getElem hql, h⟩⟩

/-- A letter without a track. -/
def wb (t c : Nat) : Nat := c % 2 ^ t ||| (c / 2 ^ (t + 1)) * 2 ^ t

theorem wb_lt {t n c : Nat} (ht : t ≤ n) (hc : c < 2 ^ (n + 1)) : wb t c < 2 ^ n := by
  unfold wb
  have h0 : 0 < 2 ^ t := Nat.pow_pos (by decide)
  refine Nat.or_lt_two_pow (Nat.lt_of_lt_of_le (Nat.mod_lt _ h0) (Nat.pow_le_pow_right (by decide) ht)) ?_
  have h1 : c / 2 ^ (t + 1) < 2 ^ (n - t) := by
    rw [Nat.div_lt_iff_lt_mul (Nat.pow_pos (by decide)), ← Nat.pow_add, show n - t + (t + 1) = n + 1 by omega]
    exact hc
  calc (c / 2 ^ (t + 1)) * 2 ^ t < 2 ^ (n - t) * 2 ^ t := Nat.mul_lt_mul_of_pos_right h1 h0
    _ = 2 ^ n := by rw [← Nat.pow_add, show n - t + t = n by omega]

end Go.Proofs.Ytameihkcajceeaa
