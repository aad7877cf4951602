/- A word's sets as numbers; what the machine says of them: the plain law. -/
import Derived.Test.YtgpgbkoaopfjkaaHoldsLaw
import Derived.Test.YtgpgbkoaopfjkaaDec
namespace Go.Proofs.Ytgpgbkoaopfjkaa

/-- A variable's number. -/
def maskOf (W : List Nat) (i : Nat) : Nat := valN (W.map fun l => l.testBit i)

theorem maskOf_bit (W : List Nat) (i q : Nat) : (maskOf W i).testBit q = (W.getD q 0).testBit i := by
  unfold maskOf
  rw [valN_bit, List.getD_eq_getElem?_getD, List.getD_eq_getElem?_getD, List.getElem?_map]
  cases W[q]? <;> simp

theorem maskOf_lt {W : List Nat} (h : W.length ≤ 16) (i : Nat) : maskOf W i < 65536 := by
  have h1 := valN_lt (W.map fun l => l.testBit i)
  rw [List.length_map] at h1
  exact Nat.lt_of_lt_of_le h1 (Nat.pow_le_pow_right (by decide) h)

theorem maskOf_zero {W : List Nat} (h : ∀ c ∈ W, c < 1) (i : Nat) : maskOf W i = 0 := by
  apply Nat.eq_of_testBit_eq
  intro q
  rw [maskOf_bit, Nat.zero_testBit, List.getD_eq_getElem?_getD]
  cases hq : W[q]? with
  | none => simp
  | some c =>
    have := h c (List.mem_of_getElem? hq)
    obtain rfl : c = 0 := by omega
    simp

/-- The positions as a number. -/
def orN (l : List Int) : Nat := l.foldl (fun s x => s ||| 2 ^ x.toNat) 0

theorem orN_snoc (l : List Int) (x : Int) : orN (l ++ [x]) = orN l ||| 2 ^ x.toNat := by unfold orN; rw [List.foldl_append]; rfl

theorem fold_bit (q : Nat) : ∀ (l : List Int) (s : Nat), (l.foldl (fun s x => s ||| 2 ^ x.toNat) s).testBit q = true ↔ s.testBit q = true ∨ ∃ x ∈ l, x.toNat = q
  | [], s => by simp
  | x :: l, s => by
    rw [List.foldl_cons, fold_bit q l, Nat.testBit_or, Nat.testBit_two_pow, Bool.or_eq_true, decide_eq_true_eq]
    constructor
    · rintro ((h | h) | ⟨y, hy, h⟩)
      · exact .inl h
      · exact .inr ⟨x, by simp, h⟩
      · exact .inr ⟨y, by simp [hy], h⟩
    · rintro (h | ⟨y, hy, h⟩)
      · exact .inl (.inl h)
      · rcases List.mem_cons.1 hy with rfl | hy
        · exact .inl (.inr h)
        · exact .inr ⟨y, hy, h⟩

theorem fold_lt : ∀ (l : List Int) (s : Nat), s < 2 ^ 16 → (∀ x ∈ l, x.toNat < 16) → l.foldl (fun s x => s ||| 2 ^ x.toNat) s < 2 ^ 16
  | [], s, hs, _ => hs
  | x :: l, s, hs, h => by
    rw [List.foldl_cons]
    exact fold_lt l _ (Nat.or_lt_two_pow hs (Nat.pow_lt_pow_right (by decide) (h x (by simp)))) (fun y hy => h y (by simp [hy]))

theorem orN_lt {l : List Int} (h : ∀ x ∈ l, x.toNat < 16) : orN l < 65536 := fold_lt l 0 (by decide) h

/-- All positions of a variable: its number. -/
theorem orN_pos (W : List Nat) (i : Nat) : orN (posOf W i W.length) = maskOf W i := by
  apply Nat.eq_of_testBit_eq
  intro q
  rw [Bool.eq_iff_iff, maskOf_bit]
  unfold orN
  rw [fold_bit, Nat.zero_testBit]
  unfold posOf
  constructor
  · rintro (h | ⟨x, hx, h⟩)
    · cases h
    · obtain ⟨y, hy, rfl⟩ := List.mem_map.1 hx
      obtain ⟨_, h2⟩ := List.mem_filter.1 hy
      have : y = q := h
      rw [← this]; exact h2
  · intro h
    refine .inr ⟨(q : Int), List.mem_map.2 ⟨q, List.mem_filter.2 ⟨List.mem_range.2 ?_, h⟩, rfl⟩, rfl⟩
    apply Decidable.byContradiction
    intro hq
    rw [List.getD_eq_getElem?_getD, List.getElem?_eq_none (by omega)] at h
    simp at h

/-- A letter's three bits. -/
def tri (A B C l : Nat) : Tri := (l.testBit A, l.testBit B, l.testBit C)

theorem run_tri {o : AOp} {N A B C n : Nat} : ∀ (W : List Nat) (s : Nat), s < lastO o N + 2 → (∀ c ∈ W, c < 2 ^ n) → ac (machAu o N A B C n) (runN (machAu o N A B C n) s W) = accM o N s (W.map (tri A B C))
  | [], s, hs, _ => mach_ac hs
  | c :: W, s, hs, hc => by
    show ac _ (runN _ (nx _ s c) W) = accM o N (nxM o N s (tri A B C c)) (W.map (tri A B C))
    rw [mach_nx hs (hc c (by simp))]
    exact run_tri W _ (nxO_lt o N A B C s c) (fun x hx => hc x (by simp [hx]))

theorem run_holds {o : AOp} {N A B C n : Nat} (hok : AuOk (machAu o N A B C n)) {W : List Nat} (hW : ∀ c ∈ W, c < 2 ^ n) :
    accA (minAu (machAu o N A B C n)) (runA (minAu (machAu o N A B C n)) (W.map Int.ofNat)) = holdsO o N (maskOf W A) (maskOf W B) (maskOf W C) := by
  have hm := min_ok hok
  have hT : (minAu (machAu o N A B C n)).T.toNat = n := by simp [min_T, machAu]
  have e1 : (W.map Int.ofNat).map Int.toNat = W := by rw [List.map_map]; exact List.map_id W
  rw [runA_run hm _ (fun c hc => by
    obtain ⟨y, hy, rfl⟩ := List.mem_map.1 hc
    have := hW y hy
    rw [hT]
    simp only [Int.ofNat_eq_natCast]
    omega), e1, accA_ac (runN_lt hm _ hm.1.2.2.1), min_lang0 hok W (by rw [hT]; exact hW), run_tri W 0 (by omega) hW, holds_law]
  unfold vA vB vC maskOf
  rw [List.map_map, List.map_map, List.map_map]
  rfl

end Go.Proofs.Ytgpgbkoaopfjkaa
