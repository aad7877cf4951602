/- A letter 0 more does not matter to an atom's automaton: the plain law. -/
import Derived.Test.YtgpgbkoaopfjkaaAtomOf2
import Derived.Test.YtgpgbkoaopfjkaaLookLaw
namespace Go.Proofs.Ytgpgbkoaopfjkaa

variable {A : Au}

theorem word_in9 (A : Au) (l : List Int) : (∀ c ∈ l, 0 ≤ c ∧ c < ((2 ^ A.T.toNat : Nat) : Int)) ∨ runA A l = -1 := by
  induction l using snoc_ind with
  | h0 => exact .inl (by simp)
  | h1 l x ih =>
    have e1 : runA A (l ++ [x]) = stepA A (runA A l) x := by simp [runA, List.foldl_append]
    rcases ih with ih | ih
    · by_cases hx : 0 ≤ x ∧ x < ((2 ^ A.T.toNat : Nat) : Int)
      · left
        intro c hc
        rcases List.mem_append.1 hc with hc | hc
        · exact ih c hc
        · simp at hc; subst hc; exact hx
      · right
        rw [e1]
        unfold stepA
        rw [if_neg]
        rintro ⟨_, h1, h2⟩
        exact hx ⟨h1, by rw [Int.natCast_pow]; exact h2⟩
    · right
      rw [e1, ih]
      exact step_none A (by decide) x

theorem mach_nx {o : AOp} {N A B C n s l : Nat} (hs : s < lastO o N + 2) (hl : l < 2 ^ n) : nx (machAu o N A B C n) s l = nxO o N A B C s l := by
  unfold nx machAu
  simp only [List.getD_eq_getElem?_getD]
  rw [List.getElem?_map, List.getElem?_range hs]
  simp only [Option.map_some, Option.getD_some]
  rw [List.getElem?_map, List.getElem?_range hl]
  simp

theorem mach_ac {o : AOp} {N A B C n s : Nat} (hs : s < lastO o N + 2) : ac (machAu o N A B C n) s = decide (s = lastO o N) := by
  unfold ac machAu
  simp only [List.getD_eq_getElem?_getD]
  rw [List.getElem?_map, List.getElem?_range hs]
  simp

theorem mach_len (o : AOp) (N A B C n : Nat) : (machAu o N A B C n).acc.length = lastO o N + 2 := by simp [machAu]

theorem next_zero {o : AOp} {N A B C s : Nat} (hs : s < lastO o N + 2) : (nxO o N A B C s 0 = lastO o N) ↔ s = lastO o N := by
  unfold nxO
  simp only [Nat.zero_testBit]
  split
  · rename_i h
    cases o <;> simp only [nextO, lastO] at h hs ⊢ <;> (try simp) <;> (try omega)
    all_goals (repeat' split) <;> simp <;> omega
  · omega

theorem run_snoc9 (A : Au) (s c : Nat) (u : List Nat) : runN A s (u ++ [c]) = nx A (runN A s u) c := by simp [runN, List.foldl_append]

/-- The plain law of AtomEnds. -/
theorem ends_law {o : AOp} {N A B C n : Nat} (hok : AuOk (machAu o N A B C n)) (l : List Int) (h0 : 0 ≤ runA (minAu (machAu o N A B C n)) (l ++ [0])) :
    accA (minAu (machAu o N A B C n)) (runA (minAu (machAu o N A B C n)) l) = accA (minAu (machAu o N A B C n)) (runA (minAu (machAu o N A B C n)) (l ++ [0])) := by
  have hm := min_ok hok
  have hT : (minAu (machAu o N A B C n)).T.toNat = n := by simp [min_T, machAu]
  have e1 : runA (minAu (machAu o N A B C n)) (l ++ [0]) = stepA (minAu (machAu o N A B C n)) (runA (minAu (machAu o N A B C n)) l) 0 := by simp [runA, List.foldl_append]
  rcases word_in9 (minAu (machAu o N A B C n)) l with hl | hl
  · have hp : 0 < 2 ^ n := Nat.pow_pos (by decide)
    have hl2 : ∀ c ∈ l ++ [0], 0 ≤ c ∧ c < ((2 ^ (minAu (machAu o N A B C n)).T.toNat : Nat) : Int) := by
      intro c hc
      rcases List.mem_append.1 hc with hc | hc
      · exact hl c hc
      · simp at hc; subst hc; rw [hT]; omega
    have hlt := hm.1.2.2.1
    rw [runA_run hm l hl, runA_run hm _ hl2, accA_ac (runN_lt hm _ hlt), accA_ac (runN_lt hm _ hlt)]
    have hn : ∀ c ∈ l.map Int.toNat, c < 2 ^ (minAu (machAu o N A B C n)).T.toNat := by
      intro c hc
      obtain ⟨x, hx, rfl⟩ := List.mem_map.1 hc
      have := hl x hx
      omega
    have hn2 : ∀ c ∈ (l ++ [0]).map Int.toNat, c < 2 ^ (minAu (machAu o N A B C n)).T.toNat := by
      intro c hc
      obtain ⟨x, hx, rfl⟩ := List.mem_map.1 hc
      have := hl2 x hx
      omega
    rw [min_lang0 hok _ hn, min_lang0 hok _ hn2, List.map_append]
    show ac (machAu o N A B C n) _ = ac (machAu o N A B C n) (runN (machAu o N A B C n) 0 (l.map Int.toNat ++ [0]))
    rw [run_snoc9]
    have hs : runN (machAu o N A B C n) 0 (l.map Int.toNat) < lastO o N + 2 := by
      have := runN_lt hok (l.map Int.toNat) hok.1.2.2.1
      rwa [mach_len] at this
    generalize runN (machAu o N A B C n) 0 (l.map Int.toNat) = s at hs
    rw [mach_nx hs hp, mach_ac hs, mach_ac (nxO_lt o N A B C s 0)]
    exact (decide_eq_decide.2 (next_zero hs)).symm
  · rw [e1, hl, step_none _ (by decide)] at h0
    omega

end Go.Proofs.Ytgpgbkoaopfjkaa
