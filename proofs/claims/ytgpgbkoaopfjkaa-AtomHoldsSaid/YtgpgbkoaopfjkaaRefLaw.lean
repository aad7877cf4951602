/- The document's machine of an atom has the same least automaton: the plain law. -/
import Derived.Test.YtgpgbkoaopfjkaaRef25b
import Derived.Test.YtgpgbkoaopfjkaaEndsLaw
namespace Go.Proofs.Ytgpgbkoaopfjkaa

/-- The document's next state, as a number. -/
def rxO (o : AOp) (N A B C s l : Nat) : Nat := stepO o N s (l.testBit A) (l.testBit B) (l.testBit C)

/-- A state's row. -/
def rowR (o : AOp) (N A B C s k : Nat) : List Int := (List.range k).map fun l => (rxO o N A B C s l : Int)

theorem rowR_succ (o : AOp) (N A B C s k : Nat) : rowR o N A B C s (k + 1) = rowR o N A B C s k ++ [(rxO o N A B C s k : Int)] := by simp [rowR, List.range_succ]
theorem rowR_len (o : AOp) (N A B C s k : Nat) : (rowR o N A B C s k).length = k := by simp [rowR]

/-- The document's automaton. -/
def refAu (o : AOp) (N A B C n : Nat) : Au := ⟨n, (List.range 31).map (accO o N), (List.range 31).map fun s => rowR o N A B C s (2 ^ n)⟩

theorem refAu_ok {o : AOp} {N A B C n : Nat} (hn : n ≤ 6) : AuOk (refAu o N A B C n) := by
  refine ⟨⟨by simp [refAu], by simp [refAu]; omega, by simp [refAu], by simp [refAu], by simp [refAu]⟩, fun l hl => ?_⟩
  obtain ⟨s, hs, rfl⟩ := List.mem_map.1 hl
  refine ⟨by simp [refAu, rowR], fun y hy => ?_⟩
  obtain ⟨l, _, rfl⟩ := List.mem_map.1 hy
  have := List.mem_range.1 hs
  have := stepO_le (o := o) (N := N) (s := s) (a := l.testBit A) (b := l.testBit B) (d := l.testBit C) (by omega)
  unfold rxO
  simp [refAu]; omega

theorem ref_nx {o : AOp} {N A B C n s l : Nat} (hs : s ≤ 30) (hl : l < 2 ^ n) : nx (refAu o N A B C n) s l = rxO o N A B C s l := by
  unfold nx refAu rowR
  simp only [List.getD_eq_getElem?_getD]
  rw [List.getElem?_map, List.getElem?_range (show s < 31 by omega)]
  simp only [Option.map_some, Option.getD_some]
  rw [List.getElem?_map, List.getElem?_range hl]
  simp

theorem ref_ac {o : AOp} {N A B C n s : Nat} (hs : s ≤ 30) : ac (refAu o N A B C n) s = accO o N s := by
  unfold ac refAu
  simp only [List.getD_eq_getElem?_getD]
  rw [List.getElem?_map, List.getElem?_range (show s < 31 by omega)]
  simp

/-- The document's state for the machine's. -/
def refOfS (o : AOp) (N s : Nat) : Nat := if s = lastO o N + 1 then 30 else s

theorem step_next {o : AOp} {N s : Nat} (hN : N ≤ 20) (hs : s ≤ lastO o N) (a b c : Bool) : stepO o N s a b c = (nextO o N s a b c).getD 30 := by
  have h30 : ¬ s = 30 := by have := last_le o hN; omega
  unfold stepO
  rw [if_neg h30]
  cases o <;> simp only [nextO, lastO] at hs ⊢ <;> cases a <;> cases b <;> cases c <;> (try simp) <;> (try (repeat' split)) <;> (try simp) <;> (try omega)

theorem acc_last {o : AOp} {N s : Nat} (hN : N ≤ 20) (hs : s < lastO o N + 2) : accO o N (refOfS o N s) = decide (s = lastO o N) := by
  unfold accO refOfS
  have := last_le o hN
  by_cases h : s = lastO o N + 1
  · rw [if_pos h, if_pos rfl]
    exact (decide_eq_false (by omega)).symm
  · rw [if_neg h, if_neg (by omega)]
    cases o <;> simp only [lastO] at h hs ⊢ <;> (try rfl)
    all_goals (first | exact (decide_eq_true (by omega)).symm | skip)

theorem rx_nx {o : AOp} {N A B C s l : Nat} (hN : N ≤ 20) (hs : s < lastO o N + 2) : rxO o N A B C (refOfS o N s) l = refOfS o N (nxO o N A B C s l) := by
  have hl := last_le o hN
  unfold rxO nxO refOfS
  by_cases h : s = lastO o N + 1
  · rw [if_pos h, if_neg (show ¬ s < lastO o N + 1 by omega), if_pos rfl]; rfl
  · rw [if_neg h, if_pos (show s < lastO o N + 1 by omega), step_next hN (by omega)]
    cases hnx : nextO o N s (l.testBit A) (l.testBit B) (l.testBit C) with
    | none => simp
    | some t =>
      have := next_le (show s < lastO o N + 1 by omega) hnx
      rw [Option.getD_some, Option.getD_some, if_neg (by omega)]

theorem ref_run {o : AOp} {N A B C n : Nat} (hN : N ≤ 20) : ∀ (l : List Nat) (s : Nat), s < lastO o N + 2 → (∀ c ∈ l, c < 2 ^ n) → ac (refAu o N A B C n) (runN (refAu o N A B C n) (refOfS o N s) l) = ac (machAu o N A B C n) (runN (machAu o N A B C n) s l)
  | [], s, hs, _ => by
    have hl := last_le o hN
    show ac _ (refOfS o N s) = ac _ s
    rw [ref_ac (by unfold refOfS; split <;> omega), mach_ac hs, acc_last hN hs]
  | c :: l, s, hs, hc => by
    have hl := last_le o hN
    show ac _ (runN (refAu o N A B C n) (nx _ (refOfS o N s) c) l) = ac _ (runN (machAu o N A B C n) (nx _ s c) l)
    have hc1 := hc c (by simp)
    rw [ref_nx (by unfold refOfS; split <;> omega) hc1, mach_nx hs hc1, rx_nx hN hs]
    exact ref_run hN l _ (nxO_lt o N A B C s c) (fun x hx => hc x (by simp [hx]))

/-- The two have one least automaton. -/
theorem ref_min {o : AOp} {N A B C n : Nat} (hN : N ≤ 20) (hn : n ≤ 6) : minAu (refAu o N A B C n) = minAu (machAu o N A B C n) :=
  min_same (refAu_ok hn) (machAu_ok hN hn) rfl fun l hl => by
    have h := ref_run (o := o) (N := N) (A := A) (B := B) (C := C) (n := n) hN l 0 (by omega) (fun c hc => by have := hl c hc; simpa [refAu] using this)
    rwa [show refOfS o N 0 = 0 by unfold refOfS; rw [if_neg (by omega)]] at h

end Go.Proofs.Ytgpgbkoaopfjkaa
