/- Rows of ints in memory; the walks of word.Bound, sibyllaw11.long. -/
import Derived.Test.YtgpgbkoaopfjkaaPkA
namespace Go.Proofs.Ytgpgbkoaopfjkaa
open Go.RowKit

/-- Ints, not below 0 nor above 999. -/
def Small (ls : List (List Int)) : Prop := ∀ l ∈ ls, ∀ x ∈ l, 0 ≤ x ∧ x ≤ 999

/-- How many letters. -/
def bnd (l : List Int) : Int := l.foldl (fun n x => max n (x + 1)) 0

theorem foldl_max_le (l : List Int) : ∀ (n m : Int), n ≤ m → (∀ x ∈ l, x + 1 ≤ m) → l.foldl (fun n x => max n (x + 1)) n ≤ m := by
  induction l with
  | nil => intro n m h _; exact h
  | cons x l ih =>
    intro n m h hx
    exact ih _ m (by have := hx x (by simp); show max n (x + 1) ≤ m; omega) fun y hy => hx y (by simp [hy])

theorem le_foldl_max (l : List Int) : ∀ (n : Int), n ≤ l.foldl (fun n x => max n (x + 1)) n ∧ ∀ x ∈ l, x + 1 ≤ l.foldl (fun n x => max n (x + 1)) n := by
  induction l with
  | nil => intro n; exact ⟨Int.le_refl _, by simp⟩
  | cons x l ih =>
    intro n
    have := ih (max n (x + 1))
    refine ⟨by simp only [List.foldl_cons]; omega, fun y hy => ?_⟩
    simp only [List.foldl_cons]
    rcases List.mem_cons.1 hy with rfl | hy
    · omega
    · exact this.2 y hy

theorem bnd_lt {l : List Int} {x : Int} (h : x ∈ l) : x < bnd l := by
  have := (le_foldl_max l 0).2 x h
  unfold bnd; omega

theorem bnd_bounds {l : List Int} (h : ∀ x ∈ l, 0 ≤ x ∧ x ≤ 999) : 0 ≤ bnd l ∧ bnd l ≤ 1000 :=
  ⟨(le_foldl_max l 0).1, foldl_max_le l 0 1000 (by omega) fun x hx => by have := h x hx; omega⟩

theorem bnd_snoc (l : List Int) (x : Int) : bnd (l ++ [x]) = max (bnd l) (x + 1) := by unfold bnd; rw [List.foldl_append]; rfl

/-- The numbers of the first i rows and of the next one's first k. -/
def upTo (ls : List (List Int)) (i k : Nat) : List Int := (ls.take i).flatten ++ (ls.getD i []).take k

theorem upTo_snoc {ls : List (List Int)} {i k : Nat} {r : List Int} {x : Int} (hi : ls[i]? = some r) (hk : r[k]? = some x) : upTo ls i (k + 1) = upTo ls i k ++ [x] := by
  unfold upTo
  have h1 : ls.getD i [] = r := by simp [List.getD, hi]
  have h2 := List.getElem?_eq_some_iff.1 hk
  obtain ⟨h3, rfl⟩ := h2
  rw [h1, List.take_succ_eq_append_getElem h3, List.append_assoc]

theorem upTo_row {ls : List (List Int)} {i : Nat} {r : List Int} (hi : ls[i]? = some r) {k : Nat} (hk : r.length ≤ k) : upTo ls (i + 1) 0 = upTo ls i k := by
  unfold upTo
  have h1 : ls.getD i [] = r := by simp [List.getD, hi]
  obtain ⟨h3, rfl⟩ := List.getElem?_eq_some_iff.1 hi
  rw [h1, List.take_succ_eq_append_getElem h3, List.take_of_length_le hk, List.flatten_append]
  simp only [List.flatten_cons, List.flatten_nil, List.append_nil, List.take_zero]

theorem upTo_all (ls : List (List Int)) {i : Nat} (hi : ls.length ≤ i) : upTo ls i 0 = ls.flatten := by
  unfold upTo
  rw [List.take_of_length_le hi]; simp

theorem upTo_small {ls : List (List Int)} (h : Small ls) (i k : Nat) : ∀ x ∈ upTo ls i k, 0 ≤ x ∧ x ≤ 999 := by
  intro x hx
  unfold upTo at hx
  rcases List.mem_append.1 hx with hx | hx
  · obtain ⟨l, hl, hxl⟩ := List.mem_flatten.1 hx
    exact h l (List.mem_of_mem_take hl) x hxl
  · have hx' := List.mem_of_mem_take hx
    by_cases hi : i < ls.length
    · rw [List.getD_eq_getElem?_getD, List.getElem?_eq_getElem hi] at hx'
      exact h _ (List.getElem_mem hi) x hx'
    · rw [List.getD_eq_getElem?_getD, List.getElem?_eq_none (by omega)] at hx'
      cases hx'

variable {R : Ending → World → Prop} {w : World}

end Go.Proofs.Ytgpgbkoaopfjkaa
