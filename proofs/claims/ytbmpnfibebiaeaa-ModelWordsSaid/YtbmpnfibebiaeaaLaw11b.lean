/- The walk of WordDecodes. -/
import Derived.Test.YtbmpnfibebiaeaaLaw11
import Derived.Test.YtbmpnfibebiaeaaPkA
namespace Go.Proofs.Ytbmpnfibebiaeaa
open Go.RowKit

variable {R : Ending → World → Prop} {w : World}

/-- Ints, each from 0 to 63: as Nats. -/
theorem as_nats {l : List Int} (h : ∀ x ∈ l, 0 ≤ x ∧ x ≤ 63) : ∃ W : List Nat, l = W.map Int.ofNat ∧ ∀ y ∈ W, y < 64 := by
  refine ⟨l.map Int.toNat, ?_, fun y hy => ?_⟩
  · rw [List.map_map]
    conv => lhs; rw [← List.map_id l]
    apply List.map_congr_left
    intro x hx
    have := h x hx
    simp; omega
  · obtain ⟨x, hx, rfl⟩ := List.mem_map.1 hy
    have := h x hx
    omega

theorem posOf_bounds (W : List Nat) (i m : Nat) : ∀ x ∈ posOf W i m, 0 ≤ x ∧ x < m := by
  intro x hx
  unfold posOf at hx
  obtain ⟨y, hy, rfl⟩ := List.mem_map.1 hx
  have := (List.mem_filter.1 hy).1
  rw [List.mem_range] at this
  simp; omega

theorem decRows_bounds (W : List Nat) (n m : Nat) (hm : m ≤ 1000) : ∀ l ∈ decRows W n m 0, ∀ x ∈ l, InI64 x := by
  intro l hl x hx
  unfold decRows at hl
  obtain ⟨i, _, rfl⟩ := List.mem_map.1 hl
  rw [if_neg (by omega)] at hx
  have := posOf_bounds W i m x hx
  unfold InI64; omega

theorem trim_bounds {l : List Int} (h : ∀ x ∈ l, InI64 x) : ∀ x ∈ trim l, InI64 x := by
  intro x hx
  unfold trim at hx
  rw [List.mem_reverse] at hx
  exact h x (List.mem_reverse.1 ((List.dropWhile_suffix _).subset hx))

theorem IntsAt.small {v : Value} {W : List Nat} (h : IntsAt w v (W.map Int.ofNat)) : ∀ x ∈ W.map Int.ofNat, InI64 x := h.2

end Go.Proofs.Ytbmpnfibebiaeaa
