/- What an argument that reads as data gives the walks: rows of ints, bools. -/
import Derived.Test.YtameihkcajceeaaFrame
import Derived.Test.YtameihkcajceeaaBools
namespace Go.Proofs.Ytameihkcajceeaa
open Go.ChangeShapes Go.WideShapes Go.ChangeAt Go.RowKit Go.Deep

section
variable {H : Type} {enc : TypeId × Value → H} {P : Program} {w : World} {base : Nat} {held : Bool}

theorem rows_of_reads {e i : TypeId} {vs : List Value} (he : P.underlying e = some (.slice i)) (hi : P.underlying i = some (.int .i64)) (hc : P.cellsOf i = 1)
    (h : ∀ y ∈ vs, ∃ n D, DataW.trod enc P w base (fun _ => true) held n e [y] = some D) :
    ∃ ls : List (List Int), vs.length = ls.length ∧ ∀ (j : Nat) (u : Value) (l : List Int), vs[j]? = some u → ls[j]? = some l → IntsAt w u l := by
  induction vs with
  | nil => exact ⟨[], rfl, by simp⟩
  | cons y ys ih =>
    obtain ⟨ls, h1, h2⟩ := ih fun z hz => h z (by simp [hz])
    obtain ⟨n, D, hD⟩ := h y (by simp)
    obtain ⟨v, l, e1, hl⟩ := ints_of_trod he hi hc hD
    simp only [List.cons.injEq, and_true] at e1
    subst e1
    refine ⟨l :: ls, by simp [h1], fun j u m hu hm => ?_⟩
    cases j with
    | zero => simp at hu hm; subst hu; subst hm; exact hl
    | succ j => exact h2 j u m (by simpa using hu) (by simpa using hm)

theorem rows_of_trod {t e i : TypeId} {fuel : Nat} {cs : List Value} {x : DataW H × List MemPlace} (ht : P.underlying t = some (.slice e)) (he : P.underlying e = some (.slice i)) (hi : P.underlying i = some (.int .i64)) (hc : P.cellsOf e = 1) (hci : P.cellsOf i = 1)
    (h : DataW.trod enc P w base (fun _ => true) held fuel t cs = some x) : ∃ v l, cs = [v] ∧ RowsAt w v l := by
  obtain ⟨v, vs, rfl, h1, h2⟩ := slice_of_trod ht hc h
  obtain ⟨ls, h3, h4⟩ := rows_of_reads he hi hci h2
  exact ⟨v, ls, rfl, vs, h1, h3, h4⟩

theorem bools_of_reads {e : TypeId} {vs : List Value} (he : P.underlying e = some .bool) (h : ∀ y ∈ vs, ∃ n D, DataW.trod enc P w base (fun _ => true) held n e [y] = some D) :
    ∃ l : List Bool, vs = l.map Value.bool := by
  induction vs with
  | nil => exact ⟨[], rfl⟩
  | cons y ys ih =>
    obtain ⟨l, rfl⟩ := ih fun z hz => h z (by simp [hz])
    obtain ⟨n, D, hD⟩ := h y (by simp)
    obtain ⟨b, e1, _⟩ := DataW.trod_bool he hD
    simp only [List.cons.injEq, and_true] at e1
    subst e1
    exact ⟨b :: l, rfl⟩

theorem bools_of_trod {t e : TypeId} {fuel : Nat} {cs : List Value} {x : DataW H × List MemPlace} (ht : P.underlying t = some (.slice e)) (he : P.underlying e = some .bool) (hc : P.cellsOf e = 1)
    (h : DataW.trod enc P w base (fun _ => true) held fuel t cs = some x) : ∃ v l, cs = [v] ∧ BoolsAt w v l := by
  obtain ⟨v, vs, rfl, h1, h2⟩ := slice_of_trod ht hc h
  obtain ⟨l, rfl⟩ := bools_of_reads he h2
  exact ⟨v, l, rfl, h1⟩

end
end Go.Proofs.Ytameihkcajceeaa
