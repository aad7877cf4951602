/- What an argument that reads as data gives the walks: a slice of ints, of slices of ints, of bools. -/
import Derived.Test.YtohhjdadhdibfaaRows
import Derived.Test.YtohhjdadhdibfaaBase
import Derived.ProofKit
import Derived.OpenShut
import Derived.ShutString
import Derived.ChangeOld
import Derived.Below
import Derived.Deep.Slices
namespace Go.Proofs.Ytohhjdadhdibfaa
open Go.ChangeShapes Go.WideShapes Go.ChangeAt Go.RowKit Go.Deep

theorem own : ownKnob Try.prog.godebug = none := by kernel_rfl
theorem laidOut : laidOutB Try.prog = true := by kernel_rfl

section
variable {H : Type} {enc : TypeId × Value → H} {P : Program} {w : World} {base : Nat} {held : Bool}

/-- A slice whose elements are one cell each: its elements' values, each of which reads. -/
theorem slice_of_trod {t e : TypeId} {fuel : Nat} {cs : List Value} {x : DataW H × List MemPlace} (ht : P.underlying t = some (.slice e)) (hc : P.cellsOf e = 1)
    (h : DataW.trod enc P w base (fun _ => true) held fuel t cs = some x) :
    ∃ v vs, cs = [v] ∧ SliceAt w v vs ∧ ∀ y ∈ vs, ∃ n D, DataW.trod enc P w base (fun _ => true) held n e [y] = some D := by
  rcases open_slice1 ht hc h with ⟨rfl, _⟩ | ⟨a, len, cap, m, n, V, D, Pl, rfl, hb, hl, hm, hmm, hx, hV⟩
  · exact ⟨_, [], rfl, ⟨none, 0, rfl, Nat.le_refl _, Nat.zero_le _, .inl rfl⟩, by simp⟩
  · simp only [if_true] at hmm
    subst hmm
    refine ⟨_, (List.range len).map V, rfl, ⟨some a, m, by simp, by simpa using hl, hm, ?_⟩, ?_⟩
    · by_cases h0 : len = 0
      · subst h0; exact .inl rfl
      · right
        have h1 := (hV 0 (by omega)).1
        obtain ⟨b, off, spot⟩ := a
        have hs : spot = none := by simpa [Addr.add] using World.cell?_spot h1
        subst hs
        have hcell : ∀ i, i < len → w.cell? ⟨b, off + i, none⟩ = some (V i) := fun i hi => by
          have := (hV i (by omega)).1
          unfold Addr.add at this
          split at this
          · rename_i h0; subst h0; exact this
          · exact this
        have h2 := hcell 0 (by omega)
        unfold World.cell? at h2
        split at h2
        · rename_i cur ee fr hh
          refine ⟨b, off, cur, ee, fr, rfl, hh, fun i y hy => ?_⟩
          simp only [List.getElem?_map, Option.map_eq_some_iff] at hy
          obtain ⟨j, hj, rfl⟩ := hy
          have hj' := List.getElem?_eq_some_iff.1 hj
          obtain ⟨hj1, hj2⟩ := hj'
          simp only [List.length_range] at hj1
          simp only [List.getElem_range] at hj2
          subst hj2
          have := hcell i hj1
          rw [cell_at hh] at this
          exact this
        · cases h2
    · intro y hy
      simp only [List.mem_map, List.mem_range] at hy
      obtain ⟨i, hi, rfl⟩ := hy
      exact ⟨n, _, (hV i (by omega)).2⟩

/-- Each of the values is an int. -/
theorem ints_of_reads {e : TypeId} {vs : List Value} (he : P.underlying e = some (.int .i64)) (h : ∀ y ∈ vs, ∃ n D, DataW.trod enc P w base (fun _ => true) held n e [y] = some D) :
    ∃ l : List Int, vs = l.map (Value.int .i64) ∧ ∀ x ∈ l, InI64 x := by
  induction vs with
  | nil => exact ⟨[], rfl, by simp⟩
  | cons y ys ih =>
    obtain ⟨l, rfl, hl⟩ := ih fun z hz => h z (by simp [hz])
    obtain ⟨n, D, hD⟩ := h y (by simp)
    obtain ⟨a, e1, _, wa⟩ := DataW.trod_int he hD
    simp only [List.cons.injEq, and_true] at e1
    subst e1
    refine ⟨a :: l, rfl, ?_⟩
    intro x hx
    rcases List.mem_cons.1 hx with rfl | hx
    · have := bounds_i64 wa
      exact this
    · exact hl x hx

theorem ints_of_trod {t e : TypeId} {fuel : Nat} {cs : List Value} {x : DataW H × List MemPlace} (ht : P.underlying t = some (.slice e)) (he : P.underlying e = some (.int .i64)) (hc : P.cellsOf e = 1)
    (h : DataW.trod enc P w base (fun _ => true) held fuel t cs = some x) : ∃ v l, cs = [v] ∧ IntsAt w v l := by
  obtain ⟨v, vs, rfl, h1, h2⟩ := slice_of_trod ht hc h
  obtain ⟨l, rfl, hl⟩ := ints_of_reads he h2
  exact ⟨v, l, rfl, h1, hl⟩

end
end Go.Proofs.Ytohhjdadhdibfaa
