/- The walks of sibyllaw19.may, of, one, known, sibylref19.Run. -/
import Derived.Handy
import Derived.Test.YtohhjdadhdibfaaFrom
import Derived.Test.YtohhjdadhdibfaaDfa3
namespace Go.Proofs.Ytohhjdadhdibfaa
open Go.RowKit

variable {R : Ending → World → Prop} {w : World} {A : Au}

/-- A struct in a cell row of its own. -/
theorem AutoAt.box {v : Value} (h : AutoAt w v A) : ∃ va vn, v = .agg #[.int .i64 A.T, va, vn] ∧ va.oneCell' = true ∧ vn.oneCell' = true := by
  obtain ⟨va, vn, e, h1, h2, h3⟩ := h
  obtain ⟨a, c, e1, _⟩ := h1.open
  obtain ⟨a2, c2, e2, _⟩ := h2.open
  exact ⟨va, vn, e, by rw [e1]; rfl, by rw [e2]; rfl⟩

def mayB (A : Au) : Bool := decide (A.acc.length ≤ 40 ∧ A.next.length ≤ 40 ∧ AuOk A)

/-- No automaton at all. -/
def noAu : Au := ⟨0, [], []⟩
theorem noAu_at (w : World) : AutoAt w (.agg #[.int .i64 0, .slice none 0 0, .slice none 0 0]) noAu :=
  ⟨_, _, rfl, ⟨none, 0, rfl, Nat.le_refl _, Nat.zero_le _, .inl rfl⟩, ⟨[], ⟨none, 0, rfl, Nat.le_refl _, Nat.zero_le _, .inl rfl⟩, rfl, by simp⟩, by simp [noAu, InI64]⟩
theorem noAu_not : ¬ AuOk noAu := fun h => by have := h.1.2.2.1; simp [noAu] at this

/-- One state, that accepts. -/
def oneAu : Au := ⟨0, [true], [[0]]⟩
theorem oneAu_ok : AuOk oneAu := by decide

end Go.Proofs.Ytohhjdadhdibfaa
