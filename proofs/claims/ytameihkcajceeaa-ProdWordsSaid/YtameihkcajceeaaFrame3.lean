/- What an argument that reads as data gives the walks: an automaton. -/
import Derived.Test.YtameihkcajceeaaFrame2
import Derived.Test.YtameihkcajceeaaAuto
import Derived.Lib.SmallJoins
namespace Go.Proofs.Ytameihkcajceeaa
open Go.ChangeShapes Go.WideShapes Go.ChangeAt Go.RowKit Go.Deep

set_option maxRecDepth 100000

theorem auto_of_trod {H : Type} {enc : TypeId × Value → H} {w : World} {base b0 : Nat} {held : Bool} {r : Reach} {v : Value} {d : DataW H} {p : List MemPlace}
    (hv : Value.okWide Try.prog w r b0 25 v) (h : DataW.Trod enc Try.prog w base (fun _ => true) held 25 v d p) : ∃ A, AutoAt w v A := by
  obtain ⟨c0, c1, c2, y0, y1, y2, m, rfl, rfl, rfl, h0, h1, h2⟩ := Go.Joins.open_agg3 Try.underlying25 (by kernel_rfl) (by kernel_rfl) hv h
  obtain ⟨x, e0, _, wx⟩ := DataW.trod_int Try.underlying3 h0
  obtain ⟨va, la, e1, ha⟩ := bools_of_trod Try.underlying22 Try.underlying4 (by kernel_rfl) h1
  obtain ⟨vn, ln, e2, hn⟩ := rows_of_trod Try.underlying23 Try.underlying40 Try.underlying3 (by kernel_rfl) (by kernel_rfl) h2
  simp only [List.cons.injEq, and_true] at e0 e1 e2
  subst e0; subst e1; subst e2
  exact ⟨⟨x, la, ln⟩, _, _, rfl, ha, hn, bounds_i64 wx⟩

end Go.Proofs.Ytameihkcajceeaa
