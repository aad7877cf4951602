/- The walk of sibylref23.Widen. -/
import Derived.Test.YtameihkcajceeaaTrack2
namespace Go.Proofs.Ytameihkcajceeaa
open Go.RowKit

variable {R : Ending → World → Prop} {w : World} {A : Au} {B x : Nat} {T : Int} {u vn : Value} {rows : List (List Int)}

/-- On the way: the variable's block x, the rows so far, from B on. -/
structure OutIn (w : World) (B x : Nat) (T : Int) (u vn : Value) (rows : List (List Int)) : Prop where
  blk : w.heap[x]? = some (.cells #[.int .i64 T, u, vn] 25 (0, 0))
  low : B ≤ x
  mat : OwnMat w B vn rows

theorem OutIn.same {w' : World} (h : OutIn w B x T u vn rows) (k : Same w w') : OutIn w' B x T u vn rows :=
  ⟨k.at h.blk trivial, h.low, h.mat.same k⟩

theorem OutIn.apart (h : OutIn w B x T u vn rows) : vn.ownBlock ≠ some x := fun e => by
  obtain ⟨vs, h1, _⟩ := h.mat
  obtain ⟨_, cur, hc⟩ := ownsRow_block h1 e
  rw [h.blk] at hc
  simp at hc

/-- A row more. -/
theorem OutIn.step {w' : World} {vn' : Value} {rows' : List (List Int)} (h : OutIn w B x T u vn rows) (k : Keeps (fun b => vn.ownBlock ≠ some b) w w') (hm : OwnMat w' B vn' rows') : OutIn (w'.setCell ⟨x, 2, none⟩ vn') B x T u vn' rows' := by
  have hb := k.at h.blk h.apart
  have ks : Keeps (· ≠ x) w' (w'.setCell ⟨x, 2, none⟩ vn') := (Keeps.refl (· ≠ x) w').setCell (fun hh => hh.2 rfl) _
  refine ⟨by rw [heap_setCell_at hb]; simp, h.low, hm.keepT ks fun b cur e hc he _ => ?_⟩
  rintro rfl
  rw [hb] at hc
  simp only [Option.some.injEq, Obj.cells.injEq] at hc
  obtain ⟨_, rfl, _⟩ := hc
  rcases he with he | he <;> exact absurd he (by decide)

end Go.Proofs.Ytameihkcajceeaa
