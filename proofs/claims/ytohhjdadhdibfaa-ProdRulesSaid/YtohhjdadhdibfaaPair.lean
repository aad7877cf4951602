/- Maps whose key is two ints; the walks of pair.maker's small functions. -/
import Derived.Test.YtohhjdadhdibfaaCut2
import Derived.Test.YtohhjdadhdibfaaPkA
namespace Go.Proofs.Ytohhjdadhdibfaa
open Go.RowKit

variable {R : Ending → World → Prop} {w : World} {a T : Nat} {L : List Nd}

/-- Two ints as a value. -/
def pairV (p : Int × Int) : Value := .agg #[.int .i64 p.1, .int .i64 p.2]

theorem pairEq (x y : Int × Int) (w : World) : (Op.equal 82 (pairV x) (pairV y)).run Try.prog w = .ok (decide (x = y)) w := by
  obtain ⟨a, b⟩ := x
  obtain ⟨c, d⟩ := y
  have he : ∀ (n : Nat) (p q : Int), (Op.equalIn (n + 1) 3 (.int .i64 p) (.int .i64 q)).run Try.prog w = .ok (p == q) w := fun n p q => by
    unfold Op.equalIn
    simp [run_underlying Try.underlying3]
  have he' : ∀ (p q : Int), (Op.equalIn 9999 3 (.int .i64 p) (.int .i64 q)).run Try.prog w = .ok (p == q) w := he 9998
  have h1 : ∀ (p q : Int), (part 3 #[.int .i64 p, .int .i64 q] 1).run Try.prog w = .ok (.int .i64 q) w := fun p q => by kernel_rfl
  have h0 : ∀ (p q : Int), (part 3 #[.int .i64 p, .int .i64 q] 0).run Try.prog w = .ok (.int .i64 p) w := fun p q => by kernel_rfl
  show (Op.equalIn (9998 + 1 + 1) 82 (.agg #[.int .i64 a, .int .i64 b]) (.agg #[.int .i64 c, .int .i64 d])).run Try.prog w = _
  rw [Op.equalIn]
  by_cases e1 : a = c <;> by_cases e2 : b = d <;> simp [run_underlying Try.underlying82, List.range', h0, h1, he', e1, e2]

theorem pairKeys : KeyT Try.prog 82 pairV where
  find := find_slow (fun d hd x y => by rw [Try.underlying82] at hd; cases hd; rfl) pairEq Try.underlying82
  check := fun b x w => by cases b <;> kernel_rfl
  stays := fun x w => by
    unfold Instr.keyThatStays
    rw [if_pos]
    · rfl
    · show Instr.sameBits (9999 + 1) (.agg _) (.agg _) = true
      simp [Instr.sameBits]

/-- The less of two nodes' tracks; below 0: both are leaves. -/
def topA (L : List Nd) (f g : Int) : Int := if trackA L f < 0 ∨ (0 ≤ trackA L g ∧ trackA L g < trackA L f) then trackA L g else trackA L f

attribute [local irreducible] wpQuiet

end Go.Proofs.Ytohhjdadhdibfaa
