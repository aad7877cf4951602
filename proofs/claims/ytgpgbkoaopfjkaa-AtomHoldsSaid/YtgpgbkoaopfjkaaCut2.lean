/- The walks of cut.Fix, cut.Asks. -/
import Derived.Test.YtgpgbkoaopfjkaaCut
namespace Go.Proofs.Ytgpgbkoaopfjkaa
open Go.RowKit

variable {R : Ending → World → Prop} {w : World} {a T : Nat} {L : List Nd}

/-- What Fix answers: a node, or none. -/
def FixAns (L L' : List Nd) (T : Nat) (f t : Int) (up : Bool) (r : Int) : Prop :=
  L <+: L' ∧ L'.length ≤ L.length + 64 ∧
  ((0 ≤ f ∧ f < L.length ∧ 0 ≤ t ∧ t < T ∧ ∃ k : Nat, r = k ∧ FixOk L' f.toNat t.toNat up k) ∨ (¬ (0 ≤ f ∧ f < L.length ∧ 0 ≤ t ∧ t < T) ∧ r = -1 ∧ L' = L))

/-- In a store that is right, Fix answers one node. -/
theorem fix_unique {L1 L2 : List Nd} {f t k j : Nat} {up : Bool} (h1 : WF T L1) (h2 : WF T L2) (hp : L1 <+: L2) (hf : f < L1.length) (hk : FixOk L1 f t up k) (hj : FixOk L2 f t up j) : k = j :=
  canon h2 _ k j (Nat.le_refl _) (Nat.lt_of_lt_of_le hk.lt hp.length_le) hj.lt fun c => by
    rw [val_prefix h1 h2 hp c k hk.lt, hk.val, hj.val, val_prefix h1 h2 hp _ f hf]

end Go.Proofs.Ytgpgbkoaopfjkaa
