/- How many states the least automata of some atoms have. No program in sight. -/
import Derived.Test.YtgpgbkoaopfjkaaAtomLaw
namespace Go.Proofs.Ytgpgbkoaopfjkaa

theorem tru_states : (minAu (machAu .tru 0 0 0 0 0)).acc.length = 1 := by decide +kernel
theorem sing_states : (minAu (machAu .sing 0 0 0 0 1)).acc.length = 3 := by decide +kernel
theorem num_states : ∀ N, N < 21 → (minAu (machAu .num N 0 0 0 1)).acc.length = N + 3 := by decide +kernel
theorem plus_states : ∀ N, N < 21 → (minAu (machAu .plus N 0 1 0 2)).acc.length = N + 3 := by decide +kernel

end Go.Proofs.Ytgpgbkoaopfjkaa
