/- The walk of AutoSteps. -/
import Derived.Test.YtohhjdadhdibfaaLaw19c
namespace Go.Proofs.Ytohhjdadhdibfaa
open Go.RowKit

attribute [local irreducible] wpQuiet wpPlan wpPlanZ wpUp

variable {R : Ending → World → Prop} {w : World} {T : Nat} {L : List Nd}

theorem dfaStoreN {B d s : Nat} {va vr : Value} {acc : List Bool} {roots : List Int} (hin : DfaIn w B d s va vr T acc L roots)
    (hR : ∀ e, e = .returned (.pointer (some ⟨s, 0, none⟩)) → R e w) : Calls Try.prog 85 #[.pointer (some ⟨d, 0, none⟩)] w R := by
  have HR := hide (hR _ rfl)
  clear hR
  have c2 := cell_at hin.blk 2
  simp only [List.getElem?_toArray, List.getElem?_cons_zero, List.getElem?_cons_succ] at c2
  clear hin
  go_enter Try.func85, Try.ntmps85
  go_wp2_with fail
  exact HR.out

/-- A state's row is what its node gives. -/
theorem rowA_root {next : List (List Int)} {roots : List Int} (hro : RootsOk T L roots next) (hl : ∀ l ∈ next, l.length = 2 ^ T) {i : Nat} {r : Int} {l : List Int} (hr : roots[i]? = some r) (hli : next[i]? = some l) : rowA T L r = l := by
  obtain ⟨p, rfl, hp, hvp⟩ := hro.2 i r l hr hli
  have l1 := hl l (List.mem_of_getElem? hli)
  unfold rowA
  rw [if_pos ⟨by omega, by omega⟩, Int.toNat_natCast]
  refine row_ext (by simp [l1]) fun x hx => ?_
  simp only [List.length_map, List.length_range] at hx
  rw [← hvp x hx]
  simp [List.getD, hx]

theorem step_out {A : Au} {s c : Int} (h : ¬ (0 ≤ s ∧ s < (A.acc.length : Int))) : stepA A s c = -1 := by
  unfold stepA
  rw [if_neg]
  rintro ⟨h1, _⟩
  exact h (by simpa [inA] using h1)

theorem step_off {A : Au} {s c : Int} (h : ¬ (0 ≤ c ∧ c < 2 ^ A.T.toNat)) : stepA A s c = -1 := by
  unfold stepA
  rw [if_neg (fun hh => h hh.2)]

end Go.Proofs.Ytohhjdadhdibfaa
