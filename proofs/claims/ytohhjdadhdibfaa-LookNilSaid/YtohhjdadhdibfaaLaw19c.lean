/- The walk of AutoShared. -/
import Derived.Test.YtohhjdadhdibfaaLaw19b
namespace Go.Proofs.Ytohhjdadhdibfaa
open Go.RowKit

attribute [local irreducible] wpQuiet

variable {R : Ending → World → Prop} {w : World} {T : Nat} {L : List Nd}

/-- Two states that go alike have one node. -/
theorem roots_iff {roots : List Int} {next : List (List Int)} (hw : WF T L) (hro : RootsOk T L roots next) (hl : ∀ l ∈ next, l.length = 2 ^ T) {i k : Nat} {a b : Int} {l m : List Int}
    (ha : roots[i]? = some a) (hb : roots[k]? = some b) (hli : next[i]? = some l) (hlk : next[k]? = some m) : a = b ↔ l = m := by
  obtain ⟨p, rfl, hp, hvp⟩ := hro.2 i a l ha hli
  obtain ⟨q, rfl, hq, hvq⟩ := hro.2 k b m hb hlk
  have l1 := hl l (List.mem_of_getElem? hli)
  have l2 := hl m (List.mem_of_getElem? hlk)
  constructor
  · intro e
    obtain rfl : p = q := by exact_mod_cast e
    refine row_ext (by omega) fun x hx => ?_
    rw [← hvp x (by omega), ← hvq x (by omega)]
  · rintro rfl
    rw [canon_row hw hp hq fun c hc => by rw [hvp c hc, hvq c hc]]

/-- The root of a state that there is. -/
theorem dfaRootN {A : Au} {B d s : Nat} {va vr : Value} {roots : List Int} (h : DFAAt w B d A) (hin : DfaIn w B d s va vr A.T.toNat A.acc L roots) (hlen : L.length ≤ 127 * A.acc.length) (hro : RootsOk A.T.toNat L roots A.next) {i : Nat} {r : Int} (hr : roots[i]? = some r)
    (hR : ∀ e, e = .returned (.int .i64 r) → R e w) : Calls Try.prog 89 #[.pointer (some ⟨d, 0, none⟩), .int .i64 i] w R := by
  refine dfaRoot h hin hlen hro i fun e he => hR e ?_
  have hi := (List.getElem?_eq_some_iff.1 hr).1
  rw [hro.1, h.ok.1.2.2.2.2] at hi
  rw [he, if_pos (by simp [inA, hi])]
  simp [List.getD, hr]

end Go.Proofs.Ytohhjdadhdibfaa
