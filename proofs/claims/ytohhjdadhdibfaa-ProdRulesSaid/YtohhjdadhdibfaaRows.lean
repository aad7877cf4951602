/-
  No cell of these rows narrows 'for every input' (looked for: loops, veiled, ifaces, maps, wideKeys, modest, calm, conditions, laid).
  DERIVED. THE GIVEN ROWS OF THIS SEAT. 12 by the template 'for every input the law returns true; each argument reads behind the call as it read before'; 0 by the template 'total and deterministic' (their statements: YtohhjdadhdibfaaTotals.lean).
  GIVEN WITH THE SEED: the statements are not yours to turn. If you find one false, say at which input.
  Laid BY PROGRAM, IN A SANDBOX (cutbox-rows.mjs): the forced cells as the released guide's own fill.sh prints them over the translation bd1eb943275f0252… (all of the seat's roots in one cut). By AI agents, Wed Nov 11 2026. No macro, syntax, notation, axiom, sorry.
-/
import Derived.Test.YtohhjdadhdibfaaChecked
import GoSem.Claim
import GoSem.ClaimJoined
import GoSem.ClaimMapViews
import Derived.JoinedTies
import Derived.KernelRfl
namespace Go.Proofs.Ytohhjdadhdibfaa
/- THE CELL 'sum', in the pinned program and in every row, IS THE sha256 OF THE DUMP (.gsa) THAT YtohhjdadhdibfaaProg.lean LOADS. Nothing in Lean hashes anything: it is a label: what it is worth is what the hold of that sum in a sandbox is worth. -/
noncomputable def Try.pinned : Pinned := { name := "ytohhjdadhdibfaa", sum := "bd1eb943275f0252f0331badf5ee58db9d34061db0bb39b7791c5f914f5e7c2a", checked := Try.checked }
namespace Rows
def none {H : Type} : Left H := { results := [], args := [] }

/-- 'sibyllaw20.ProdNot': WHATEVER THE INPUT: true; the input reads as it did. -/
def prodNotSpec : ChangeSpec := { name := "prodNot", fn := fun _ => fun
  | [d] => { results := [.lit (.bool true)], args := [d] }
  | _ => none }
def prodNotRow : OpenClaim := { program := "ytohhjdadhdibfaa", sum := "bd1eb943275f0252f0331badf5ee58db9d34061db0bb39b7791c5f914f5e7c2a", func := "sibyl/sibyllaw20.ProdNot", spec := "prodNot", unfollowed := true, recurses := true, plainKeys := false, apart := false }
def ProdNotSaid : Prop := prodNotRow.holds Try.pinned (OpenSpec.ofChange prodNotSpec)

/-- ITS FALSE NEIGHBOUR: 'it returns false'. Refute it at one input. -/
def prodNotWrong : ChangeSpec := { name := "prodNot", fn := fun _ => fun
  | [d] => { results := [.lit (.bool false)], args := [d] }
  | _ => none }
def ProdNotWrongFalsely : Prop := prodNotRow.holds Try.pinned (OpenSpec.ofChange prodNotWrong)

/-- 'sibyllaw20.ProdNone': WHATEVER THE INPUT: true; the input reads as it did. -/
def prodNoneSpec : ChangeSpec := { name := "prodNone", fn := fun _ => fun
  | [d1, d2, d3] => { results := [.lit (.bool true)], args := [d1, d2, d3] }
  | _ => none }
def prodNoneRow : OpenClaim := { program := "ytohhjdadhdibfaa", sum := "bd1eb943275f0252f0331badf5ee58db9d34061db0bb39b7791c5f914f5e7c2a", func := "sibyl/sibyllaw20.ProdNone", spec := "prodNone", unfollowed := true, recurses := true, plainKeys := false, apart := false }
def ProdNoneSaid : Prop := prodNoneRow.holds Try.pinned (OpenSpec.ofChange prodNoneSpec)

/-- ITS FALSE NEIGHBOUR: 'it returns false'. Refute it at one input. -/
def prodNoneWrong : ChangeSpec := { name := "prodNone", fn := fun _ => fun
  | [d1, d2, d3] => { results := [.lit (.bool false)], args := [d1, d2, d3] }
  | _ => none }
def ProdNoneWrongFalsely : Prop := prodNoneRow.holds Try.pinned (OpenSpec.ofChange prodNoneWrong)

/-- 'sibyllaw20.ProdRules': WHATEVER THE INPUT: true; the input reads as it did. -/
def prodRulesSpec : ChangeSpec := { name := "prodRules", fn := fun _ => fun
  | [d1, d2] => { results := [.lit (.bool true)], args := [d1, d2] }
  | _ => none }
def prodRulesRow : OpenClaim := { program := "ytohhjdadhdibfaa", sum := "bd1eb943275f0252f0331badf5ee58db9d34061db0bb39b7791c5f914f5e7c2a", func := "sibyl/sibyllaw20.ProdRules", spec := "prodRules", unfollowed := true, recurses := true, plainKeys := false, apart := false }
def ProdRulesSaid : Prop := prodRulesRow.holds Try.pinned (OpenSpec.ofChange prodRulesSpec)

/-- ITS FALSE NEIGHBOUR: 'it returns false'. Refute it at one input. -/
def prodRulesWrong : ChangeSpec := { name := "prodRules", fn := fun _ => fun
  | [d1, d2] => { results := [.lit (.bool false)], args := [d1, d2] }
  | _ => none }
def ProdRulesWrongFalsely : Prop := prodRulesRow.holds Try.pinned (OpenSpec.ofChange prodRulesWrong)

/-- 'sibyllaw23.TrackNew': WHATEVER THE INPUT: true; the input reads as it did. -/
def trackNewSpec : ChangeSpec := { name := "trackNew", fn := fun _ => fun
  | [d1, d2, d3, d4] => { results := [.lit (.bool true)], args := [d1, d2, d3, d4] }
  | _ => none }
def trackNewRow : OpenClaim := { program := "ytohhjdadhdibfaa", sum := "bd1eb943275f0252f0331badf5ee58db9d34061db0bb39b7791c5f914f5e7c2a", func := "sibyl/sibyllaw23.TrackNew", spec := "trackNew", unfollowed := true, recurses := true, plainKeys := false, apart := false }
def TrackNewSaid : Prop := trackNewRow.holds Try.pinned (OpenSpec.ofChange trackNewSpec)

/-- ITS FALSE NEIGHBOUR: 'it returns false'. Refute it at one input. -/
def trackNewWrong : ChangeSpec := { name := "trackNew", fn := fun _ => fun
  | [d1, d2, d3, d4] => { results := [.lit (.bool false)], args := [d1, d2, d3, d4] }
  | _ => none }
def TrackNewWrongFalsely : Prop := trackNewRow.holds Try.pinned (OpenSpec.ofChange trackNewWrong)

/-- 'sibyllaw20.ProdWords': WHATEVER THE INPUT: true; the input reads as it did. -/
def prodWordsSpec : ChangeSpec := { name := "prodWords", fn := fun _ => fun
  | [d1, d2, d3, d4] => { results := [.lit (.bool true)], args := [d1, d2, d3, d4] }
  | _ => none }
def prodWordsRow : OpenClaim := { program := "ytohhjdadhdibfaa", sum := "bd1eb943275f0252f0331badf5ee58db9d34061db0bb39b7791c5f914f5e7c2a", func := "sibyl/sibyllaw20.ProdWords", spec := "prodWords", unfollowed := true, recurses := true, plainKeys := false, apart := false }
def ProdWordsSaid : Prop := prodWordsRow.holds Try.pinned (OpenSpec.ofChange prodWordsSpec)

/-- ITS FALSE NEIGHBOUR: 'it returns false'. Refute it at one input. -/
def prodWordsWrong : ChangeSpec := { name := "prodWords", fn := fun _ => fun
  | [d1, d2, d3, d4] => { results := [.lit (.bool false)], args := [d1, d2, d3, d4] }
  | _ => none }
def ProdWordsWrongFalsely : Prop := prodWordsRow.holds Try.pinned (OpenSpec.ofChange prodWordsWrong)

/-- 'sibyllaw16.BddShared': WHATEVER THE INPUT: true; the input reads as it did. -/
def bddSharedSpec : ChangeSpec := { name := "bddShared", fn := fun _ => fun
  | [d1, d2, d3, d4] => { results := [.lit (.bool true)], args := [d1, d2, d3, d4] }
  | _ => none }
def bddSharedRow : OpenClaim := { program := "ytohhjdadhdibfaa", sum := "bd1eb943275f0252f0331badf5ee58db9d34061db0bb39b7791c5f914f5e7c2a", func := "sibyl/sibyllaw16.BddShared", spec := "bddShared", unfollowed := true, recurses := true, plainKeys := false, apart := false }
def BddSharedSaid : Prop := bddSharedRow.holds Try.pinned (OpenSpec.ofChange bddSharedSpec)

/-- ITS FALSE NEIGHBOUR: 'it returns false'. Refute it at one input. -/
def bddSharedWrong : ChangeSpec := { name := "bddShared", fn := fun _ => fun
  | [d1, d2, d3, d4] => { results := [.lit (.bool false)], args := [d1, d2, d3, d4] }
  | _ => none }
def BddSharedWrongFalsely : Prop := bddSharedRow.holds Try.pinned (OpenSpec.ofChange bddSharedWrong)

/-- 'sibyllaw16.BddOfNothing': WHATEVER THE INPUT: true; the input reads as it did. -/
def bddOfNothingSpec : ChangeSpec := { name := "bddOfNothing", fn := fun _ => fun
  | [d1, d2] => { results := [.lit (.bool true)], args := [d1, d2] }
  | _ => none }
def bddOfNothingRow : OpenClaim := { program := "ytohhjdadhdibfaa", sum := "bd1eb943275f0252f0331badf5ee58db9d34061db0bb39b7791c5f914f5e7c2a", func := "sibyl/sibyllaw16.BddOfNothing", spec := "bddOfNothing", unfollowed := true, recurses := true, plainKeys := false, apart := false }
def BddOfNothingSaid : Prop := bddOfNothingRow.holds Try.pinned (OpenSpec.ofChange bddOfNothingSpec)

/-- ITS FALSE NEIGHBOUR: 'it returns false'. Refute it at one input. -/
def bddOfNothingWrong : ChangeSpec := { name := "bddOfNothing", fn := fun _ => fun
  | [d1, d2] => { results := [.lit (.bool false)], args := [d1, d2] }
  | _ => none }
def BddOfNothingWrongFalsely : Prop := bddOfNothingRow.holds Try.pinned (OpenSpec.ofChange bddOfNothingWrong)

/-- 'sibyllaw21.LookLeast': WHATEVER THE INPUT: true; the input reads as it did. -/
def lookLeastSpec : ChangeSpec := { name := "lookLeast", fn := fun _ => fun
  | [d1, d2] => { results := [.lit (.bool true)], args := [d1, d2] }
  | _ => none }
def lookLeastRow : OpenClaim := { program := "ytohhjdadhdibfaa", sum := "bd1eb943275f0252f0331badf5ee58db9d34061db0bb39b7791c5f914f5e7c2a", func := "sibyl/sibyllaw21.LookLeast", spec := "lookLeast", unfollowed := true, recurses := true, plainKeys := false, apart := false }
def LookLeastSaid : Prop := lookLeastRow.holds Try.pinned (OpenSpec.ofChange lookLeastSpec)

/-- ITS FALSE NEIGHBOUR: 'it returns false'. Refute it at one input. -/
def lookLeastWrong : ChangeSpec := { name := "lookLeast", fn := fun _ => fun
  | [d1, d2] => { results := [.lit (.bool false)], args := [d1, d2] }
  | _ => none }
def LookLeastWrongFalsely : Prop := lookLeastRow.holds Try.pinned (OpenSpec.ofChange lookLeastWrong)

/-- 'sibyllaw21.LookTells': WHATEVER THE INPUT: true; the input reads as it did. -/
def lookTellsSpec : ChangeSpec := { name := "lookTells", fn := fun _ => fun
  | [d] => { results := [.lit (.bool true)], args := [d] }
  | _ => none }
def lookTellsRow : OpenClaim := { program := "ytohhjdadhdibfaa", sum := "bd1eb943275f0252f0331badf5ee58db9d34061db0bb39b7791c5f914f5e7c2a", func := "sibyl/sibyllaw21.LookTells", spec := "lookTells", unfollowed := true, recurses := true, plainKeys := false, apart := false }
def LookTellsSaid : Prop := lookTellsRow.holds Try.pinned (OpenSpec.ofChange lookTellsSpec)

/-- ITS FALSE NEIGHBOUR: 'it returns false'. Refute it at one input. -/
def lookTellsWrong : ChangeSpec := { name := "lookTells", fn := fun _ => fun
  | [d] => { results := [.lit (.bool false)], args := [d] }
  | _ => none }
def LookTellsWrongFalsely : Prop := lookTellsRow.holds Try.pinned (OpenSpec.ofChange lookTellsWrong)

/-- 'sibyllaw21.LookNot': WHATEVER THE INPUT: true; the input reads as it did. -/
def lookNotSpec : ChangeSpec := { name := "lookNot", fn := fun _ => fun
  | [d] => { results := [.lit (.bool true)], args := [d] }
  | _ => none }
def lookNotRow : OpenClaim := { program := "ytohhjdadhdibfaa", sum := "bd1eb943275f0252f0331badf5ee58db9d34061db0bb39b7791c5f914f5e7c2a", func := "sibyl/sibyllaw21.LookNot", spec := "lookNot", unfollowed := true, recurses := true, plainKeys := false, apart := false }
def LookNotSaid : Prop := lookNotRow.holds Try.pinned (OpenSpec.ofChange lookNotSpec)

/-- ITS FALSE NEIGHBOUR: 'it returns false'. Refute it at one input. -/
def lookNotWrong : ChangeSpec := { name := "lookNot", fn := fun _ => fun
  | [d] => { results := [.lit (.bool false)], args := [d] }
  | _ => none }
def LookNotWrongFalsely : Prop := lookNotRow.holds Try.pinned (OpenSpec.ofChange lookNotWrong)

/-- 'sibyllaw21.LookLengths': WHATEVER THE INPUT: true; the input reads as it did. -/
def lookLengthsSpec : ChangeSpec := { name := "lookLengths", fn := fun _ => fun
  | [d1, d2] => { results := [.lit (.bool true)], args := [d1, d2] }
  | _ => none }
def lookLengthsRow : OpenClaim := { program := "ytohhjdadhdibfaa", sum := "bd1eb943275f0252f0331badf5ee58db9d34061db0bb39b7791c5f914f5e7c2a", func := "sibyl/sibyllaw21.LookLengths", spec := "lookLengths", unfollowed := true, recurses := true, plainKeys := false, apart := false }
def LookLengthsSaid : Prop := lookLengthsRow.holds Try.pinned (OpenSpec.ofChange lookLengthsSpec)

/-- ITS FALSE NEIGHBOUR: 'it returns false'. Refute it at one input. -/
def lookLengthsWrong : ChangeSpec := { name := "lookLengths", fn := fun _ => fun
  | [d1, d2] => { results := [.lit (.bool false)], args := [d1, d2] }
  | _ => none }
def LookLengthsWrongFalsely : Prop := lookLengthsRow.holds Try.pinned (OpenSpec.ofChange lookLengthsWrong)

/-- 'sibyllaw21.LookNil': WHATEVER THE INPUT: true; the input reads as it did. -/
def lookNilSpec : ChangeSpec := { name := "lookNil", fn := fun _ => fun
  | [d] => { results := [.lit (.bool true)], args := [d] }
  | _ => none }
def lookNilRow : OpenClaim := { program := "ytohhjdadhdibfaa", sum := "bd1eb943275f0252f0331badf5ee58db9d34061db0bb39b7791c5f914f5e7c2a", func := "sibyl/sibyllaw21.LookNil", spec := "lookNil", unfollowed := true, recurses := true, plainKeys := false, apart := false }
def LookNilSaid : Prop := lookNilRow.holds Try.pinned (OpenSpec.ofChange lookNilSpec)

/-- ITS FALSE NEIGHBOUR: 'it returns false'. Refute it at one input. -/
def lookNilWrong : ChangeSpec := { name := "lookNil", fn := fun _ => fun
  | [d] => { results := [.lit (.bool false)], args := [d] }
  | _ => none }
def LookNilWrongFalsely : Prop := lookNilRow.holds Try.pinned (OpenSpec.ofChange lookNilWrong)

/- THE SECOND FORM. 'bulk': how many values and letters a reading holds, each counted each time it is reached (what is shared counts as often as it is met; a slice's spare places count too). A statement '..UptoSaid' is the law's where the arguments, and the package variables that the reading takes, are together of bulk at most 1048576: NARROWER than '..Said'. Prove '..Said' where nothing that the law and all that it calls make is longer than what came in: it says more and counts as full. Else prove '..UptoSaid'. A law counts once. -/
mutual
def uptoBulk {H : Type} : DataW H → Nat
  | .lit (.string bytes) => bytes.length + 1
  | .lit _ => 1
  | .nil => 1
  | .ptr d => uptoBulk d + 1
  | .slice elems spare => uptoBulkAll elems + uptoBulkAll spare + 1
  | .agg parts => uptoBulkAll parts + 1
  | .iface _ d => uptoBulk d + 1
  | .map entries => uptoBulkEntries entries + 1
  | .held _ => 1
def uptoBulkAll {H : Type} : List (DataW H) → Nat
  | [] => 0
  | d :: r => uptoBulk d + uptoBulkAll r
def uptoBulkEntries {H : Type} : List (Lit × DataW H) → Nat
  | [] => 0
  | x :: r => uptoBulkEntry x + uptoBulkEntries r
def uptoBulkEntry {H : Type} : Lit × DataW H → Nat
  | (.string bytes, d) => bytes.length + uptoBulk d + 1
  | (_, d) => uptoBulk d + 1
 end
def uptoSmall : (H : Type) → List (DataW H) → Bool := fun _ ds => decide (uptoBulkAll ds ≤ 1048576)
def OpenSpec.upto (s : _root_.Go.ChangeSpec) : _root_.Go.OpenSpec := { _root_.Go.OpenSpec.ofChange s with cond := some uptoSmall }

/-- 'sibyllaw20.ProdNot', WHERE WHAT IT READS IS OF BULK AT MOST 1048576: true; the input reads as it did. -/
def prodNotUptoRow : OpenClaim := { program := "ytohhjdadhdibfaa", sum := "bd1eb943275f0252f0331badf5ee58db9d34061db0bb39b7791c5f914f5e7c2a", func := "sibyl/sibyllaw20.ProdNot", spec := "prodNot", unfollowed := true, recurses := true, plainKeys := false, apart := false, narrowed := true }
def ProdNotUptoSaid : Prop := prodNotUptoRow.holds Try.pinned (OpenSpec.upto prodNotSpec)

/-- 'sibyllaw20.ProdNone', WHERE WHAT IT READS IS OF BULK AT MOST 1048576: true; the input reads as it did. -/
def prodNoneUptoRow : OpenClaim := { program := "ytohhjdadhdibfaa", sum := "bd1eb943275f0252f0331badf5ee58db9d34061db0bb39b7791c5f914f5e7c2a", func := "sibyl/sibyllaw20.ProdNone", spec := "prodNone", unfollowed := true, recurses := true, plainKeys := false, apart := false, narrowed := true }
def ProdNoneUptoSaid : Prop := prodNoneUptoRow.holds Try.pinned (OpenSpec.upto prodNoneSpec)

/-- 'sibyllaw20.ProdRules', WHERE WHAT IT READS IS OF BULK AT MOST 1048576: true; the input reads as it did. -/
def prodRulesUptoRow : OpenClaim := { program := "ytohhjdadhdibfaa", sum := "bd1eb943275f0252f0331badf5ee58db9d34061db0bb39b7791c5f914f5e7c2a", func := "sibyl/sibyllaw20.ProdRules", spec := "prodRules", unfollowed := true, recurses := true, plainKeys := false, apart := false, narrowed := true }
def ProdRulesUptoSaid : Prop := prodRulesUptoRow.holds Try.pinned (OpenSpec.upto prodRulesSpec)

/-- 'sibyllaw23.TrackNew', WHERE WHAT IT READS IS OF BULK AT MOST 1048576: true; the input reads as it did. -/
def trackNewUptoRow : OpenClaim := { program := "ytohhjdadhdibfaa", sum := "bd1eb943275f0252f0331badf5ee58db9d34061db0bb39b7791c5f914f5e7c2a", func := "sibyl/sibyllaw23.TrackNew", spec := "trackNew", unfollowed := true, recurses := true, plainKeys := false, apart := false, narrowed := true }
def TrackNewUptoSaid : Prop := trackNewUptoRow.holds Try.pinned (OpenSpec.upto trackNewSpec)

/-- 'sibyllaw20.ProdWords', WHERE WHAT IT READS IS OF BULK AT MOST 1048576: true; the input reads as it did. -/
def prodWordsUptoRow : OpenClaim := { program := "ytohhjdadhdibfaa", sum := "bd1eb943275f0252f0331badf5ee58db9d34061db0bb39b7791c5f914f5e7c2a", func := "sibyl/sibyllaw20.ProdWords", spec := "prodWords", unfollowed := true, recurses := true, plainKeys := false, apart := false, narrowed := true }
def ProdWordsUptoSaid : Prop := prodWordsUptoRow.holds Try.pinned (OpenSpec.upto prodWordsSpec)

/-- 'sibyllaw16.BddShared', WHERE WHAT IT READS IS OF BULK AT MOST 1048576: true; the input reads as it did. -/
def bddSharedUptoRow : OpenClaim := { program := "ytohhjdadhdibfaa", sum := "bd1eb943275f0252f0331badf5ee58db9d34061db0bb39b7791c5f914f5e7c2a", func := "sibyl/sibyllaw16.BddShared", spec := "bddShared", unfollowed := true, recurses := true, plainKeys := false, apart := false, narrowed := true }
def BddSharedUptoSaid : Prop := bddSharedUptoRow.holds Try.pinned (OpenSpec.upto bddSharedSpec)

/-- 'sibyllaw16.BddOfNothing', WHERE WHAT IT READS IS OF BULK AT MOST 1048576: true; the input reads as it did. -/
def bddOfNothingUptoRow : OpenClaim := { program := "ytohhjdadhdibfaa", sum := "bd1eb943275f0252f0331badf5ee58db9d34061db0bb39b7791c5f914f5e7c2a", func := "sibyl/sibyllaw16.BddOfNothing", spec := "bddOfNothing", unfollowed := true, recurses := true, plainKeys := false, apart := false, narrowed := true }
def BddOfNothingUptoSaid : Prop := bddOfNothingUptoRow.holds Try.pinned (OpenSpec.upto bddOfNothingSpec)

/-- 'sibyllaw21.LookLeast', WHERE WHAT IT READS IS OF BULK AT MOST 1048576: true; the input reads as it did. -/
def lookLeastUptoRow : OpenClaim := { program := "ytohhjdadhdibfaa", sum := "bd1eb943275f0252f0331badf5ee58db9d34061db0bb39b7791c5f914f5e7c2a", func := "sibyl/sibyllaw21.LookLeast", spec := "lookLeast", unfollowed := true, recurses := true, plainKeys := false, apart := false, narrowed := true }
def LookLeastUptoSaid : Prop := lookLeastUptoRow.holds Try.pinned (OpenSpec.upto lookLeastSpec)

/-- 'sibyllaw21.LookTells', WHERE WHAT IT READS IS OF BULK AT MOST 1048576: true; the input reads as it did. -/
def lookTellsUptoRow : OpenClaim := { program := "ytohhjdadhdibfaa", sum := "bd1eb943275f0252f0331badf5ee58db9d34061db0bb39b7791c5f914f5e7c2a", func := "sibyl/sibyllaw21.LookTells", spec := "lookTells", unfollowed := true, recurses := true, plainKeys := false, apart := false, narrowed := true }
def LookTellsUptoSaid : Prop := lookTellsUptoRow.holds Try.pinned (OpenSpec.upto lookTellsSpec)

/-- 'sibyllaw21.LookNot', WHERE WHAT IT READS IS OF BULK AT MOST 1048576: true; the input reads as it did. -/
def lookNotUptoRow : OpenClaim := { program := "ytohhjdadhdibfaa", sum := "bd1eb943275f0252f0331badf5ee58db9d34061db0bb39b7791c5f914f5e7c2a", func := "sibyl/sibyllaw21.LookNot", spec := "lookNot", unfollowed := true, recurses := true, plainKeys := false, apart := false, narrowed := true }
def LookNotUptoSaid : Prop := lookNotUptoRow.holds Try.pinned (OpenSpec.upto lookNotSpec)

/-- 'sibyllaw21.LookLengths', WHERE WHAT IT READS IS OF BULK AT MOST 1048576: true; the input reads as it did. -/
def lookLengthsUptoRow : OpenClaim := { program := "ytohhjdadhdibfaa", sum := "bd1eb943275f0252f0331badf5ee58db9d34061db0bb39b7791c5f914f5e7c2a", func := "sibyl/sibyllaw21.LookLengths", spec := "lookLengths", unfollowed := true, recurses := true, plainKeys := false, apart := false, narrowed := true }
def LookLengthsUptoSaid : Prop := lookLengthsUptoRow.holds Try.pinned (OpenSpec.upto lookLengthsSpec)

/-- 'sibyllaw21.LookNil', WHERE WHAT IT READS IS OF BULK AT MOST 1048576: true; the input reads as it did. -/
def lookNilUptoRow : OpenClaim := { program := "ytohhjdadhdibfaa", sum := "bd1eb943275f0252f0331badf5ee58db9d34061db0bb39b7791c5f914f5e7c2a", func := "sibyl/sibyllaw21.LookNil", spec := "lookNil", unfollowed := true, recurses := true, plainKeys := false, apart := false, narrowed := true }
def LookNilUptoSaid : Prop := lookNilUptoRow.holds Try.pinned (OpenSpec.upto lookNilSpec)

end Rows
end Go.Proofs.Ytohhjdadhdibfaa
