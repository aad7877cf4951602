/-
  No cell of these rows narrows 'for every input' (looked for: loops, veiled, ifaces, maps, wideKeys, modest, calm, conditions, laid).
  DERIVED. THE GIVEN ROWS OF THIS SEAT. 12 by the template 'for every input the law returns true; each argument reads behind the call as it read before'; 0 by the template 'total and deterministic' (their statements: YtgpbjjnfccalbaaTotals.lean).
  GIVEN WITH THE SEED: the statements are not yours to turn. If you find one false, say at which input.
  Laid BY PROGRAM, IN A SANDBOX (cutbox-rows.mjs): the forced cells as the released guide's own fill.sh prints them over the translation ac26d52ca9492464… (all of the seat's roots in one cut). By AI agents, Wed Nov 11 2026. No macro, syntax, notation, axiom, sorry.
-/
import Derived.Test.YtgpbjjnfccalbaaChecked
import GoSem.Claim
import GoSem.ClaimJoined
import GoSem.ClaimMapViews
import Derived.JoinedTies
import Derived.KernelRfl
namespace Go.Proofs.Ytgpbjjnfccalbaa
/- THE CELL 'sum', in the pinned program and in every row, IS THE sha256 OF THE DUMP (.gsa) THAT YtgpbjjnfccalbaaProg.lean LOADS. Nothing in Lean hashes anything: it is a label: what it is worth is what the hold of that sum in a sandbox is worth. -/
noncomputable def Try.pinned : Pinned := { name := "ytgpbjjnfccalbaa", sum := "ac26d52ca9492464806e3b9edc22cb7b45c3f855eaf0a5a098f6b7b60fec9ae3", checked := Try.checked }
namespace Rows
def none {H : Type} : Left H := { results := [], args := [] }

/-- 'sibyllaw19.AutoRuns': WHATEVER THE INPUT: true; the input reads as it did. -/
def autoRunsSpec : ChangeSpec := { name := "autoRuns", fn := fun _ => fun
  | [d1, d2] => { results := [.lit (.bool true)], args := [d1, d2] }
  | _ => none }
def autoRunsRow : OpenClaim := { program := "ytgpbjjnfccalbaa", sum := "ac26d52ca9492464806e3b9edc22cb7b45c3f855eaf0a5a098f6b7b60fec9ae3", func := "sibyl/sibyllaw19.AutoRuns", spec := "autoRuns", unfollowed := true, recurses := true, plainKeys := false, apart := false }
def AutoRunsSaid : Prop := autoRunsRow.holds Try.pinned (OpenSpec.ofChange autoRunsSpec)

/-- ITS FALSE NEIGHBOUR: 'it returns false'. Refute it at one input. -/
def autoRunsWrong : ChangeSpec := { name := "autoRuns", fn := fun _ => fun
  | [d1, d2] => { results := [.lit (.bool false)], args := [d1, d2] }
  | _ => none }
def AutoRunsWrongFalsely : Prop := autoRunsRow.holds Try.pinned (OpenSpec.ofChange autoRunsWrong)

/-- 'sibyllaw19.AutoShared': WHATEVER THE INPUT: true; the input reads as it did. -/
def autoSharedSpec : ChangeSpec := { name := "autoShared", fn := fun _ => fun
  | [d] => { results := [.lit (.bool true)], args := [d] }
  | _ => none }
def autoSharedRow : OpenClaim := { program := "ytgpbjjnfccalbaa", sum := "ac26d52ca9492464806e3b9edc22cb7b45c3f855eaf0a5a098f6b7b60fec9ae3", func := "sibyl/sibyllaw19.AutoShared", spec := "autoShared", unfollowed := true, recurses := true, plainKeys := false, apart := false }
def AutoSharedSaid : Prop := autoSharedRow.holds Try.pinned (OpenSpec.ofChange autoSharedSpec)

/-- ITS FALSE NEIGHBOUR: 'it returns false'. Refute it at one input. -/
def autoSharedWrong : ChangeSpec := { name := "autoShared", fn := fun _ => fun
  | [d] => { results := [.lit (.bool false)], args := [d] }
  | _ => none }
def AutoSharedWrongFalsely : Prop := autoSharedRow.holds Try.pinned (OpenSpec.ofChange autoSharedWrong)

/-- 'sibyllaw19.AutoSteps': WHATEVER THE INPUT: true; the input reads as it did. -/
def autoStepsSpec : ChangeSpec := { name := "autoSteps", fn := fun _ => fun
  | [d1, d2, d3] => { results := [.lit (.bool true)], args := [d1, d2, d3] }
  | _ => none }
def autoStepsRow : OpenClaim := { program := "ytgpbjjnfccalbaa", sum := "ac26d52ca9492464806e3b9edc22cb7b45c3f855eaf0a5a098f6b7b60fec9ae3", func := "sibyl/sibyllaw19.AutoSteps", spec := "autoSteps", unfollowed := true, recurses := true, plainKeys := false, apart := false }
def AutoStepsSaid : Prop := autoStepsRow.holds Try.pinned (OpenSpec.ofChange autoStepsSpec)

/-- ITS FALSE NEIGHBOUR: 'it returns false'. Refute it at one input. -/
def autoStepsWrong : ChangeSpec := { name := "autoSteps", fn := fun _ => fun
  | [d1, d2, d3] => { results := [.lit (.bool false)], args := [d1, d2, d3] }
  | _ => none }
def AutoStepsWrongFalsely : Prop := autoStepsRow.holds Try.pinned (OpenSpec.ofChange autoStepsWrong)

/-- 'sibyllaw17.PairBoth': WHATEVER THE INPUT: true; the input reads as it did. -/
def pairBothSpec : ChangeSpec := { name := "pairBoth", fn := fun _ => fun
  | [d1, d2, d3, d4] => { results := [.lit (.bool true)], args := [d1, d2, d3, d4] }
  | _ => none }
def pairBothRow : OpenClaim := { program := "ytgpbjjnfccalbaa", sum := "ac26d52ca9492464806e3b9edc22cb7b45c3f855eaf0a5a098f6b7b60fec9ae3", func := "sibyl/sibyllaw17.PairBoth", spec := "pairBoth", unfollowed := true, recurses := true, plainKeys := false, apart := false }
def PairBothSaid : Prop := pairBothRow.holds Try.pinned (OpenSpec.ofChange pairBothSpec)

/-- ITS FALSE NEIGHBOUR: 'it returns false'. Refute it at one input. -/
def pairBothWrong : ChangeSpec := { name := "pairBoth", fn := fun _ => fun
  | [d1, d2, d3, d4] => { results := [.lit (.bool false)], args := [d1, d2, d3, d4] }
  | _ => none }
def PairBothWrongFalsely : Prop := pairBothRow.holds Try.pinned (OpenSpec.ofChange pairBothWrong)

/-- 'sibyllaw17.PairTakes': WHATEVER THE INPUT: true; the input reads as it did. -/
def pairTakesSpec : ChangeSpec := { name := "pairTakes", fn := fun _ => fun
  | [d1, d2, d3] => { results := [.lit (.bool true)], args := [d1, d2, d3] }
  | _ => none }
def pairTakesRow : OpenClaim := { program := "ytgpbjjnfccalbaa", sum := "ac26d52ca9492464806e3b9edc22cb7b45c3f855eaf0a5a098f6b7b60fec9ae3", func := "sibyl/sibyllaw17.PairTakes", spec := "pairTakes", unfollowed := true, recurses := true, plainKeys := false, apart := false }
def PairTakesSaid : Prop := pairTakesRow.holds Try.pinned (OpenSpec.ofChange pairTakesSpec)

/-- ITS FALSE NEIGHBOUR: 'it returns false'. Refute it at one input. -/
def pairTakesWrong : ChangeSpec := { name := "pairTakes", fn := fun _ => fun
  | [d1, d2, d3] => { results := [.lit (.bool false)], args := [d1, d2, d3] }
  | _ => none }
def PairTakesWrongFalsely : Prop := pairTakesRow.holds Try.pinned (OpenSpec.ofChange pairTakesWrong)

/-- 'sibyllaw19.AutoIs': WHATEVER THE INPUT: true; the input reads as it did. -/
def autoIsSpec : ChangeSpec := { name := "autoIs", fn := fun _ => fun
  | [d] => { results := [.lit (.bool true)], args := [d] }
  | _ => none }
def autoIsRow : OpenClaim := { program := "ytgpbjjnfccalbaa", sum := "ac26d52ca9492464806e3b9edc22cb7b45c3f855eaf0a5a098f6b7b60fec9ae3", func := "sibyl/sibyllaw19.AutoIs", spec := "autoIs", unfollowed := true, recurses := true, plainKeys := false, apart := false }
def AutoIsSaid : Prop := autoIsRow.holds Try.pinned (OpenSpec.ofChange autoIsSpec)

/-- ITS FALSE NEIGHBOUR: 'it returns false'. Refute it at one input. -/
def autoIsWrong : ChangeSpec := { name := "autoIs", fn := fun _ => fun
  | [d] => { results := [.lit (.bool false)], args := [d] }
  | _ => none }
def AutoIsWrongFalsely : Prop := autoIsRow.holds Try.pinned (OpenSpec.ofChange autoIsWrong)

/-- 'sibyllaw19.AutoOwn': WHATEVER THE INPUT: true; the input reads as it did. -/
def autoOwnSpec : ChangeSpec := { name := "autoOwn", fn := fun _ => fun
  | [d] => { results := [.lit (.bool true)], args := [d] }
  | _ => none }
def autoOwnRow : OpenClaim := { program := "ytgpbjjnfccalbaa", sum := "ac26d52ca9492464806e3b9edc22cb7b45c3f855eaf0a5a098f6b7b60fec9ae3", func := "sibyl/sibyllaw19.AutoOwn", spec := "autoOwn", unfollowed := true, recurses := true, plainKeys := false, apart := false }
def AutoOwnSaid : Prop := autoOwnRow.holds Try.pinned (OpenSpec.ofChange autoOwnSpec)

/-- ITS FALSE NEIGHBOUR: 'it returns false'. Refute it at one input. -/
def autoOwnWrong : ChangeSpec := { name := "autoOwn", fn := fun _ => fun
  | [d] => { results := [.lit (.bool false)], args := [d] }
  | _ => none }
def AutoOwnWrongFalsely : Prop := autoOwnRow.holds Try.pinned (OpenSpec.ofChange autoOwnWrong)

/-- 'sibyllaw17.PairMap': WHATEVER THE INPUT: true; the input reads as it did. -/
def pairMapSpec : ChangeSpec := { name := "pairMap", fn := fun _ => fun
  | [d1, d2, d3] => { results := [.lit (.bool true)], args := [d1, d2, d3] }
  | _ => none }
def pairMapRow : OpenClaim := { program := "ytgpbjjnfccalbaa", sum := "ac26d52ca9492464806e3b9edc22cb7b45c3f855eaf0a5a098f6b7b60fec9ae3", func := "sibyl/sibyllaw17.PairMap", spec := "pairMap", unfollowed := true, recurses := true, plainKeys := false, apart := false }
def PairMapSaid : Prop := pairMapRow.holds Try.pinned (OpenSpec.ofChange pairMapSpec)

/-- ITS FALSE NEIGHBOUR: 'it returns false'. Refute it at one input. -/
def pairMapWrong : ChangeSpec := { name := "pairMap", fn := fun _ => fun
  | [d1, d2, d3] => { results := [.lit (.bool false)], args := [d1, d2, d3] }
  | _ => none }
def PairMapWrongFalsely : Prop := pairMapRow.holds Try.pinned (OpenSpec.ofChange pairMapWrong)

/-- 'sibyllaw18.CutFixes': WHATEVER THE INPUT: true; the input reads as it did. -/
def cutFixesSpec : ChangeSpec := { name := "cutFixes", fn := fun _ => fun
  | [d1, d2, d3, d4, d5] => { results := [.lit (.bool true)], args := [d1, d2, d3, d4, d5] }
  | _ => none }
def cutFixesRow : OpenClaim := { program := "ytgpbjjnfccalbaa", sum := "ac26d52ca9492464806e3b9edc22cb7b45c3f855eaf0a5a098f6b7b60fec9ae3", func := "sibyl/sibyllaw18.CutFixes", spec := "cutFixes", unfollowed := true, recurses := true, plainKeys := false, apart := false }
def CutFixesSaid : Prop := cutFixesRow.holds Try.pinned (OpenSpec.ofChange cutFixesSpec)

/-- ITS FALSE NEIGHBOUR: 'it returns false'. Refute it at one input. -/
def cutFixesWrong : ChangeSpec := { name := "cutFixes", fn := fun _ => fun
  | [d1, d2, d3, d4, d5] => { results := [.lit (.bool false)], args := [d1, d2, d3, d4, d5] }
  | _ => none }
def CutFixesWrongFalsely : Prop := cutFixesRow.holds Try.pinned (OpenSpec.ofChange cutFixesWrong)

/-- 'sibyllaw23.TrackTurns': WHATEVER THE INPUT: true; the input reads as it did. -/
def trackTurnsSpec : ChangeSpec := { name := "trackTurns", fn := fun _ => fun
  | [d1, d2] => { results := [.lit (.bool true)], args := [d1, d2] }
  | _ => none }
def trackTurnsRow : OpenClaim := { program := "ytgpbjjnfccalbaa", sum := "ac26d52ca9492464806e3b9edc22cb7b45c3f855eaf0a5a098f6b7b60fec9ae3", func := "sibyl/sibyllaw23.TrackTurns", spec := "trackTurns", unfollowed := true, recurses := true, plainKeys := false, apart := false }
def TrackTurnsSaid : Prop := trackTurnsRow.holds Try.pinned (OpenSpec.ofChange trackTurnsSpec)

/-- ITS FALSE NEIGHBOUR: 'it returns false'. Refute it at one input. -/
def trackTurnsWrong : ChangeSpec := { name := "trackTurns", fn := fun _ => fun
  | [d1, d2] => { results := [.lit (.bool false)], args := [d1, d2] }
  | _ => none }
def TrackTurnsWrongFalsely : Prop := trackTurnsRow.holds Try.pinned (OpenSpec.ofChange trackTurnsWrong)

/-- 'sibyllaw23.TrackBack': WHATEVER THE INPUT: true; the input reads as it did. -/
def trackBackSpec : ChangeSpec := { name := "trackBack", fn := fun _ => fun
  | [d1, d2] => { results := [.lit (.bool true)], args := [d1, d2] }
  | _ => none }
def trackBackRow : OpenClaim := { program := "ytgpbjjnfccalbaa", sum := "ac26d52ca9492464806e3b9edc22cb7b45c3f855eaf0a5a098f6b7b60fec9ae3", func := "sibyl/sibyllaw23.TrackBack", spec := "trackBack", unfollowed := true, recurses := true, plainKeys := false, apart := false }
def TrackBackSaid : Prop := trackBackRow.holds Try.pinned (OpenSpec.ofChange trackBackSpec)

/-- ITS FALSE NEIGHBOUR: 'it returns false'. Refute it at one input. -/
def trackBackWrong : ChangeSpec := { name := "trackBack", fn := fun _ => fun
  | [d1, d2] => { results := [.lit (.bool false)], args := [d1, d2] }
  | _ => none }
def TrackBackWrongFalsely : Prop := trackBackRow.holds Try.pinned (OpenSpec.ofChange trackBackWrong)

/-- 'sibyllaw23.TrackWidens': WHATEVER THE INPUT: true; the input reads as it did. -/
def trackWidensSpec : ChangeSpec := { name := "trackWidens", fn := fun _ => fun
  | [d1, d2] => { results := [.lit (.bool true)], args := [d1, d2] }
  | _ => none }
def trackWidensRow : OpenClaim := { program := "ytgpbjjnfccalbaa", sum := "ac26d52ca9492464806e3b9edc22cb7b45c3f855eaf0a5a098f6b7b60fec9ae3", func := "sibyl/sibyllaw23.TrackWidens", spec := "trackWidens", unfollowed := true, recurses := true, plainKeys := false, apart := false }
def TrackWidensSaid : Prop := trackWidensRow.holds Try.pinned (OpenSpec.ofChange trackWidensSpec)

/-- ITS FALSE NEIGHBOUR: 'it returns false'. Refute it at one input. -/
def trackWidensWrong : ChangeSpec := { name := "trackWidens", fn := fun _ => fun
  | [d1, d2] => { results := [.lit (.bool false)], args := [d1, d2] }
  | _ => none }
def TrackWidensWrongFalsely : Prop := trackWidensRow.holds Try.pinned (OpenSpec.ofChange trackWidensWrong)

/- THE SECOND FORM. 'bulk': how many values and letters a reading holds, each counted each time it is reached (what is shared counts as often as it is met; a slice's spare places count too). A statement '..UptoSaid' is the law's where the arguments, and the package variables that the reading takes, are together of bulk at most 1048576: NARROWER than '..Said'. Prove '..Said' where nothing that the law and all that it calls make is longer than what came in: it says more and counts as full. Else prove '..UptoSaid'. A law counts once. -/
mutual
def uptoBulk {H : Type} : DataW H → Nat
  | .lit (.string bytes) => bytes.length + 1
  | .lit _ => 1
  | .nil => 1
  | .ptr d => uptoBulk d + 1
  | .slice elems spare => uptoBulkAll elems + uptoBulkAll spare + 1
  | .agg parts => uptoBulkAll parts + 1
  | .iface _ d => uptoBulk d + 1
  | .map entries => uptoBulkEntries entries + 1
  | .held _ => 1
def uptoBulkAll {H : Type} : List (DataW H) → Nat
  | [] => 0
  | d :: r => uptoBulk d + uptoBulkAll r
def uptoBulkEntries {H : Type} : List (Lit × DataW H) → Nat
  | [] => 0
  | x :: r => uptoBulkEntry x + uptoBulkEntries r
def uptoBulkEntry {H : Type} : Lit × DataW H → Nat
  | (.string bytes, d) => bytes.length + uptoBulk d + 1
  | (_, d) => uptoBulk d + 1
 end
def uptoSmall : (H : Type) → List (DataW H) → Bool := fun _ ds => decide (uptoBulkAll ds ≤ 1048576)
def OpenSpec.upto (s : _root_.Go.ChangeSpec) : _root_.Go.OpenSpec := { _root_.Go.OpenSpec.ofChange s with cond := some uptoSmall }

/-- 'sibyllaw19.AutoRuns', WHERE WHAT IT READS IS OF BULK AT MOST 1048576: true; the input reads as it did. -/
def autoRunsUptoRow : OpenClaim := { program := "ytgpbjjnfccalbaa", sum := "ac26d52ca9492464806e3b9edc22cb7b45c3f855eaf0a5a098f6b7b60fec9ae3", func := "sibyl/sibyllaw19.AutoRuns", spec := "autoRuns", unfollowed := true, recurses := true, plainKeys := false, apart := false, narrowed := true }
def AutoRunsUptoSaid : Prop := autoRunsUptoRow.holds Try.pinned (OpenSpec.upto autoRunsSpec)

/-- 'sibyllaw19.AutoShared', WHERE WHAT IT READS IS OF BULK AT MOST 1048576: true; the input reads as it did. -/
def autoSharedUptoRow : OpenClaim := { program := "ytgpbjjnfccalbaa", sum := "ac26d52ca9492464806e3b9edc22cb7b45c3f855eaf0a5a098f6b7b60fec9ae3", func := "sibyl/sibyllaw19.AutoShared", spec := "autoShared", unfollowed := true, recurses := true, plainKeys := false, apart := false, narrowed := true }
def AutoSharedUptoSaid : Prop := autoSharedUptoRow.holds Try.pinned (OpenSpec.upto autoSharedSpec)

/-- 'sibyllaw19.AutoSteps', WHERE WHAT IT READS IS OF BULK AT MOST 1048576: true; the input reads as it did. -/
def autoStepsUptoRow : OpenClaim := { program := "ytgpbjjnfccalbaa", sum := "ac26d52ca9492464806e3b9edc22cb7b45c3f855eaf0a5a098f6b7b60fec9ae3", func := "sibyl/sibyllaw19.AutoSteps", spec := "autoSteps", unfollowed := true, recurses := true, plainKeys := false, apart := false, narrowed := true }
def AutoStepsUptoSaid : Prop := autoStepsUptoRow.holds Try.pinned (OpenSpec.upto autoStepsSpec)

/-- 'sibyllaw17.PairBoth', WHERE WHAT IT READS IS OF BULK AT MOST 1048576: true; the input reads as it did. -/
def pairBothUptoRow : OpenClaim := { program := "ytgpbjjnfccalbaa", sum := "ac26d52ca9492464806e3b9edc22cb7b45c3f855eaf0a5a098f6b7b60fec9ae3", func := "sibyl/sibyllaw17.PairBoth", spec := "pairBoth", unfollowed := true, recurses := true, plainKeys := false, apart := false, narrowed := true }
def PairBothUptoSaid : Prop := pairBothUptoRow.holds Try.pinned (OpenSpec.upto pairBothSpec)

/-- 'sibyllaw17.PairTakes', WHERE WHAT IT READS IS OF BULK AT MOST 1048576: true; the input reads as it did. -/
def pairTakesUptoRow : OpenClaim := { program := "ytgpbjjnfccalbaa", sum := "ac26d52ca9492464806e3b9edc22cb7b45c3f855eaf0a5a098f6b7b60fec9ae3", func := "sibyl/sibyllaw17.PairTakes", spec := "pairTakes", unfollowed := true, recurses := true, plainKeys := false, apart := false, narrowed := true }
def PairTakesUptoSaid : Prop := pairTakesUptoRow.holds Try.pinned (OpenSpec.upto pairTakesSpec)

/-- 'sibyllaw19.AutoIs', WHERE WHAT IT READS IS OF BULK AT MOST 1048576: true; the input reads as it did. -/
def autoIsUptoRow : OpenClaim := { program := "ytgpbjjnfccalbaa", sum := "ac26d52ca9492464806e3b9edc22cb7b45c3f855eaf0a5a098f6b7b60fec9ae3", func := "sibyl/sibyllaw19.AutoIs", spec := "autoIs", unfollowed := true, recurses := true, plainKeys := false, apart := false, narrowed := true }
def AutoIsUptoSaid : Prop := autoIsUptoRow.holds Try.pinned (OpenSpec.upto autoIsSpec)

/-- 'sibyllaw19.AutoOwn', WHERE WHAT IT READS IS OF BULK AT MOST 1048576: true; the input reads as it did. -/
def autoOwnUptoRow : OpenClaim := { program := "ytgpbjjnfccalbaa", sum := "ac26d52ca9492464806e3b9edc22cb7b45c3f855eaf0a5a098f6b7b60fec9ae3", func := "sibyl/sibyllaw19.AutoOwn", spec := "autoOwn", unfollowed := true, recurses := true, plainKeys := false, apart := false, narrowed := true }
def AutoOwnUptoSaid : Prop := autoOwnUptoRow.holds Try.pinned (OpenSpec.upto autoOwnSpec)

/-- 'sibyllaw17.PairMap', WHERE WHAT IT READS IS OF BULK AT MOST 1048576: true; the input reads as it did. -/
def pairMapUptoRow : OpenClaim := { program := "ytgpbjjnfccalbaa", sum := "ac26d52ca9492464806e3b9edc22cb7b45c3f855eaf0a5a098f6b7b60fec9ae3", func := "sibyl/sibyllaw17.PairMap", spec := "pairMap", unfollowed := true, recurses := true, plainKeys := false, apart := false, narrowed := true }
def PairMapUptoSaid : Prop := pairMapUptoRow.holds Try.pinned (OpenSpec.upto pairMapSpec)

/-- 'sibyllaw18.CutFixes', WHERE WHAT IT READS IS OF BULK AT MOST 1048576: true; the input reads as it did. -/
def cutFixesUptoRow : OpenClaim := { program := "ytgpbjjnfccalbaa", sum := "ac26d52ca9492464806e3b9edc22cb7b45c3f855eaf0a5a098f6b7b60fec9ae3", func := "sibyl/sibyllaw18.CutFixes", spec := "cutFixes", unfollowed := true, recurses := true, plainKeys := false, apart := false, narrowed := true }
def CutFixesUptoSaid : Prop := cutFixesUptoRow.holds Try.pinned (OpenSpec.upto cutFixesSpec)

/-- 'sibyllaw23.TrackTurns', WHERE WHAT IT READS IS OF BULK AT MOST 1048576: true; the input reads as it did. -/
def trackTurnsUptoRow : OpenClaim := { program := "ytgpbjjnfccalbaa", sum := "ac26d52ca9492464806e3b9edc22cb7b45c3f855eaf0a5a098f6b7b60fec9ae3", func := "sibyl/sibyllaw23.TrackTurns", spec := "trackTurns", unfollowed := true, recurses := true, plainKeys := false, apart := false, narrowed := true }
def TrackTurnsUptoSaid : Prop := trackTurnsUptoRow.holds Try.pinned (OpenSpec.upto trackTurnsSpec)

/-- 'sibyllaw23.TrackBack', WHERE WHAT IT READS IS OF BULK AT MOST 1048576: true; the input reads as it did. -/
def trackBackUptoRow : OpenClaim := { program := "ytgpbjjnfccalbaa", sum := "ac26d52ca9492464806e3b9edc22cb7b45c3f855eaf0a5a098f6b7b60fec9ae3", func := "sibyl/sibyllaw23.TrackBack", spec := "trackBack", unfollowed := true, recurses := true, plainKeys := false, apart := false, narrowed := true }
def TrackBackUptoSaid : Prop := trackBackUptoRow.holds Try.pinned (OpenSpec.upto trackBackSpec)

/-- 'sibyllaw23.TrackWidens', WHERE WHAT IT READS IS OF BULK AT MOST 1048576: true; the input reads as it did. -/
def trackWidensUptoRow : OpenClaim := { program := "ytgpbjjnfccalbaa", sum := "ac26d52ca9492464806e3b9edc22cb7b45c3f855eaf0a5a098f6b7b60fec9ae3", func := "sibyl/sibyllaw23.TrackWidens", spec := "trackWidens", unfollowed := true, recurses := true, plainKeys := false, apart := false, narrowed := true }
def TrackWidensUptoSaid : Prop := trackWidensUptoRow.holds Try.pinned (OpenSpec.upto trackWidensSpec)

end Rows
end Go.Proofs.Ytgpbjjnfccalbaa
