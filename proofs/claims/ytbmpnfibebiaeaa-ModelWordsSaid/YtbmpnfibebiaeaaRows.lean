/-
  No cell of these rows narrows 'for every input' (looked for: loops, veiled, ifaces, maps, wideKeys, modest, calm, conditions, laid).
  DERIVED. THE GIVEN ROWS OF THIS SEAT. 4 by the template 'for every input the law returns true; each argument reads behind the call as it read before'; 0 by the template 'total and deterministic' (their statements: YtbmpnfibebiaeaaTotals.lean).
  GIVEN WITH THE SEED: the statements are not yours to turn. If you find one false, say at which input.
  Laid BY PROGRAM, IN A SANDBOX (cutbox-rows.mjs): the forced cells as the released guide's own fill.sh prints them over the translation 2ddd5b40143d1194… (all of the seat's roots in one cut). By AI agents, Wed Nov 11 2026. No macro, syntax, notation, axiom, sorry.
-/
import Derived.Test.YtbmpnfibebiaeaaChecked
import GoSem.Claim
import GoSem.ClaimJoined
import GoSem.ClaimMapViews
import Derived.JoinedTies
import Derived.KernelRfl
namespace Go.Proofs.Ytbmpnfibebiaeaa
/- THE CELL 'sum', in the pinned program and in every row, IS THE sha256 OF THE DUMP (.gsa) THAT YtbmpnfibebiaeaaProg.lean LOADS. Nothing in Lean hashes anything: it is a label: what it is worth is what the hold of that sum in a sandbox is worth. -/
noncomputable def Try.pinned : Pinned := { name := "ytbmpnfibebiaeaa", sum := "2ddd5b40143d11949395383620048b25756ff0d521a3cb40ced3a43b421af05c", checked := Try.checked }
namespace Rows
def none {H : Type} : Left H := { results := [], args := [] }

/-- 'sibyllaw27.ModelOf': WHATEVER THE INPUT: true; the input reads as it did. -/
def modelOfSpec : ChangeSpec := { name := "modelOf", fn := fun _ => fun
  | [d1, d2] => { results := [.lit (.bool true)], args := [d1, d2] }
  | _ => none }
def modelOfRow : OpenClaim := { program := "ytbmpnfibebiaeaa", sum := "2ddd5b40143d11949395383620048b25756ff0d521a3cb40ced3a43b421af05c", func := "sibyl/sibyllaw27.ModelOf", spec := "modelOf", unfollowed := true, recurses := true, apart := false }
def ModelOfSaid : Prop := modelOfRow.holds Try.pinned (OpenSpec.ofChange modelOfSpec)

/-- ITS FALSE NEIGHBOUR: 'it returns false'. Refute it at one input. -/
def modelOfWrong : ChangeSpec := { name := "modelOf", fn := fun _ => fun
  | [d1, d2] => { results := [.lit (.bool false)], args := [d1, d2] }
  | _ => none }
def ModelOfWrongFalsely : Prop := modelOfRow.holds Try.pinned (OpenSpec.ofChange modelOfWrong)

/-- 'sibyllaw27.ModelSame': WHATEVER THE INPUT: true; the input reads as it did. -/
def modelSameSpec : ChangeSpec := { name := "modelSame", fn := fun _ => fun
  | [d1, d2] => { results := [.lit (.bool true)], args := [d1, d2] }
  | _ => none }
def modelSameRow : OpenClaim := { program := "ytbmpnfibebiaeaa", sum := "2ddd5b40143d11949395383620048b25756ff0d521a3cb40ced3a43b421af05c", func := "sibyl/sibyllaw27.ModelSame", spec := "modelSame", unfollowed := true, recurses := true, apart := false }
def ModelSameSaid : Prop := modelSameRow.holds Try.pinned (OpenSpec.ofChange modelSameSpec)

/-- ITS FALSE NEIGHBOUR: 'it returns false'. Refute it at one input. -/
def modelSameWrong : ChangeSpec := { name := "modelSame", fn := fun _ => fun
  | [d1, d2] => { results := [.lit (.bool false)], args := [d1, d2] }
  | _ => none }
def ModelSameWrongFalsely : Prop := modelSameRow.holds Try.pinned (OpenSpec.ofChange modelSameWrong)

/-- 'sibyllaw27.ModelWord': WHATEVER THE INPUT: true; the input reads as it did. -/
def modelWordSpec : ChangeSpec := { name := "modelWord", fn := fun _ => fun
  | [d1, d2] => { results := [.lit (.bool true)], args := [d1, d2] }
  | _ => none }
def modelWordRow : OpenClaim := { program := "ytbmpnfibebiaeaa", sum := "2ddd5b40143d11949395383620048b25756ff0d521a3cb40ced3a43b421af05c", func := "sibyl/sibyllaw27.ModelWord", spec := "modelWord", unfollowed := true, recurses := true, apart := false }
def ModelWordSaid : Prop := modelWordRow.holds Try.pinned (OpenSpec.ofChange modelWordSpec)

/-- ITS FALSE NEIGHBOUR: 'it returns false'. Refute it at one input. -/
def modelWordWrong : ChangeSpec := { name := "modelWord", fn := fun _ => fun
  | [d1, d2] => { results := [.lit (.bool false)], args := [d1, d2] }
  | _ => none }
def ModelWordWrongFalsely : Prop := modelWordRow.holds Try.pinned (OpenSpec.ofChange modelWordWrong)

/-- 'sibyllaw27.ModelWords': WHATEVER THE INPUT: true; the input reads as it did. -/
def modelWordsSpec : ChangeSpec := { name := "modelWords", fn := fun _ => fun
  | [d] => { results := [.lit (.bool true)], args := [d] }
  | _ => none }
def modelWordsRow : OpenClaim := { program := "ytbmpnfibebiaeaa", sum := "2ddd5b40143d11949395383620048b25756ff0d521a3cb40ced3a43b421af05c", func := "sibyl/sibyllaw27.ModelWords", spec := "modelWords", unfollowed := true, recurses := true, apart := false }
def ModelWordsSaid : Prop := modelWordsRow.holds Try.pinned (OpenSpec.ofChange modelWordsSpec)

/-- ITS FALSE NEIGHBOUR: 'it returns false'. Refute it at one input. -/
def modelWordsWrong : ChangeSpec := { name := "modelWords", fn := fun _ => fun
  | [d] => { results := [.lit (.bool false)], args := [d] }
  | _ => none }
def ModelWordsWrongFalsely : Prop := modelWordsRow.holds Try.pinned (OpenSpec.ofChange modelWordsWrong)

/- THE SECOND FORM. 'bulk': how many values and letters a reading holds, each counted each time it is reached (what is shared counts as often as it is met; a slice's spare places count too). A statement '..UptoSaid' is the law's where the arguments, and the package variables that the reading takes, are together of bulk at most 1048576: NARROWER than '..Said'. Prove '..Said' where nothing that the law and all that it calls make is longer than what came in: it says more and counts as full. Else prove '..UptoSaid'. A law counts once. -/
mutual
def uptoBulk {H : Type} : DataW H → Nat
  | .lit (.string bytes) => bytes.length + 1
  | .lit _ => 1
  | .nil => 1
  | .ptr d => uptoBulk d + 1
  | .slice elems spare => uptoBulkAll elems + uptoBulkAll spare + 1
  | .agg parts => uptoBulkAll parts + 1
  | .iface _ d => uptoBulk d + 1
  | .map entries => uptoBulkEntries entries + 1
  | .held _ => 1
def uptoBulkAll {H : Type} : List (DataW H) → Nat
  | [] => 0
  | d :: r => uptoBulk d + uptoBulkAll r
def uptoBulkEntries {H : Type} : List (Lit × DataW H) → Nat
  | [] => 0
  | x :: r => uptoBulkEntry x + uptoBulkEntries r
def uptoBulkEntry {H : Type} : Lit × DataW H → Nat
  | (.string bytes, d) => bytes.length + uptoBulk d + 1
  | (_, d) => uptoBulk d + 1
 end
def uptoSmall : (H : Type) → List (DataW H) → Bool := fun _ ds => decide (uptoBulkAll ds ≤ 1048576)
def OpenSpec.upto (s : _root_.Go.ChangeSpec) : _root_.Go.OpenSpec := { _root_.Go.OpenSpec.ofChange s with cond := some uptoSmall }

/-- 'sibyllaw27.ModelOf', WHERE WHAT IT READS IS OF BULK AT MOST 1048576: true; the input reads as it did. -/
def modelOfUptoRow : OpenClaim := { program := "ytbmpnfibebiaeaa", sum := "2ddd5b40143d11949395383620048b25756ff0d521a3cb40ced3a43b421af05c", func := "sibyl/sibyllaw27.ModelOf", spec := "modelOf", unfollowed := true, recurses := true, apart := false, narrowed := true }
def ModelOfUptoSaid : Prop := modelOfUptoRow.holds Try.pinned (OpenSpec.upto modelOfSpec)

/-- 'sibyllaw27.ModelSame', WHERE WHAT IT READS IS OF BULK AT MOST 1048576: true; the input reads as it did. -/
def modelSameUptoRow : OpenClaim := { program := "ytbmpnfibebiaeaa", sum := "2ddd5b40143d11949395383620048b25756ff0d521a3cb40ced3a43b421af05c", func := "sibyl/sibyllaw27.ModelSame", spec := "modelSame", unfollowed := true, recurses := true, apart := false, narrowed := true }
def ModelSameUptoSaid : Prop := modelSameUptoRow.holds Try.pinned (OpenSpec.upto modelSameSpec)

/-- 'sibyllaw27.ModelWord', WHERE WHAT IT READS IS OF BULK AT MOST 1048576: true; the input reads as it did. -/
def modelWordUptoRow : OpenClaim := { program := "ytbmpnfibebiaeaa", sum := "2ddd5b40143d11949395383620048b25756ff0d521a3cb40ced3a43b421af05c", func := "sibyl/sibyllaw27.ModelWord", spec := "modelWord", unfollowed := true, recurses := true, apart := false, narrowed := true }
def ModelWordUptoSaid : Prop := modelWordUptoRow.holds Try.pinned (OpenSpec.upto modelWordSpec)

/-- 'sibyllaw27.ModelWords', WHERE WHAT IT READS IS OF BULK AT MOST 1048576: true; the input reads as it did. -/
def modelWordsUptoRow : OpenClaim := { program := "ytbmpnfibebiaeaa", sum := "2ddd5b40143d11949395383620048b25756ff0d521a3cb40ced3a43b421af05c", func := "sibyl/sibyllaw27.ModelWords", spec := "modelWords", unfollowed := true, recurses := true, apart := false, narrowed := true }
def ModelWordsUptoSaid : Prop := modelWordsUptoRow.holds Try.pinned (OpenSpec.upto modelWordsSpec)

end Rows
end Go.Proofs.Ytbmpnfibebiaeaa
