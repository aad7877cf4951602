/-
  NARROWER THAN 'FOR EVERY INPUT', by the rows' own cells (each row's printed sentence says how): AtomOf: loops · AtomHolds: loops · AtomEnds: loops · AtomMore: loops.
  DERIVED. THE GIVEN ROWS OF THIS SEAT. 5 by the template 'for every input the law returns true; each argument reads behind the call as it read before'; 0 by the template 'total and deterministic' (their statements: YtgpgbkoaopfjkaaTotals.lean).
  GIVEN WITH THE SEED: the statements are not yours to turn. If you find one false, say at which input.
  Laid BY PROGRAM, IN A SANDBOX (cutbox-rows.mjs): the forced cells as the released guide's own fill.sh prints them over the translation 9dd82076e9b26c47… (all of the seat's roots in one cut). By AI agents, Wed Nov 11 2026. No macro, syntax, notation, axiom, sorry.
-/
import Derived.Test.YtgpgbkoaopfjkaaChecked
import GoSem.Claim
import GoSem.ClaimJoined
import GoSem.ClaimMapViews
import Derived.JoinedTies
import Derived.KernelRfl
namespace Go.Proofs.Ytgpgbkoaopfjkaa
/- THE CELL 'sum', in the pinned program and in every row, IS THE sha256 OF THE DUMP (.gsa) THAT YtgpgbkoaopfjkaaProg.lean LOADS. Nothing in Lean hashes anything: it is a label: what it is worth is what the hold of that sum in a sandbox is worth. -/
noncomputable def Try.pinned : Pinned := { name := "ytgpgbkoaopfjkaa", sum := "9dd82076e9b26c4723fff17462a294f9fecdb48de61a4b38480192b3b4366dee", checked := Try.checked }
namespace Rows
def none {H : Type} : Left H := { results := [], args := [] }

/-- 'sibyllaw25.AtomOf': WHATEVER THE INPUT: true; the input reads as it did. -/
def atomOfSpec : ChangeSpec := { name := "atomOf", fn := fun _ => fun
  | [d1, d2] => { results := [.lit (.bool true)], args := [d1, d2] }
  | _ => none }
def atomOfRow : OpenClaim := { program := "ytgpgbkoaopfjkaa", sum := "9dd82076e9b26c4723fff17462a294f9fecdb48de61a4b38480192b3b4366dee", func := "sibyl/sibyllaw25.AtomOf", spec := "atomOf", unfollowed := true, recurses := true, loops := true, plainKeys := false, apart := false }
def AtomOfSaid : Prop := atomOfRow.holds Try.pinned (OpenSpec.ofChange atomOfSpec)

/-- ITS FALSE NEIGHBOUR: 'it returns false'. Refute it at one input. -/
def atomOfWrong : ChangeSpec := { name := "atomOf", fn := fun _ => fun
  | [d1, d2] => { results := [.lit (.bool false)], args := [d1, d2] }
  | _ => none }
def AtomOfWrongFalsely : Prop := atomOfRow.holds Try.pinned (OpenSpec.ofChange atomOfWrong)

/-- 'sibyllaw25.AtomStates': WHATEVER THE INPUT: true; the input reads as it did. -/
def atomStatesSpec : ChangeSpec := { name := "atomStates", fn := fun _ => fun
  | [d] => { results := [.lit (.bool true)], args := [d] }
  | _ => none }
def atomStatesRow : OpenClaim := { program := "ytgpgbkoaopfjkaa", sum := "9dd82076e9b26c4723fff17462a294f9fecdb48de61a4b38480192b3b4366dee", func := "sibyl/sibyllaw25.AtomStates", spec := "atomStates", unfollowed := true, recurses := true, plainKeys := false, apart := false }
def AtomStatesSaid : Prop := atomStatesRow.holds Try.pinned (OpenSpec.ofChange atomStatesSpec)

/-- ITS FALSE NEIGHBOUR: 'it returns false'. Refute it at one input. -/
def atomStatesWrong : ChangeSpec := { name := "atomStates", fn := fun _ => fun
  | [d] => { results := [.lit (.bool false)], args := [d] }
  | _ => none }
def AtomStatesWrongFalsely : Prop := atomStatesRow.holds Try.pinned (OpenSpec.ofChange atomStatesWrong)

/-- 'sibyllaw25.AtomHolds': WHATEVER THE INPUT: true; the input reads as it did. -/
def atomHoldsSpec : ChangeSpec := { name := "atomHolds", fn := fun _ => fun
  | [d1, d2, d3] => { results := [.lit (.bool true)], args := [d1, d2, d3] }
  | _ => none }
def atomHoldsRow : OpenClaim := { program := "ytgpgbkoaopfjkaa", sum := "9dd82076e9b26c4723fff17462a294f9fecdb48de61a4b38480192b3b4366dee", func := "sibyl/sibyllaw25.AtomHolds", spec := "atomHolds", unfollowed := true, recurses := true, loops := true, plainKeys := false, apart := false }
def AtomHoldsSaid : Prop := atomHoldsRow.holds Try.pinned (OpenSpec.ofChange atomHoldsSpec)

/-- ITS FALSE NEIGHBOUR: 'it returns false'. Refute it at one input. -/
def atomHoldsWrong : ChangeSpec := { name := "atomHolds", fn := fun _ => fun
  | [d1, d2, d3] => { results := [.lit (.bool false)], args := [d1, d2, d3] }
  | _ => none }
def AtomHoldsWrongFalsely : Prop := atomHoldsRow.holds Try.pinned (OpenSpec.ofChange atomHoldsWrong)

/-- 'sibyllaw25.AtomEnds': WHATEVER THE INPUT: true; the input reads as it did. -/
def atomEndsSpec : ChangeSpec := { name := "atomEnds", fn := fun _ => fun
  | [d1, d2, d3] => { results := [.lit (.bool true)], args := [d1, d2, d3] }
  | _ => none }
def atomEndsRow : OpenClaim := { program := "ytgpgbkoaopfjkaa", sum := "9dd82076e9b26c4723fff17462a294f9fecdb48de61a4b38480192b3b4366dee", func := "sibyl/sibyllaw25.AtomEnds", spec := "atomEnds", unfollowed := true, recurses := true, loops := true, plainKeys := false, apart := false }
def AtomEndsSaid : Prop := atomEndsRow.holds Try.pinned (OpenSpec.ofChange atomEndsSpec)

/-- ITS FALSE NEIGHBOUR: 'it returns false'. Refute it at one input. -/
def atomEndsWrong : ChangeSpec := { name := "atomEnds", fn := fun _ => fun
  | [d1, d2, d3] => { results := [.lit (.bool false)], args := [d1, d2, d3] }
  | _ => none }
def AtomEndsWrongFalsely : Prop := atomEndsRow.holds Try.pinned (OpenSpec.ofChange atomEndsWrong)

/-- 'sibyllaw25.AtomMore': WHATEVER THE INPUT: true; the input reads as it did. -/
def atomMoreSpec : ChangeSpec := { name := "atomMore", fn := fun _ => fun
  | [d1, d2, d3, d4] => { results := [.lit (.bool true)], args := [d1, d2, d3, d4] }
  | _ => none }
def atomMoreRow : OpenClaim := { program := "ytgpgbkoaopfjkaa", sum := "9dd82076e9b26c4723fff17462a294f9fecdb48de61a4b38480192b3b4366dee", func := "sibyl/sibyllaw25.AtomMore", spec := "atomMore", unfollowed := true, recurses := true, loops := true, plainKeys := false, apart := false }
def AtomMoreSaid : Prop := atomMoreRow.holds Try.pinned (OpenSpec.ofChange atomMoreSpec)

/-- ITS FALSE NEIGHBOUR: 'it returns false'. Refute it at one input. -/
def atomMoreWrong : ChangeSpec := { name := "atomMore", fn := fun _ => fun
  | [d1, d2, d3, d4] => { results := [.lit (.bool false)], args := [d1, d2, d3, d4] }
  | _ => none }
def AtomMoreWrongFalsely : Prop := atomMoreRow.holds Try.pinned (OpenSpec.ofChange atomMoreWrong)

/- THE SECOND FORM. 'bulk': how many values and letters a reading holds, each counted each time it is reached (what is shared counts as often as it is met; a slice's spare places count too). A statement '..UptoSaid' is the law's where the arguments, and the package variables that the reading takes, are together of bulk at most 1048576: NARROWER than '..Said'. Prove '..Said' where nothing that the law and all that it calls make is longer than what came in: it says more and counts as full. Else prove '..UptoSaid'. A law counts once. -/
mutual
def uptoBulk {H : Type} : DataW H → Nat
  | .lit (.string bytes) => bytes.length + 1
  | .lit _ => 1
  | .nil => 1
  | .ptr d => uptoBulk d + 1
  | .slice elems spare => uptoBulkAll elems + uptoBulkAll spare + 1
  | .agg parts => uptoBulkAll parts + 1
  | .iface _ d => uptoBulk d + 1
  | .map entries => uptoBulkEntries entries + 1
  | .held _ => 1
def uptoBulkAll {H : Type} : List (DataW H) → Nat
  | [] => 0
  | d :: r => uptoBulk d + uptoBulkAll r
def uptoBulkEntries {H : Type} : List (Lit × DataW H) → Nat
  | [] => 0
  | x :: r => uptoBulkEntry x + uptoBulkEntries r
def uptoBulkEntry {H : Type} : Lit × DataW H → Nat
  | (.string bytes, d) => bytes.length + uptoBulk d + 1
  | (_, d) => uptoBulk d + 1
 end
def uptoSmall : (H : Type) → List (DataW H) → Bool := fun _ ds => decide (uptoBulkAll ds ≤ 1048576)
def OpenSpec.upto (s : _root_.Go.ChangeSpec) : _root_.Go.OpenSpec := { _root_.Go.OpenSpec.ofChange s with cond := some uptoSmall }

/-- 'sibyllaw25.AtomOf', WHERE WHAT IT READS IS OF BULK AT MOST 1048576: true; the input reads as it did. -/
def atomOfUptoRow : OpenClaim := { program := "ytgpgbkoaopfjkaa", sum := "9dd82076e9b26c4723fff17462a294f9fecdb48de61a4b38480192b3b4366dee", func := "sibyl/sibyllaw25.AtomOf", spec := "atomOf", unfollowed := true, recurses := true, loops := true, plainKeys := false, apart := false, narrowed := true }
def AtomOfUptoSaid : Prop := atomOfUptoRow.holds Try.pinned (OpenSpec.upto atomOfSpec)

/-- 'sibyllaw25.AtomStates', WHERE WHAT IT READS IS OF BULK AT MOST 1048576: true; the input reads as it did. -/
def atomStatesUptoRow : OpenClaim := { program := "ytgpgbkoaopfjkaa", sum := "9dd82076e9b26c4723fff17462a294f9fecdb48de61a4b38480192b3b4366dee", func := "sibyl/sibyllaw25.AtomStates", spec := "atomStates", unfollowed := true, recurses := true, plainKeys := false, apart := false, narrowed := true }
def AtomStatesUptoSaid : Prop := atomStatesUptoRow.holds Try.pinned (OpenSpec.upto atomStatesSpec)

/-- 'sibyllaw25.AtomHolds', WHERE WHAT IT READS IS OF BULK AT MOST 1048576: true; the input reads as it did. -/
def atomHoldsUptoRow : OpenClaim := { program := "ytgpgbkoaopfjkaa", sum := "9dd82076e9b26c4723fff17462a294f9fecdb48de61a4b38480192b3b4366dee", func := "sibyl/sibyllaw25.AtomHolds", spec := "atomHolds", unfollowed := true, recurses := true, loops := true, plainKeys := false, apart := false, narrowed := true }
def AtomHoldsUptoSaid : Prop := atomHoldsUptoRow.holds Try.pinned (OpenSpec.upto atomHoldsSpec)

/-- 'sibyllaw25.AtomEnds', WHERE WHAT IT READS IS OF BULK AT MOST 1048576: true; the input reads as it did. -/
def atomEndsUptoRow : OpenClaim := { program := "ytgpgbkoaopfjkaa", sum := "9dd82076e9b26c4723fff17462a294f9fecdb48de61a4b38480192b3b4366dee", func := "sibyl/sibyllaw25.AtomEnds", spec := "atomEnds", unfollowed := true, recurses := true, loops := true, plainKeys := false, apart := false, narrowed := true }
def AtomEndsUptoSaid : Prop := atomEndsUptoRow.holds Try.pinned (OpenSpec.upto atomEndsSpec)

/-- 'sibyllaw25.AtomMore', WHERE WHAT IT READS IS OF BULK AT MOST 1048576: true; the input reads as it did. -/
def atomMoreUptoRow : OpenClaim := { program := "ytgpgbkoaopfjkaa", sum := "9dd82076e9b26c4723fff17462a294f9fecdb48de61a4b38480192b3b4366dee", func := "sibyl/sibyllaw25.AtomMore", spec := "atomMore", unfollowed := true, recurses := true, loops := true, plainKeys := false, apart := false, narrowed := true }
def AtomMoreUptoSaid : Prop := atomMoreUptoRow.holds Try.pinned (OpenSpec.upto atomMoreSpec)

end Rows
end Go.Proofs.Ytgpgbkoaopfjkaa
