/-
  No cell of these rows narrows 'for every input' (looked for: loops, veiled, ifaces, maps, wideKeys, modest, calm, conditions, laid).
  DERIVED. THE GIVEN ROWS OF THIS SEAT. 12 by the template 'for every input the law returns true; each argument reads behind the call as it read before'; 0 by the template 'total and deterministic' (their statements: YtonddhepndhgbaaTotals.lean).
  GIVEN WITH THE SEED: the statements are not yours to turn. If you find one false, say at which input.
  Laid BY PROGRAM, IN A SANDBOX (cutbox-rows.mjs): the forced cells as the released guide's own fill.sh prints them over the translation 858c4255ce3638eb… (all of the seat's roots in one cut). By AI agents, Wed Nov 11 2026. No macro, syntax, notation, axiom, sorry.
-/
import Derived.Test.YtonddhepndhgbaaChecked
import GoSem.Claim
import GoSem.ClaimJoined
import GoSem.ClaimMapViews
import Derived.JoinedTies
import Derived.KernelRfl
namespace Go.Proofs.Ytonddhepndhgbaa
/- THE CELL 'sum', in the pinned program and in every row, IS THE sha256 OF THE DUMP (.gsa) THAT YtonddhepndhgbaaProg.lean LOADS. Nothing in Lean hashes anything: it is a label: what it is worth is what the hold of that sum in a sandbox is worth. -/
noncomputable def Try.pinned : Pinned := { name := "ytonddhepndhgbaa", sum := "858c4255ce3638eb97b4cf78ddef5eb42be1319ae2543ddc17e743949b4df32e", checked := Try.checked }
namespace Rows
def none {H : Type} : Left H := { results := [], args := [] }

/-- 'sibyllaw13.MeterPlays': WHATEVER THE INPUT: true; the input reads as it did. -/
def meterPlaysSpec : ChangeSpec := { name := "meterPlays", fn := fun _ => fun
  | [d1, d2] => { results := [.lit (.bool true)], args := [d1, d2] }
  | _ => none }
def meterPlaysRow : OpenClaim := { program := "ytonddhepndhgbaa", sum := "858c4255ce3638eb97b4cf78ddef5eb42be1319ae2543ddc17e743949b4df32e", func := "sibyl/sibyllaw13.MeterPlays", spec := "meterPlays", apart := false }
def MeterPlaysSaid : Prop := meterPlaysRow.holds Try.pinned (OpenSpec.ofChange meterPlaysSpec)

/-- ITS FALSE NEIGHBOUR: 'it returns false'. Refute it at one input. -/
def meterPlaysWrong : ChangeSpec := { name := "meterPlays", fn := fun _ => fun
  | [d1, d2] => { results := [.lit (.bool false)], args := [d1, d2] }
  | _ => none }
def MeterPlaysWrongFalsely : Prop := meterPlaysRow.holds Try.pinned (OpenSpec.ofChange meterPlaysWrong)

/-- 'sibyllaw13.MeterSum': WHATEVER THE INPUT: true; the input reads as it did. -/
def meterSumSpec : ChangeSpec := { name := "meterSum", fn := fun _ => fun
  | [d1, d2] => { results := [.lit (.bool true)], args := [d1, d2] }
  | _ => none }
def meterSumRow : OpenClaim := { program := "ytonddhepndhgbaa", sum := "858c4255ce3638eb97b4cf78ddef5eb42be1319ae2543ddc17e743949b4df32e", func := "sibyl/sibyllaw13.MeterSum", spec := "meterSum", apart := false }
def MeterSumSaid : Prop := meterSumRow.holds Try.pinned (OpenSpec.ofChange meterSumSpec)

/-- ITS FALSE NEIGHBOUR: 'it returns false'. Refute it at one input. -/
def meterSumWrong : ChangeSpec := { name := "meterSum", fn := fun _ => fun
  | [d1, d2] => { results := [.lit (.bool false)], args := [d1, d2] }
  | _ => none }
def MeterSumWrongFalsely : Prop := meterSumRow.holds Try.pinned (OpenSpec.ofChange meterSumWrong)

/-- 'sibyllaw13.MeterOfNothing': WHATEVER THE INPUT: true; the input reads as it did. -/
def meterOfNothingSpec : ChangeSpec := { name := "meterOfNothing", fn := fun _ => fun
  | [d] => { results := [.lit (.bool true)], args := [d] }
  | _ => none }
def meterOfNothingRow : OpenClaim := { program := "ytonddhepndhgbaa", sum := "858c4255ce3638eb97b4cf78ddef5eb42be1319ae2543ddc17e743949b4df32e", func := "sibyl/sibyllaw13.MeterOfNothing", spec := "meterOfNothing", apart := false }
def MeterOfNothingSaid : Prop := meterOfNothingRow.holds Try.pinned (OpenSpec.ofChange meterOfNothingSpec)

/-- ITS FALSE NEIGHBOUR: 'it returns false'. Refute it at one input. -/
def meterOfNothingWrong : ChangeSpec := { name := "meterOfNothing", fn := fun _ => fun
  | [d] => { results := [.lit (.bool false)], args := [d] }
  | _ => none }
def MeterOfNothingWrongFalsely : Prop := meterOfNothingRow.holds Try.pinned (OpenSpec.ofChange meterOfNothingWrong)

/-- 'sibyllaw11.WordBack': WHATEVER THE INPUT: true; the input reads as it did. -/
def wordBackSpec : ChangeSpec := { name := "wordBack", fn := fun _ => fun
  | [d] => { results := [.lit (.bool true)], args := [d] }
  | _ => none }
def wordBackRow : OpenClaim := { program := "ytonddhepndhgbaa", sum := "858c4255ce3638eb97b4cf78ddef5eb42be1319ae2543ddc17e743949b4df32e", func := "sibyl/sibyllaw11.WordBack", spec := "wordBack", apart := false }
def WordBackSaid : Prop := wordBackRow.holds Try.pinned (OpenSpec.ofChange wordBackSpec)

/-- ITS FALSE NEIGHBOUR: 'it returns false'. Refute it at one input. -/
def wordBackWrong : ChangeSpec := { name := "wordBack", fn := fun _ => fun
  | [d] => { results := [.lit (.bool false)], args := [d] }
  | _ => none }
def WordBackWrongFalsely : Prop := wordBackRow.holds Try.pinned (OpenSpec.ofChange wordBackWrong)

/-- 'sibyllaw11.WordDecodes': WHATEVER THE INPUT: true; the input reads as it did. -/
def wordDecodesSpec : ChangeSpec := { name := "wordDecodes", fn := fun _ => fun
  | [d1, d2] => { results := [.lit (.bool true)], args := [d1, d2] }
  | _ => none }
def wordDecodesRow : OpenClaim := { program := "ytonddhepndhgbaa", sum := "858c4255ce3638eb97b4cf78ddef5eb42be1319ae2543ddc17e743949b4df32e", func := "sibyl/sibyllaw11.WordDecodes", spec := "wordDecodes", apart := false }
def WordDecodesSaid : Prop := wordDecodesRow.holds Try.pinned (OpenSpec.ofChange wordDecodesSpec)

/-- ITS FALSE NEIGHBOUR: 'it returns false'. Refute it at one input. -/
def wordDecodesWrong : ChangeSpec := { name := "wordDecodes", fn := fun _ => fun
  | [d1, d2] => { results := [.lit (.bool false)], args := [d1, d2] }
  | _ => none }
def WordDecodesWrongFalsely : Prop := wordDecodesRow.holds Try.pinned (OpenSpec.ofChange wordDecodesWrong)

/-- 'sibyllaw11.WordAgain': WHATEVER THE INPUT: true; the input reads as it did. -/
def wordAgainSpec : ChangeSpec := { name := "wordAgain", fn := fun _ => fun
  | [d1, d2] => { results := [.lit (.bool true)], args := [d1, d2] }
  | _ => none }
def wordAgainRow : OpenClaim := { program := "ytonddhepndhgbaa", sum := "858c4255ce3638eb97b4cf78ddef5eb42be1319ae2543ddc17e743949b4df32e", func := "sibyl/sibyllaw11.WordAgain", spec := "wordAgain", apart := false }
def WordAgainSaid : Prop := wordAgainRow.holds Try.pinned (OpenSpec.ofChange wordAgainSpec)

/-- ITS FALSE NEIGHBOUR: 'it returns false'. Refute it at one input. -/
def wordAgainWrong : ChangeSpec := { name := "wordAgain", fn := fun _ => fun
  | [d1, d2] => { results := [.lit (.bool false)], args := [d1, d2] }
  | _ => none }
def WordAgainWrongFalsely : Prop := wordAgainRow.holds Try.pinned (OpenSpec.ofChange wordAgainWrong)

/-- 'sibyllaw16.BddOnce': WHATEVER THE INPUT: true; the input reads as it did. -/
def bddOnceSpec : ChangeSpec := { name := "bddOnce", fn := fun _ => fun
  | [d1, d2, d3] => { results := [.lit (.bool true)], args := [d1, d2, d3] }
  | _ => none }
def bddOnceRow : OpenClaim := { program := "ytonddhepndhgbaa", sum := "858c4255ce3638eb97b4cf78ddef5eb42be1319ae2543ddc17e743949b4df32e", func := "sibyl/sibyllaw16.BddOnce", spec := "bddOnce", unfollowed := true, recurses := true, apart := false }
def BddOnceSaid : Prop := bddOnceRow.holds Try.pinned (OpenSpec.ofChange bddOnceSpec)

/-- ITS FALSE NEIGHBOUR: 'it returns false'. Refute it at one input. -/
def bddOnceWrong : ChangeSpec := { name := "bddOnce", fn := fun _ => fun
  | [d1, d2, d3] => { results := [.lit (.bool false)], args := [d1, d2, d3] }
  | _ => none }
def BddOnceWrongFalsely : Prop := bddOnceRow.holds Try.pinned (OpenSpec.ofChange bddOnceWrong)

/-- 'sibyllaw16.BddRows': WHATEVER THE INPUT: true; the input reads as it did. -/
def bddRowsSpec : ChangeSpec := { name := "bddRows", fn := fun _ => fun
  | [d1, d2] => { results := [.lit (.bool true)], args := [d1, d2] }
  | _ => none }
def bddRowsRow : OpenClaim := { program := "ytonddhepndhgbaa", sum := "858c4255ce3638eb97b4cf78ddef5eb42be1319ae2543ddc17e743949b4df32e", func := "sibyl/sibyllaw16.BddRows", spec := "bddRows", unfollowed := true, recurses := true, apart := false }
def BddRowsSaid : Prop := bddRowsRow.holds Try.pinned (OpenSpec.ofChange bddRowsSpec)

/-- ITS FALSE NEIGHBOUR: 'it returns false'. Refute it at one input. -/
def bddRowsWrong : ChangeSpec := { name := "bddRows", fn := fun _ => fun
  | [d1, d2] => { results := [.lit (.bool false)], args := [d1, d2] }
  | _ => none }
def BddRowsWrongFalsely : Prop := bddRowsRow.holds Try.pinned (OpenSpec.ofChange bddRowsWrong)

/-- 'sibyllaw16.BddMakes': WHATEVER THE INPUT: true; the input reads as it did. -/
def bddMakesSpec : ChangeSpec := { name := "bddMakes", fn := fun _ => fun
  | [d1, d2, d3, d4] => { results := [.lit (.bool true)], args := [d1, d2, d3, d4] }
  | _ => none }
def bddMakesRow : OpenClaim := { program := "ytonddhepndhgbaa", sum := "858c4255ce3638eb97b4cf78ddef5eb42be1319ae2543ddc17e743949b4df32e", func := "sibyl/sibyllaw16.BddMakes", spec := "bddMakes", unfollowed := true, recurses := true, apart := false }
def BddMakesSaid : Prop := bddMakesRow.holds Try.pinned (OpenSpec.ofChange bddMakesSpec)

/-- ITS FALSE NEIGHBOUR: 'it returns false'. Refute it at one input. -/
def bddMakesWrong : ChangeSpec := { name := "bddMakes", fn := fun _ => fun
  | [d1, d2, d3, d4] => { results := [.lit (.bool false)], args := [d1, d2, d3, d4] }
  | _ => none }
def BddMakesWrongFalsely : Prop := bddMakesRow.holds Try.pinned (OpenSpec.ofChange bddMakesWrong)

/-- 'sibyllaw18.CutAsks': WHATEVER THE INPUT: true; the input reads as it did. -/
def cutAsksSpec : ChangeSpec := { name := "cutAsks", fn := fun _ => fun
  | [d1, d2, d3, d4] => { results := [.lit (.bool true)], args := [d1, d2, d3, d4] }
  | _ => none }
def cutAsksRow : OpenClaim := { program := "ytonddhepndhgbaa", sum := "858c4255ce3638eb97b4cf78ddef5eb42be1319ae2543ddc17e743949b4df32e", func := "sibyl/sibyllaw18.CutAsks", spec := "cutAsks", unfollowed := true, recurses := true, apart := false }
def CutAsksSaid : Prop := cutAsksRow.holds Try.pinned (OpenSpec.ofChange cutAsksSpec)

/-- ITS FALSE NEIGHBOUR: 'it returns false'. Refute it at one input. -/
def cutAsksWrong : ChangeSpec := { name := "cutAsks", fn := fun _ => fun
  | [d1, d2, d3, d4] => { results := [.lit (.bool false)], args := [d1, d2, d3, d4] }
  | _ => none }
def CutAsksWrongFalsely : Prop := cutAsksRow.holds Try.pinned (OpenSpec.ofChange cutAsksWrong)

/-- 'sibyllaw18.CutOrder': WHATEVER THE INPUT: true; the input reads as it did. -/
def cutOrderSpec : ChangeSpec := { name := "cutOrder", fn := fun _ => fun
  | [d1, d2, d3, d4, d5, d6] => { results := [.lit (.bool true)], args := [d1, d2, d3, d4, d5, d6] }
  | _ => none }
def cutOrderRow : OpenClaim := { program := "ytonddhepndhgbaa", sum := "858c4255ce3638eb97b4cf78ddef5eb42be1319ae2543ddc17e743949b4df32e", func := "sibyl/sibyllaw18.CutOrder", spec := "cutOrder", unfollowed := true, recurses := true, apart := false }
def CutOrderSaid : Prop := cutOrderRow.holds Try.pinned (OpenSpec.ofChange cutOrderSpec)

/-- ITS FALSE NEIGHBOUR: 'it returns false'. Refute it at one input. -/
def cutOrderWrong : ChangeSpec := { name := "cutOrder", fn := fun _ => fun
  | [d1, d2, d3, d4, d5, d6] => { results := [.lit (.bool false)], args := [d1, d2, d3, d4, d5, d6] }
  | _ => none }
def CutOrderWrongFalsely : Prop := cutOrderRow.holds Try.pinned (OpenSpec.ofChange cutOrderWrong)

/-- 'sibyllaw18.CutAll': WHATEVER THE INPUT: true; the input reads as it did. -/
def cutAllSpec : ChangeSpec := { name := "cutAll", fn := fun _ => fun
  | [d1, d2, d3] => { results := [.lit (.bool true)], args := [d1, d2, d3] }
  | _ => none }
def cutAllRow : OpenClaim := { program := "ytonddhepndhgbaa", sum := "858c4255ce3638eb97b4cf78ddef5eb42be1319ae2543ddc17e743949b4df32e", func := "sibyl/sibyllaw18.CutAll", spec := "cutAll", unfollowed := true, recurses := true, apart := false }
def CutAllSaid : Prop := cutAllRow.holds Try.pinned (OpenSpec.ofChange cutAllSpec)

/-- ITS FALSE NEIGHBOUR: 'it returns false'. Refute it at one input. -/
def cutAllWrong : ChangeSpec := { name := "cutAll", fn := fun _ => fun
  | [d1, d2, d3] => { results := [.lit (.bool false)], args := [d1, d2, d3] }
  | _ => none }
def CutAllWrongFalsely : Prop := cutAllRow.holds Try.pinned (OpenSpec.ofChange cutAllWrong)

/- THE SECOND FORM. 'bulk': how many values and letters a reading holds, each counted each time it is reached (what is shared counts as often as it is met; a slice's spare places count too). A statement '..UptoSaid' is the law's where the arguments, and the package variables that the reading takes, are together of bulk at most 1048576: NARROWER than '..Said'. Prove '..Said' where nothing that the law and all that it calls make is longer than what came in: it says more and counts as full. Else prove '..UptoSaid'. A law counts once. -/
mutual
def uptoBulk {H : Type} : DataW H → Nat
  | .lit (.string bytes) => bytes.length + 1
  | .lit _ => 1
  | .nil => 1
  | .ptr d => uptoBulk d + 1
  | .slice elems spare => uptoBulkAll elems + uptoBulkAll spare + 1
  | .agg parts => uptoBulkAll parts + 1
  | .iface _ d => uptoBulk d + 1
  | .map entries => uptoBulkEntries entries + 1
  | .held _ => 1
def uptoBulkAll {H : Type} : List (DataW H) → Nat
  | [] => 0
  | d :: r => uptoBulk d + uptoBulkAll r
def uptoBulkEntries {H : Type} : List (Lit × DataW H) → Nat
  | [] => 0
  | x :: r => uptoBulkEntry x + uptoBulkEntries r
def uptoBulkEntry {H : Type} : Lit × DataW H → Nat
  | (.string bytes, d) => bytes.length + uptoBulk d + 1
  | (_, d) => uptoBulk d + 1
 end
def uptoSmall : (H : Type) → List (DataW H) → Bool := fun _ ds => decide (uptoBulkAll ds ≤ 1048576)
def OpenSpec.upto (s : _root_.Go.ChangeSpec) : _root_.Go.OpenSpec := { _root_.Go.OpenSpec.ofChange s with cond := some uptoSmall }

/-- 'sibyllaw13.MeterPlays', WHERE WHAT IT READS IS OF BULK AT MOST 1048576: true; the input reads as it did. -/
def meterPlaysUptoRow : OpenClaim := { program := "ytonddhepndhgbaa", sum := "858c4255ce3638eb97b4cf78ddef5eb42be1319ae2543ddc17e743949b4df32e", func := "sibyl/sibyllaw13.MeterPlays", spec := "meterPlays", apart := false, narrowed := true }
def MeterPlaysUptoSaid : Prop := meterPlaysUptoRow.holds Try.pinned (OpenSpec.upto meterPlaysSpec)

/-- 'sibyllaw13.MeterSum', WHERE WHAT IT READS IS OF BULK AT MOST 1048576: true; the input reads as it did. -/
def meterSumUptoRow : OpenClaim := { program := "ytonddhepndhgbaa", sum := "858c4255ce3638eb97b4cf78ddef5eb42be1319ae2543ddc17e743949b4df32e", func := "sibyl/sibyllaw13.MeterSum", spec := "meterSum", apart := false, narrowed := true }
def MeterSumUptoSaid : Prop := meterSumUptoRow.holds Try.pinned (OpenSpec.upto meterSumSpec)

/-- 'sibyllaw13.MeterOfNothing', WHERE WHAT IT READS IS OF BULK AT MOST 1048576: true; the input reads as it did. -/
def meterOfNothingUptoRow : OpenClaim := { program := "ytonddhepndhgbaa", sum := "858c4255ce3638eb97b4cf78ddef5eb42be1319ae2543ddc17e743949b4df32e", func := "sibyl/sibyllaw13.MeterOfNothing", spec := "meterOfNothing", apart := false, narrowed := true }
def MeterOfNothingUptoSaid : Prop := meterOfNothingUptoRow.holds Try.pinned (OpenSpec.upto meterOfNothingSpec)

/-- 'sibyllaw11.WordBack', WHERE WHAT IT READS IS OF BULK AT MOST 1048576: true; the input reads as it did. -/
def wordBackUptoRow : OpenClaim := { program := "ytonddhepndhgbaa", sum := "858c4255ce3638eb97b4cf78ddef5eb42be1319ae2543ddc17e743949b4df32e", func := "sibyl/sibyllaw11.WordBack", spec := "wordBack", apart := false, narrowed := true }
def WordBackUptoSaid : Prop := wordBackUptoRow.holds Try.pinned (OpenSpec.upto wordBackSpec)

/-- 'sibyllaw11.WordDecodes', WHERE WHAT IT READS IS OF BULK AT MOST 1048576: true; the input reads as it did. -/
def wordDecodesUptoRow : OpenClaim := { program := "ytonddhepndhgbaa", sum := "858c4255ce3638eb97b4cf78ddef5eb42be1319ae2543ddc17e743949b4df32e", func := "sibyl/sibyllaw11.WordDecodes", spec := "wordDecodes", apart := false, narrowed := true }
def WordDecodesUptoSaid : Prop := wordDecodesUptoRow.holds Try.pinned (OpenSpec.upto wordDecodesSpec)

/-- 'sibyllaw11.WordAgain', WHERE WHAT IT READS IS OF BULK AT MOST 1048576: true; the input reads as it did. -/
def wordAgainUptoRow : OpenClaim := { program := "ytonddhepndhgbaa", sum := "858c4255ce3638eb97b4cf78ddef5eb42be1319ae2543ddc17e743949b4df32e", func := "sibyl/sibyllaw11.WordAgain", spec := "wordAgain", apart := false, narrowed := true }
def WordAgainUptoSaid : Prop := wordAgainUptoRow.holds Try.pinned (OpenSpec.upto wordAgainSpec)

/-- 'sibyllaw16.BddOnce', WHERE WHAT IT READS IS OF BULK AT MOST 1048576: true; the input reads as it did. -/
def bddOnceUptoRow : OpenClaim := { program := "ytonddhepndhgbaa", sum := "858c4255ce3638eb97b4cf78ddef5eb42be1319ae2543ddc17e743949b4df32e", func := "sibyl/sibyllaw16.BddOnce", spec := "bddOnce", unfollowed := true, recurses := true, apart := false, narrowed := true }
def BddOnceUptoSaid : Prop := bddOnceUptoRow.holds Try.pinned (OpenSpec.upto bddOnceSpec)

/-- 'sibyllaw16.BddRows', WHERE WHAT IT READS IS OF BULK AT MOST 1048576: true; the input reads as it did. -/
def bddRowsUptoRow : OpenClaim := { program := "ytonddhepndhgbaa", sum := "858c4255ce3638eb97b4cf78ddef5eb42be1319ae2543ddc17e743949b4df32e", func := "sibyl/sibyllaw16.BddRows", spec := "bddRows", unfollowed := true, recurses := true, apart := false, narrowed := true }
def BddRowsUptoSaid : Prop := bddRowsUptoRow.holds Try.pinned (OpenSpec.upto bddRowsSpec)

/-- 'sibyllaw16.BddMakes', WHERE WHAT IT READS IS OF BULK AT MOST 1048576: true; the input reads as it did. -/
def bddMakesUptoRow : OpenClaim := { program := "ytonddhepndhgbaa", sum := "858c4255ce3638eb97b4cf78ddef5eb42be1319ae2543ddc17e743949b4df32e", func := "sibyl/sibyllaw16.BddMakes", spec := "bddMakes", unfollowed := true, recurses := true, apart := false, narrowed := true }
def BddMakesUptoSaid : Prop := bddMakesUptoRow.holds Try.pinned (OpenSpec.upto bddMakesSpec)

/-- 'sibyllaw18.CutAsks', WHERE WHAT IT READS IS OF BULK AT MOST 1048576: true; the input reads as it did. -/
def cutAsksUptoRow : OpenClaim := { program := "ytonddhepndhgbaa", sum := "858c4255ce3638eb97b4cf78ddef5eb42be1319ae2543ddc17e743949b4df32e", func := "sibyl/sibyllaw18.CutAsks", spec := "cutAsks", unfollowed := true, recurses := true, apart := false, narrowed := true }
def CutAsksUptoSaid : Prop := cutAsksUptoRow.holds Try.pinned (OpenSpec.upto cutAsksSpec)

/-- 'sibyllaw18.CutOrder', WHERE WHAT IT READS IS OF BULK AT MOST 1048576: true; the input reads as it did. -/
def cutOrderUptoRow : OpenClaim := { program := "ytonddhepndhgbaa", sum := "858c4255ce3638eb97b4cf78ddef5eb42be1319ae2543ddc17e743949b4df32e", func := "sibyl/sibyllaw18.CutOrder", spec := "cutOrder", unfollowed := true, recurses := true, apart := false, narrowed := true }
def CutOrderUptoSaid : Prop := cutOrderUptoRow.holds Try.pinned (OpenSpec.upto cutOrderSpec)

/-- 'sibyllaw18.CutAll', WHERE WHAT IT READS IS OF BULK AT MOST 1048576: true; the input reads as it did. -/
def cutAllUptoRow : OpenClaim := { program := "ytonddhepndhgbaa", sum := "858c4255ce3638eb97b4cf78ddef5eb42be1319ae2543ddc17e743949b4df32e", func := "sibyl/sibyllaw18.CutAll", spec := "cutAll", unfollowed := true, recurses := true, apart := false, narrowed := true }
def CutAllUptoSaid : Prop := cutAllUptoRow.holds Try.pinned (OpenSpec.upto cutAllSpec)

end Rows
end Go.Proofs.Ytonddhepndhgbaa
