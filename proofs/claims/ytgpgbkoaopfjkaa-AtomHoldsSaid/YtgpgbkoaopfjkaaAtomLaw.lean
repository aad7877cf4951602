/- Atoms' machines, in plain words; the least automata. No program in sight. -/
import Derived.Test.YtgpgbkoaopfjkaaMinLaw
namespace Go.Proofs.Ytgpgbkoaopfjkaa

/-- An atom's kind. -/
inductive AOp where
  | tru | sub | non | uni | int | mns | sing | flag | less | plus | num
  deriving DecidableEq

/-- Its name. -/
def AOp.name : AOp → ByteArray
  | .tru => ⟨#[116, 114, 117, 101]⟩
  | .sub => ⟨#[115, 117, 98]⟩
  | .non => ⟨#[110, 111, 110, 101]⟩
  | .uni => ⟨#[117, 110, 105, 111, 110]⟩
  | .int => ⟨#[105, 110, 116, 101, 114]⟩
  | .mns => ⟨#[109, 105, 110, 117, 115]⟩
  | .sing => ⟨#[115, 105, 110, 103]⟩
  | .flag => ⟨#[102, 108, 97, 103]⟩
  | .less => ⟨#[108, 101, 115, 115]⟩
  | .plus => ⟨#[112, 108, 117, 115]⟩
  | .num => ⟨#[110, 117, 109]⟩

/-- How many variables. -/
def AOp.vars : AOp → Nat
  | .tru => 0
  | .non | .sing | .flag | .num => 1
  | .sub | .less | .plus => 2
  | .uni | .int | .mns => 3

/-- Has it a number? -/
def AOp.isNum : AOp → Bool
  | .plus | .num => true
  | _ => false

/-- The state that accepts. -/
def lastO (o : AOp) (N : Nat) : Nat :=
  match o with
  | .sing | .flag => 1
  | .less => 2
  | .plus | .num => N + 1
  | _ => 0

/-- The next state; none: dead. -/
def nextO (o : AOp) (N s : Nat) (a b c : Bool) : Option Nat :=
  match o with
  | .tru => some 0
  | .sub => if !a || b then some 0 else none
  | .non => if !a then some 0 else none
  | .uni => if c == (a || b) then some 0 else none
  | .int => if c == (a && b) then some 0 else none
  | .mns => if c == (a && !b) then some 0 else none
  | .sing => if !a then some s else if s = 0 then some 1 else none
  | .flag => if s = 1 ∨ a = true then some 1 else none
  | .less => if a = false ∧ b = false then some s else if s = 0 ∧ a = true ∧ b = false then some 1 else if s = 1 ∧ b = true ∧ a = false then some 2 else none
  | .plus => if s = 0 ∧ a = true ∧ b = decide (N = 0) then some 1 else if (s = 0 ∧ a = false ∧ b = false) ∨ (s = N + 1 ∧ a = false ∧ b = false) then some s else if 0 < s ∧ s < N + 1 ∧ a = false ∧ b = decide (s = N) then some (s + 1) else none
  | .num => if s < N + 1 ∧ a = decide (s = N) then some (s + 1) else if s = N + 1 ∧ a = false then some (N + 1) else none

/-- The next state as a number; one more than the last: dead. -/
def nxO (o : AOp) (N A B C s l : Nat) : Nat :=
  if s < lastO o N + 1 then (nextO o N s (l.testBit A) (l.testBit B) (l.testBit C)).getD (lastO o N + 1) else lastO o N + 1

/-- The machine as an automaton of n tracks. -/
def machAu (o : AOp) (N A B C n : Nat) : Au :=
  ⟨n, (List.range (lastO o N + 2)).map fun s => decide (s = lastO o N), (List.range (lastO o N + 2)).map fun s => (List.range (2 ^ n)).map fun l => (nxO o N A B C s l : Int)⟩

end Go.Proofs.Ytgpgbkoaopfjkaa
