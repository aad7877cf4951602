/- The walks of atom's machines: each step. -/
import Derived.Test.YtgpgbkoaopfjkaaAtomLaw
import Derived.Test.YtgpgbkoaopfjkaaPkA
namespace Go.Proofs.Ytgpgbkoaopfjkaa
open Go.RowKit

attribute [local irreducible] wpQuiet

variable {R : Ending → World → Prop} {w : World}

/-- The next state as it is told: -1: dead. -/
def outI : Option Nat → Int
  | some t => (t : Int)
  | none => -1

/-- A function value that is the machine's next state. -/
def AnsM (F : Nat) (caps : Array Value) (o : AOp) (N : Nat) (w : World) : Prop :=
  ∀ s, s < lastO o N + 1 → ∀ (a b c : Bool) w' R, Same w w' → (∀ e w'', e = .returned (.int .i64 (outI (nextO o N s a b c))) → Same w' w'' → R e w'') → Calls Try.prog F (#[.int .i64 (s : Int), .bool a, .bool b, .bool c] ++ caps) w' R

set_option maxHeartbeats 1000000 in
theorem singleFn (N : Nat) : AnsM 44 #[] .sing N w := by
  intro s hs a b c w' R hk hR
  have HR := hide hR
  clear hR hk
  have hs : s < 1 + 1 := hs
  rcases (show s = 0 ∨ s = 1 by omega) with rfl | rfl <;> cases a <;>
  · clear hs
    show Calls Try.prog 44 #[_, _, _, _] w' R
    go_enter Try.func44, Try.ntmps44
    go_wp2_with fail
    exact HR.out _ _ rfl (Keeps.refl _ _)

set_option maxHeartbeats 1000000 in
theorem firstFn (N : Nat) : AnsM 45 #[] .flag N w := by
  intro s hs a b c w' R hk hR
  have HR := hide hR
  clear hR hk
  have hs : s < 1 + 1 := hs
  rcases (show s = 0 ∨ s = 1 by omega) with rfl | rfl <;> cases a <;>
  · clear hs
    show Calls Try.prog 45 #[_, _, _, _] w' R
    go_enter Try.func45, Try.ntmps45
    go_wp2_with fail
    exact HR.out _ _ rfl (Keeps.refl _ _)

set_option maxHeartbeats 1000000 in
theorem laterFn (N : Nat) : AnsM 46 #[] .less N w := by
  intro s hs a b c w' R hk hR
  have HR := hide hR
  clear hR hk
  have hs : s < 2 + 1 := hs
  rcases (show s = 0 ∨ s = 1 ∨ s = 2 by omega) with rfl | rfl | rfl <;> cases a <;> cases b <;>
  · clear hs
    show Calls Try.prog 46 #[_, _, _, _] w' R
    go_enter Try.func46, Try.ntmps46
    go_wp2_with fail
    exact HR.out _ _ rfl (Keeps.refl _ _)

set_option maxHeartbeats 2000000 in
theorem countedFn {N p q : Nat} (hN : N ≤ 20) (hp : w.cell? ⟨p, 0, none⟩ = some (.int .i64 (N : Int))) (hq : w.cell? ⟨q, 0, none⟩ = some (.int .i64 ((N : Int) + 1))) :
    AnsM 71 #[.pointer (some ⟨p, 0, none⟩), .pointer (some ⟨q, 0, none⟩)] .plus N w := by
  intro s hs a b c w' R hk hR
  have HR := hide hR
  have z1 := Keeps.cell hk hp trivial
  have z2 := Keeps.cell hk hq trivial
  clear hR hk hp hq
  have hs : s < N + 1 + 1 := hs
  have hs' : s ≤ N + 1 := by omega
  clear hs
  rcases (show (s = 0 ∧ N = 0) ∨ (s = 0 ∧ 0 < N) ∨ (0 < s ∧ s < N) ∨ (0 < s ∧ s = N) ∨ (s = N + 1) by omega) with ⟨rfl, rfl⟩ | ⟨rfl, h⟩ | ⟨h1, h2⟩ | ⟨h1, rfl⟩ | rfl
  · cases a <;> cases b <;>
    · show Calls Try.prog 71 #[_, _, _, _, _, _] w' R
      go_enter Try.func71, Try.ntmps71
      go_wp2_with fail
      exact HR.out _ _ rfl (Keeps.refl _ _)
  · have hb : ((N : Int) == 0) = false := by rw [beq_eq_false_iff_ne]; omega
    have hb2 : decide (N = 0) = false := decide_eq_false (by omega)
    cases a <;> cases b <;>
    · show Calls Try.prog 71 #[_, _, _, _, _, _] w' R
      go_enter Try.func71, Try.ntmps71
      go_wp2_with fail
      refine HR.out _ _ (ret_int ?_) (Keeps.refl _ _)
      simp [nextO, outI, hb2]
  · have hb : ((s : Int) == (N : Int)) = false := by rw [beq_eq_false_iff_ne]; omega
    have hb2 : decide (s = N) = false := decide_eq_false (by omega)
    cases a <;> cases b <;>
    · show Calls Try.prog 71 #[_, _, _, _, _, _] w' R
      go_enter Try.func71, Try.ntmps71
      go_wp2_with fail
      refine HR.out _ _ (ret_int ?_) (Keeps.refl _ _)
      simp [nextO, outI, hb2, h1, show ¬ s = 0 by omega, show ¬ s = N + 1 by omega, show s < N + 1 by omega]
  · cases a <;> cases b <;>
    · show Calls Try.prog 71 #[_, _, _, _, _, _] w' R
      go_enter Try.func71, Try.ntmps71
      go_wp2_with fail
      refine HR.out _ _ (ret_int ?_) (Keeps.refl _ _)
      simp [nextO, outI, h1, show ¬ s = 0 by omega]
  · cases a <;> cases b <;>
    · show Calls Try.prog 71 #[_, _, _, _, _, _] w' R
      go_enter Try.func71, Try.ntmps71
      go_wp2_with fail
      refine HR.out _ _ (ret_int ?_) (Keeps.refl _ _)
      simp [nextO, outI]

set_option maxHeartbeats 2000000 in
theorem numberFn {N p q : Nat} (hN : N ≤ 20) (hp : w.cell? ⟨p, 0, none⟩ = some (.int .i64 (N : Int))) (hq : w.cell? ⟨q, 0, none⟩ = some (.int .i64 ((N : Int) + 1))) :
    AnsM 72 #[.pointer (some ⟨q, 0, none⟩), .pointer (some ⟨p, 0, none⟩)] .num N w := by
  intro s hs a b c w' R hk hR
  have HR := hide hR
  have z1 := Keeps.cell hk hp trivial
  have z2 := Keeps.cell hk hq trivial
  clear hR hk hp hq
  have hs : s < N + 1 + 1 := hs
  rcases (show s < N ∨ s = N ∨ s = N + 1 by omega) with h1 | rfl | rfl
  · have hb : ((s : Int) == (N : Int)) = false := by rw [beq_eq_false_iff_ne]; omega
    have hb2 : decide (s = N) = false := decide_eq_false (by omega)
    cases a <;>
    · show Calls Try.prog 72 #[_, _, _, _, _, _] w' R
      go_enter Try.func72, Try.ntmps72
      go_wp2_with fail
      refine HR.out _ _ (ret_int ?_) (Keeps.refl _ _)
      simp [nextO, outI, hb2, show ¬ s = N + 1 by omega, show s < N + 1 by omega]
  · cases a <;>
    · show Calls Try.prog 72 #[_, _, _, _, _, _] w' R
      go_enter Try.func72, Try.ntmps72
      go_wp2_with fail
      refine HR.out _ _ (ret_int ?_) (Keeps.refl _ _)
      simp [nextO, outI]
  · cases a <;>
    · show Calls Try.prog 72 #[_, _, _, _, _, _] w' R
      go_enter Try.func72, Try.ntmps72
      go_wp2_with fail
      refine HR.out _ _ (ret_int ?_) (Keeps.refl _ _)
      simp [nextO, outI]

/-- What the closures of one state ask. -/
def askO (o : AOp) (a b c : Bool) : Bool :=
  match o with
  | .tru => true
  | .sub => !a || b
  | .non => !a
  | .uni => c == (a || b)
  | .int => c == (a && b)
  | .mns => c == (a && !b)
  | _ => false

def oneO : AOp → Bool
  | .tru | .sub | .non | .uni | .int | .mns => true
  | _ => false

theorem next_one {o : AOp} (ho : oneO o = true) (N s : Nat) (a b c : Bool) : nextO o N s a b c = if askO o a b c = true then some 0 else none := by
  cases o <;> simp [oneO] at ho <;> rfl

/-- A function that answers for the closure of one state. -/
def AnsA (G : Nat) (o : AOp) : Prop :=
  ∀ (a b c : Bool) (w' : World) (R : Ending → World → Prop), (∀ e w'', e = .returned (.bool (askO o a b c)) → Same w' w'' → R e w'') → Calls Try.prog G #[.bool a, .bool b, .bool c] w' R

theorem askFn1 : AnsA 38 .tru := by
  intro a b c w' R hR
  have HR := hide hR
  clear hR
  go_enter Try.func38, Try.ntmps38
  go_wp2_with fail
  exact HR.out _ _ rfl (Keeps.refl _ _)
theorem askFn2 : AnsA 39 .sub := by
  intro a b c w' R hR
  have HR := hide hR
  clear hR
  cases a <;> cases b <;>
  · go_enter Try.func39, Try.ntmps39
    go_wp2_with fail
    exact HR.out _ _ rfl (Keeps.refl _ _)
theorem askFn3 : AnsA 40 .non := by
  intro a b c w' R hR
  have HR := hide hR
  clear hR
  cases a <;>
  · go_enter Try.func40, Try.ntmps40
    go_wp2_with fail
    exact HR.out _ _ rfl (Keeps.refl _ _)
theorem askFn4 : AnsA 41 .uni := by
  intro a b c w' R hR
  have HR := hide hR
  clear hR
  cases a <;> cases b <;> cases c <;>
  · go_enter Try.func41, Try.ntmps41
    go_wp2_with fail
    exact HR.out _ _ rfl (Keeps.refl _ _)
theorem askFn5 : AnsA 42 .int := by
  intro a b c w' R hR
  have HR := hide hR
  clear hR
  cases a <;> cases b <;> cases c <;>
  · go_enter Try.func42, Try.ntmps42
    go_wp2_with fail
    exact HR.out _ _ rfl (Keeps.refl _ _)
theorem askFn6 : AnsA 43 .mns := by
  intro a b c w' R hR
  have HR := hide hR
  clear hR
  cases a <;> cases b <;> cases c <;>
  · go_enter Try.func43, Try.ntmps43
    go_wp2_with fail
    exact HR.out _ _ rfl (Keeps.refl _ _)

set_option maxHeartbeats 1000000 in
theorem sameFn {G p N : Nat} {o : AOp} (ho : oneO o = true) (hcf : ∀ args w, (callFunc G args).run Try.prog w = .ok (.enter G args) w) (hG : AnsA G o) (hp : w.cell? ⟨p, 0, none⟩ = some (.func (.func G) #[] #[])) :
    AnsM 70 #[.pointer (some ⟨p, 0, none⟩)] o N w := by
  intro s hs a b c w' R hk hR
  rw [next_one ho] at hR
  have HR := hide hR
  have z1 := Keeps.cell hk hp trivial
  clear hR hk hp hs
  show Calls Try.prog 70 #[_, _, _, _, _] w' R
  go_enter Try.func70, Try.ntmps70
  go_wp2_with fail
  refine hG a b c _ _ ?_; rintro e w1 rfl k1
  have HK := hide k1
  clear k1
  cases h : askO o a b c with
  | true =>
    rw [h] at HR
    go_wp2_with fail
    exact HR.out _ _ rfl HK.out
  | false =>
    rw [h] at HR
    go_wp2_with fail
    exact HR.out _ _ rfl HK.out

end Go.Proofs.Ytgpgbkoaopfjkaa
