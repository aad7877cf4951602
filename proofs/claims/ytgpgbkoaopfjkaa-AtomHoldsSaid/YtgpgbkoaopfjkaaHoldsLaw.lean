/- What an atom's machine accepts is what the atom says of the numbers: the plain law. -/
import Derived.Test.YtgpgbkoaopfjkaaEndsLaw
namespace Go.Proofs.Ytgpgbkoaopfjkaa

abbrev Tri : Type := Bool × Bool × Bool

/-- The number of the bits, the first the least. -/
def valN : List Bool → Nat
  | [] => 0
  | b :: bs => b.toNat + 2 * valN bs

theorem valN_bit : ∀ (bs : List Bool) (k : Nat), (valN bs).testBit k = bs.getD k false
  | [], k => by simp [valN]
  | b :: bs, 0 => by
    show (b.toNat + 2 * valN bs).testBit 0 = b
    rw [Nat.testBit_zero]
    cases b <;> simp <;> omega
  | b :: bs, k + 1 => by
    show (b.toNat + 2 * valN bs).testBit (k + 1) = bs.getD k false
    rw [Nat.testBit_succ, show (b.toNat + 2 * valN bs) / 2 = valN bs by cases b <;> simp <;> omega]
    exact valN_bit bs k

theorem valN_lt : ∀ (bs : List Bool), valN bs < 2 ^ bs.length
  | [] => by simp [valN]
  | b :: bs => by
    have := valN_lt bs
    show b.toNat + 2 * valN bs < 2 ^ (bs.length + 1)
    rw [Nat.pow_succ]
    cases b <;> simp <;> omega

def vA (L : List Tri) : Nat := valN (L.map (·.1))
def vB (L : List Tri) : Nat := valN (L.map (·.2.1))
def vC (L : List Tri) : Nat := valN (L.map (·.2.2))

/-- a and not b. -/
def andN (a b : Nat) : Nat := a ^^^ (a &&& b)

theorem andN_bit (a b k : Nat) : (andN a b).testBit k = (a.testBit k && !b.testBit k) := by
  unfold andN
  rw [Nat.testBit_xor, Nat.testBit_and]
  cases a.testBit k <;> cases b.testBit k <;> rfl

/-- A power of two. -/
def IsP (v : Nat) : Prop := ∃ k, v = 2 ^ k

theorem isP_even (v : Nat) : IsP (2 * v) ↔ IsP v := by
  constructor
  · rintro ⟨k, hk⟩
    cases k with
    | zero => omega
    | succ k => exact ⟨k, by rw [Nat.pow_succ] at hk; omega⟩
  · rintro ⟨k, rfl⟩
    exact ⟨k + 1, by rw [Nat.pow_succ]; omega⟩

theorem isP_odd (v : Nat) : IsP (1 + 2 * v) ↔ v = 0 := by
  constructor
  · rintro ⟨k, hk⟩
    cases k with
    | zero => simp at hk; omega
    | succ k => rw [Nat.pow_succ] at hk; omega
  · rintro rfl
    exact ⟨0, rfl⟩

theorem isP_pos {v : Nat} (h : IsP v) : 0 < v := by
  obtain ⟨k, rfl⟩ := h
  exact Nat.pow_pos (by decide)

theorem sing_iff (v : Nat) : (0 < v ∧ v &&& (v - 1) = 0) ↔ IsP v := by
  have h := Nat.ne_zero_and_sub_one_eq_zero_iff_isPowerOfTwo (n := v)
  unfold Nat.isPowerOfTwo at h
  unfold IsP
  rw [← h]
  constructor
  · rintro ⟨h1, h2⟩; exact ⟨by omega, h2⟩
  · rintro ⟨h1, h2⟩; exact ⟨by omega, h2⟩

/-- The next state of the machine. -/
def nxM (o : AOp) (N s : Nat) (t : Tri) : Nat := if s < lastO o N + 1 then (nextO o N s t.1 t.2.1 t.2.2).getD (lastO o N + 1) else lastO o N + 1

/-- Does it accept from a state? -/
def accM (o : AOp) (N : Nat) : Nat → List Tri → Bool
  | s, [] => decide (s = lastO o N)
  | s, t :: L => accM o N (nxM o N s t) L

theorem acc_dead (o : AOp) (N : Nat) : ∀ (L : List Tri), accM o N (lastO o N + 1) L = false
  | [] => by simp [accM]
  | t :: L => by
    show accM o N (nxM o N (lastO o N + 1) t) L = false
    rw [show nxM o N (lastO o N + 1) t = lastO o N + 1 by unfold nxM; rw [if_neg (by omega)]]
    exact acc_dead o N L

theorem acc_cons_some {o : AOp} {N s u : Nat} {a b c : Bool} {L : List Tri} (hs : s < lastO o N + 1) (h : nextO o N s a b c = some u) : accM o N s ((a, b, c) :: L) = accM o N u L := by
  show accM o N (nxM o N s (a, b, c)) L = _
  unfold nxM
  rw [if_pos hs, h]; rfl

theorem acc_cons_none {o : AOp} {N s : Nat} {a b c : Bool} {L : List Tri} (hs : s < lastO o N + 1) (h : nextO o N s a b c = none) : accM o N s ((a, b, c) :: L) = false := by
  show accM o N (nxM o N s (a, b, c)) L = _
  unfold nxM
  rw [if_pos hs, h]
  exact acc_dead o N L

theorem vA_cons (a b c : Bool) (L : List Tri) : vA ((a, b, c) :: L) = a.toNat + 2 * vA L := rfl
theorem vB_cons (a b c : Bool) (L : List Tri) : vB ((a, b, c) :: L) = b.toNat + 2 * vB L := rfl
theorem vC_cons (a b c : Bool) (L : List Tri) : vC ((a, b, c) :: L) = c.toNat + 2 * vC L := rfl
theorem toNat_t : true.toNat = 1 := rfl
theorem toNat_f : false.toNat = 0 := rfl

/-- The machines of one state: each letter by itself. -/
theorem acc_each {o : AOp} {N : Nat} {f : Tri → Bool} (hl : lastO o N = 0) (hf : ∀ a b c, nextO o N 0 a b c = if f (a, b, c) then some 0 else none) : ∀ (L : List Tri), accM o N 0 L = true ↔ ∀ t ∈ L, f t = true
  | [] => by simp [accM, hl]
  | (a, b, c) :: L => by
    have ih := acc_each hl hf L
    cases h : f (a, b, c) with
    | true =>
      rw [acc_cons_some (by omega) (by rw [hf, h]; rfl), ih]
      simp [h]
    | false =>
      rw [acc_cons_none (by omega) (by rw [hf, h]; rfl)]
      simp [h]

theorem acc_sing (N : Nat) : ∀ (L : List Tri), (accM .sing N 1 L = true ↔ vA L = 0) ∧ (accM .sing N 0 L = true ↔ IsP (vA L))
  | [] => by
    refine ⟨by simp [accM, lastO, vA, valN], ?_⟩
    simp only [accM, lastO, vA, valN, List.map_nil]
    constructor
    · intro h; simp at h
    · intro h; exact absurd (isP_pos h) (by decide)
  | (a, b, c) :: L => by
    obtain ⟨i1, i0⟩ := acc_sing N L
    rw [vA_cons]
    cases a
    · rw [acc_cons_some (o := .sing) (u := 1) (by simp [lastO] <;> omega) (by simp [nextO]), acc_cons_some (o := .sing) (u := 0) (by simp [lastO] <;> omega) (by simp [nextO]), i1, i0, toNat_f, Nat.zero_add, isP_even]
      exact ⟨by omega, Iff.rfl⟩
    · rw [acc_cons_none (o := .sing) (s := 1) (by simp [lastO] <;> omega) (by simp [nextO]), acc_cons_some (o := .sing) (u := 1) (by simp [lastO] <;> omega) (by simp [nextO]), i1, toNat_t, isP_odd]
      exact ⟨by simp <;> omega, Iff.rfl⟩

theorem acc_flag1 (N : Nat) : ∀ (L : List Tri), accM .flag N 1 L = true
  | [] => by simp [accM, lastO]
  | (a, b, c) :: L => by
    rw [acc_cons_some (o := .flag) (u := 1) (by simp [lastO] <;> omega) (by simp [nextO])]
    exact acc_flag1 N L

theorem acc_flag (N : Nat) (L : List Tri) : accM .flag N 0 L = true ↔ (vA L).testBit 0 = true := by
  unfold vA
  rw [valN_bit]
  cases L with
  | nil => simp [accM, lastO]
  | cons t L =>
    obtain ⟨a, b, c⟩ := t
    cases a
    · rw [acc_cons_none (o := .flag) (by simp [lastO] <;> omega) (by simp [nextO])]; simp
    · rw [acc_cons_some (o := .flag) (u := 1) (by simp [lastO] <;> omega) (by simp [nextO]), acc_flag1]; simp

theorem acc_less (N : Nat) : ∀ (L : List Tri), (accM .less N 2 L = true ↔ (vA L = 0 ∧ vB L = 0)) ∧ (accM .less N 1 L = true ↔ (vA L = 0 ∧ IsP (vB L))) ∧ (accM .less N 0 L = true ↔ (IsP (vA L) ∧ IsP (vB L) ∧ vA L < vB L))
  | [] => by
    have h0 : ¬ IsP 0 := fun h => absurd (isP_pos h) (by decide)
    simp [accM, lastO, vA, vB, valN, h0]
  | (a, b, c) :: L => by
    obtain ⟨i2, i1, i0⟩ := acc_less N L
    rw [vA_cons, vB_cons]
    cases a <;> cases b <;> simp only [toNat_f, toNat_t, Nat.zero_add]
    · rw [acc_cons_some (o := .less) (u := 2) (by simp [lastO] <;> omega) (by simp [nextO]), acc_cons_some (o := .less) (u := 1) (by simp [lastO] <;> omega) (by simp [nextO]), acc_cons_some (o := .less) (u := 0) (by simp [lastO] <;> omega) (by simp [nextO]), i2, i1, i0, isP_even, isP_even]
      refine ⟨by omega, and_congr (by omega) Iff.rfl, and_congr Iff.rfl (and_congr Iff.rfl (by omega))⟩
    · rw [acc_cons_none (o := .less) (s := 2) (by simp [lastO] <;> omega) (by simp [nextO]), acc_cons_some (o := .less) (s := 1) (u := 2) (by simp [lastO] <;> omega) (by simp [nextO]), acc_cons_none (o := .less) (s := 0) (by simp [lastO] <;> omega) (by simp [nextO]), i2, isP_even, isP_odd]
      refine ⟨by simp <;> omega, by omega, ?_⟩
      constructor
      · intro h; cases h
      · rintro ⟨h1, h2, h3⟩
        have := isP_pos h1
        omega
    · rw [acc_cons_none (o := .less) (s := 2) (by simp [lastO] <;> omega) (by simp [nextO]), acc_cons_none (o := .less) (s := 1) (by simp [lastO] <;> omega) (by simp [nextO]), acc_cons_some (o := .less) (s := 0) (u := 1) (by simp [lastO] <;> omega) (by simp [nextO]), i1, isP_even, isP_odd]
      refine ⟨by simp <;> omega, by simp <;> omega, ?_⟩
      constructor
      · rintro ⟨h1, h2⟩
        have := isP_pos h2
        exact ⟨h1, h2, by omega⟩
      · rintro ⟨h1, h2, h3⟩
        exact ⟨h1, h2⟩
    · rw [acc_cons_none (o := .less) (s := 2) (by simp [lastO] <;> omega) (by simp [nextO]), acc_cons_none (o := .less) (s := 1) (by simp [lastO] <;> omega) (by simp [nextO]), acc_cons_none (o := .less) (s := 0) (by simp [lastO] <;> omega) (by simp [nextO]), isP_odd, isP_odd]
      refine ⟨by simp <;> omega, by simp <;> omega, by simp <;> omega⟩

theorem pow_step {N s : Nat} (h : s < N) : 2 ^ (N - s) = 2 * 2 ^ (N - (s + 1)) := by
  rw [show N - s = (N - (s + 1)) + 1 by omega, Nat.pow_succ]; omega

theorem acc_num (N : Nat) : ∀ (L : List Tri), (accM .num N (N + 1) L = true ↔ vA L = 0) ∧ ∀ s, s ≤ N → (accM .num N s L = true ↔ vA L = 2 ^ (N - s))
  | [] => by
    refine ⟨by simp [accM, lastO, vA, valN], fun s hs => ?_⟩
    have : 0 < 2 ^ (N - s) := Nat.pow_pos (by decide)
    rw [show accM .num N s [] = decide (s = N + 1) from rfl, decide_eq_true_eq]
    show s = N + 1 ↔ 0 = 2 ^ (N - s)
    constructor <;> intro h <;> omega
  | (a, b, c) :: L => by
    obtain ⟨i1, i0⟩ := acc_num N L
    rw [vA_cons]
    refine ⟨?_, fun s hs => ?_⟩
    · cases a
      · rw [acc_cons_some (o := .num) (u := N + 1) (by simp [lastO] <;> omega) (by simp [nextO]), i1, toNat_f]; omega
      · rw [acc_cons_none (o := .num) (by simp [lastO] <;> omega) (by simp [nextO]), toNat_t]; simp <;> omega
    · by_cases h : s = N
      · subst h
        rw [Nat.sub_self, Nat.pow_zero]
        cases a
        · rw [acc_cons_none (o := .num) (by simp [lastO] <;> omega) (by simp [nextO]), toNat_f]; simp <;> omega
        · rw [acc_cons_some (o := .num) (u := s + 1) (by simp [lastO] <;> omega) (by simp [nextO]), i1, toNat_t]; omega
      · have hlt : s < N := by omega
        rw [pow_step hlt]
        cases a
        · rw [acc_cons_some (o := .num) (u := s + 1) (by simp [lastO] <;> omega) (by simp [nextO, h] <;> omega), i0 (s + 1) (by omega), toNat_f]; omega
        · rw [acc_cons_none (o := .num) (by simp [lastO] <;> omega) (by simp [nextO, h] <;> omega), toNat_t]; simp <;> omega

theorem acc_plus1 (N : Nat) : ∀ (L : List Tri), (accM .plus N (N + 1) L = true ↔ (vA L = 0 ∧ vB L = 0)) ∧ ∀ s, 1 ≤ s → s ≤ N → (accM .plus N s L = true ↔ (vA L = 0 ∧ vB L = 2 ^ (N - s)))
  | [] => by
    refine ⟨by simp [accM, lastO, vA, vB, valN], fun s h1 hs => ?_⟩
    have : 0 < 2 ^ (N - s) := Nat.pow_pos (by decide)
    rw [show accM .plus N s [] = decide (s = N + 1) from rfl, decide_eq_true_eq]
    show s = N + 1 ↔ 0 = 0 ∧ 0 = 2 ^ (N - s)
    constructor <;> intro h <;> omega
  | (a, b, c) :: L => by
    obtain ⟨i1, i0⟩ := acc_plus1 N L
    rw [vA_cons, vB_cons]
    refine ⟨?_, fun s h1 hs => ?_⟩
    · cases a <;> cases b <;> simp only [toNat_f, toNat_t]
      · rw [acc_cons_some (o := .plus) (u := N + 1) (by simp [lastO]) (by simp [nextO]), i1]; omega
      all_goals (rw [acc_cons_none (o := .plus) (by simp [lastO]) (by simp [nextO])]; simp <;> omega)
    · have hs0 : ¬ s = 0 := by omega
      have hsn : ¬ s = N + 1 := by omega
      have hlt : s < N + 1 := by omega
      have hp : 0 < s := by omega
      cases a
      case true =>
        rw [acc_cons_none (o := .plus) (by simp [lastO]; omega) (by simp [nextO, hs0, hsn]), toNat_t]; simp <;> omega
      by_cases h : s = N
      · subst h
        rw [Nat.sub_self, Nat.pow_zero]
        cases b <;> simp only [toNat_f, toNat_t]
        · rw [acc_cons_none (o := .plus) (by simp [lastO] <;> omega) (by simp [nextO, hs0])]; simp <;> omega
        · rw [acc_cons_some (o := .plus) (u := s + 1) (by simp [lastO] <;> omega) (by simp [nextO, hs0, hp]), i1]; omega
      · have hlt2 : s < N := by omega
        rw [pow_step hlt2]
        cases b <;> simp only [toNat_f, toNat_t]
        · rw [acc_cons_some (o := .plus) (u := s + 1) (by simp [lastO] <;> omega) (by simp [nextO, hs0, hsn, hp, h] <;> omega), i0 (s + 1) (by omega) (by omega)]; omega
        · rw [acc_cons_none (o := .plus) (by simp [lastO] <;> omega) (by simp [nextO, hs0, hsn, hp, h] <;> omega)]; simp <;> omega

theorem acc_plus (N : Nat) : ∀ (L : List Tri), accM .plus N 0 L = true ↔ (IsP (vA L) ∧ vA L * 2 ^ N = vB L)
  | [] => by
    have h0 : ¬ IsP 0 := fun h => absurd (isP_pos h) (by decide)
    simp [accM, lastO, vA, vB, valN, h0]
  | (a, b, c) :: L => by
    have ih := acc_plus N L
    obtain ⟨i1, i0⟩ := acc_plus1 N L
    rw [vA_cons, vB_cons]
    by_cases hN : N = 0
    · subst hN
      rw [Nat.pow_zero, Nat.mul_one] at ih ⊢
      cases a <;> cases b <;> simp only [toNat_f, toNat_t, Nat.zero_add]
      · rw [acc_cons_some (o := .plus) (u := 0) (by simp [lastO]) (by simp [nextO]), ih, isP_even]
        exact and_congr Iff.rfl (by omega)
      · rw [acc_cons_none (o := .plus) (by simp [lastO]) (by simp [nextO])]
        constructor
        · intro h; cases h
        · rintro ⟨_, h⟩; omega
      · rw [acc_cons_none (o := .plus) (by simp [lastO]) (by simp [nextO])]
        constructor
        · intro h; cases h
        · rintro ⟨_, h⟩; omega
      · rw [acc_cons_some (o := .plus) (u := 1) (by simp [lastO]) (by simp [nextO]), i1, isP_odd]
        constructor
        · rintro ⟨h1, h2⟩; exact ⟨h1, by omega⟩
        · rintro ⟨h1, h2⟩; exact ⟨h1, by omega⟩
    · have hpw : 2 ^ N = 2 * 2 ^ (N - 1) := by
        rw [show N = (N - 1) + 1 by omega, Nat.pow_succ, Nat.add_sub_cancel]; omega
      have i := i0 1 (by omega) (by omega)
      cases a <;> cases b <;> simp only [toNat_f, toNat_t, Nat.zero_add]
      · rw [acc_cons_some (o := .plus) (u := 0) (by simp [lastO]) (by simp [nextO]), ih, isP_even, Nat.mul_assoc]
        exact and_congr Iff.rfl (by omega)
      · rw [acc_cons_none (o := .plus) (by simp [lastO]) (by simp [nextO])]
        constructor
        · intro h; cases h
        · rintro ⟨_, h⟩
          rw [Nat.mul_assoc] at h; omega
      · rw [acc_cons_some (o := .plus) (u := 1) (by simp [lastO]) (by simp [nextO, hN]), i, isP_odd]
        constructor
        · rintro ⟨h1, h2⟩; exact ⟨h1, by rw [h1, h2]; omega⟩
        · rintro ⟨h1, h2⟩
          rw [h1] at h2
          exact ⟨h1, by omega⟩
      · rw [acc_cons_none (o := .plus) (by simp [lastO]) (by simp [nextO, hN])]
        constructor
        · intro h; cases h
        · rintro ⟨_, h⟩
          rw [hpw, Nat.mul_left_comm] at h; omega

/-- What an atom says of the numbers. -/
def holdsO (o : AOp) (N a b d : Nat) : Bool :=
  match o with
  | .tru => true
  | .sub => decide (andN a b = 0)
  | .non => decide (a = 0)
  | .uni => decide (d = a ||| b)
  | .int => decide (d = a &&& b)
  | .mns => decide (d = andN a b)
  | .sing => decide (0 < a ∧ a &&& (a - 1) = 0)
  | .flag => a.testBit 0
  | .less => decide (0 < a ∧ a &&& (a - 1) = 0) && decide (0 < b ∧ b &&& (b - 1) = 0) && decide (a < b)
  | .plus => decide (0 < a ∧ a &&& (a - 1) = 0) && decide (a * 2 ^ N = b)
  | .num => decide (a = 2 ^ N)

theorem bit_of {f : Tri → Bool} {L : List Tri} (k : Nat) : (valN (L.map f)).testBit k = (L[k]?.map f).getD false := by
  rw [valN_bit, List.getD_eq_getElem?_getD, List.getElem?_map]

/-- Two numbers are one just if each letter's bits are. -/
theorem each_eq {L : List Tri} {x y : Nat} {f : Tri → Bool} (h : ∀ k, x.testBit k = y.testBit k ↔ ∀ t, L[k]? = some t → f t = true) : x = y ↔ ∀ t ∈ L, f t = true := by
  constructor
  · rintro rfl t ht
    obtain ⟨k, hk⟩ := List.getElem?_of_mem ht
    exact (h k).1 rfl t hk
  · intro hh
    exact Nat.eq_of_testBit_eq fun k => (h k).2 fun t ht => hh t (List.mem_of_getElem? ht)

theorem holds_law (o : AOp) (N : Nat) (L : List Tri) : accM o N 0 L = holdsO o N (vA L) (vB L) (vC L) := by
  rw [Bool.eq_iff_iff]
  cases o with
  | tru =>
    rw [acc_each (f := fun _ => true) (by rfl) (fun a b c => by simp [nextO])]
    simp [holdsO]
  | sub =>
    rw [acc_each (f := fun t => !t.1 || t.2.1) (by rfl) (fun a b c => by simp [nextO])]
    show _ ↔ decide (andN (vA L) (vB L) = 0) = true
    rw [decide_eq_true_eq]
    refine (each_eq fun k => ?_).symm
    rw [andN_bit, Nat.zero_testBit, vA, vB, bit_of, bit_of]
    cases h : L[k]? with
    | none => simp
    | some t => obtain ⟨a, b, c⟩ := t; cases a <;> cases b <;> simp
  | non =>
    rw [acc_each (f := fun t => !t.1) (by rfl) (fun a b c => by simp [nextO])]
    show _ ↔ decide (vA L = 0) = true
    rw [decide_eq_true_eq]
    refine (each_eq fun k => ?_).symm
    rw [Nat.zero_testBit, vA, bit_of]
    cases h : L[k]? with
    | none => simp
    | some t => obtain ⟨a, b, c⟩ := t; cases a <;> simp
  | uni =>
    rw [acc_each (f := fun t => t.2.2 == (t.1 || t.2.1)) (by rfl) (fun a b c => by simp [nextO])]
    show _ ↔ decide (vC L = vA L ||| vB L) = true
    rw [decide_eq_true_eq]
    refine (each_eq fun k => ?_).symm
    rw [Nat.testBit_or, vA, vB, vC, bit_of, bit_of, bit_of]
    cases h : L[k]? with
    | none => simp
    | some t => obtain ⟨a, b, c⟩ := t; cases a <;> cases b <;> cases c <;> simp
  | int =>
    rw [acc_each (f := fun t => t.2.2 == (t.1 && t.2.1)) (by rfl) (fun a b c => by simp [nextO])]
    show _ ↔ decide (vC L = vA L &&& vB L) = true
    rw [decide_eq_true_eq]
    refine (each_eq fun k => ?_).symm
    rw [Nat.testBit_and, vA, vB, vC, bit_of, bit_of, bit_of]
    cases h : L[k]? with
    | none => simp
    | some t => obtain ⟨a, b, c⟩ := t; cases a <;> cases b <;> cases c <;> simp
  | mns =>
    rw [acc_each (f := fun t => t.2.2 == (t.1 && !t.2.1)) (by rfl) (fun a b c => by simp [nextO])]
    show _ ↔ decide (vC L = andN (vA L) (vB L)) = true
    rw [decide_eq_true_eq]
    refine (each_eq fun k => ?_).symm
    rw [andN_bit, vA, vB, vC, bit_of, bit_of, bit_of]
    cases h : L[k]? with
    | none => simp
    | some t => obtain ⟨a, b, c⟩ := t; cases a <;> cases b <;> cases c <;> simp
  | sing =>
    show _ ↔ decide (0 < vA L ∧ vA L &&& (vA L - 1) = 0) = true
    rw [decide_eq_true_eq, sing_iff]
    exact (acc_sing N L).2
  | flag => exact acc_flag N L
  | less =>
    show _ ↔ (decide (0 < vA L ∧ vA L &&& (vA L - 1) = 0) && decide (0 < vB L ∧ vB L &&& (vB L - 1) = 0) && decide (vA L < vB L)) = true
    rw [Bool.and_eq_true, Bool.and_eq_true, decide_eq_true_eq, decide_eq_true_eq, decide_eq_true_eq, sing_iff, sing_iff, and_assoc]
    exact (acc_less N L).2.2
  | plus =>
    show _ ↔ (decide (0 < vA L ∧ vA L &&& (vA L - 1) = 0) && decide (vA L * 2 ^ N = vB L)) = true
    rw [Bool.and_eq_true, decide_eq_true_eq, decide_eq_true_eq, sing_iff]
    exact acc_plus N L
  | num =>
    show _ ↔ decide (vA L = 2 ^ N) = true
    rw [decide_eq_true_eq]
    exact (acc_num N L).2 0 (Nat.zero_le _)

end Go.Proofs.Ytgpgbkoaopfjkaa
