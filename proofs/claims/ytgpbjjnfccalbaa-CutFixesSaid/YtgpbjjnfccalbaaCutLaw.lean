/- The plain law of chapter 18: fixing a fixed track, two tracks, all tracks. -/
import Derived.Test.YtgpbjjnfccalbaaCut2
namespace Go.Proofs.Ytgpbjjnfccalbaa

variable {T : Nat} {L L' : List Nd}

theorem setB_setB (c t : Nat) (x y : Bool) : setB (setB c t x) t y = setB c t y := by
  apply Nat.eq_of_testBit_eq
  intro i
  by_cases h : i = t
  · subst h; rw [setB_at, setB_at]
  · rw [setB_ne _ _ _ h, setB_ne _ _ _ h, setB_ne _ _ _ h]

theorem setB_comm (c s t : Nat) (x y : Bool) (h : s ≠ t) : setB (setB c s x) t y = setB (setB c t y) s x := by
  apply Nat.eq_of_testBit_eq
  intro i
  by_cases h1 : i = t
  · subst h1; rw [setB_at, setB_ne _ _ _ (Ne.symm h), setB_at]
  · rw [setB_ne _ _ _ h1]
    by_cases h2 : i = s
    · subst h2; rw [setB_at, setB_at]
    · rw [setB_ne _ _ _ h2, setB_ne _ _ _ h2, setB_ne _ _ _ h1]

theorem setB_lt {c t : Nat} (hc : c < 2 ^ T) (ht : t < T) (b : Bool) : setB c t b < 2 ^ T := by
  apply Nat.lt_pow_two_of_testBit
  intro i hi
  rw [setB_ne _ _ _ (by omega)]
  exact Nat.testBit_lt_two_pow (Nat.lt_of_lt_of_le hc (Nat.pow_le_pow_right (by decide) hi))

/-- What is fixed is fixed: in a store that has grown, Fix of it, whichever way, is itself. -/
theorem fix_of_fixed {f t b j : Nat} {up up' : Bool} (h : WF T L) (h' : WF T L') (hp : L <+: L') (_ : f < L.length) (hb : FixOk L f t up b) (hj : FixOk L' b t up' j) : j = b :=
  canon h' _ j b (Nat.le_refl _) hj.lt (Nat.lt_of_lt_of_le hb.lt hp.length_le) fun c => by
    rw [hj.val, val_prefix h h' hp _ b hb.lt, val_prefix h h' hp _ b hb.lt, hb.val, hb.val, setB_setB]

/-- In which order two tracks are fixed. -/
theorem fix_order {L1 L2 L3 L4 : List Nd} {f a b x y u v : Nat} {p q : Bool} (h1 : WF T L1) (h2 : WF T L2) (h3 : WF T L3) (h4 : WF T L4) (p12 : L1 <+: L2) (p23 : L2 <+: L3) (p34 : L3 <+: L4) (hf : f < L1.length) (hab : a ≠ b)
    (hx : FixOk L1 f a p x) (hy : FixOk L2 x b q y) (hu : FixOk L3 f b q u) (hv : FixOk L4 u a p v) : y = v :=
  canon h4 _ y v (Nat.le_refl _) (Nat.lt_of_lt_of_le hy.lt (p23.trans p34).length_le) hv.lt fun c => by
    have f3 : f < L3.length := Nat.lt_of_lt_of_le hf (p12.trans p23).length_le
    rw [hv.val, val_prefix h3 h4 p34 _ u hu.lt, hu.val, val_prefix h1 h3 (p12.trans p23) _ f hf]
    rw [val_prefix h2 h4 (p23.trans p34) _ y hy.lt, hy.val, val_prefix h1 h2 p12 _ x hx.lt, hx.val, setB_comm _ _ _ _ _ (Ne.symm hab)]

/-- A node that hangs on no track below T is a leaf. -/
theorem no_fork (h : WF T L) {k t lo hi : Nat} (hk : L[k]? = some (.fork t lo hi)) (hfree : ∀ c b, val L k (setB c t b) = val L k c) : False := by
  have ok := h.ok k _ hk
  exact ok.2.2.2.1 (canon h _ lo hi (Nat.le_refl _) ok.2.2.2.2.1.1 ok.2.2.2.2.2.1 (kids_of_free h hk hfree))

/-- c, its bits below t being those of d. -/
def mixB (c d : Nat) : Nat → Nat
  | 0 => c
  | t + 1 => setB (mixB c d t) t (d.testBit t)

theorem mixB_bit (c d : Nat) : ∀ t i, (mixB c d t).testBit i = if i < t then d.testBit i else c.testBit i
  | 0, i => by simp [mixB]
  | t + 1, i => by
    unfold mixB
    by_cases h : i = t
    · subst h; rw [setB_at, if_pos (by omega)]
    · rw [setB_ne _ _ _ h, mixB_bit c d t i]
      by_cases h2 : i < t
      · rw [if_pos h2, if_pos (by omega)]
      · rw [if_neg h2, if_neg (by omega)]

/-- With all tracks fixed there is a leaf. -/
theorem all_fixed (h : WF T L) {x f d : Nat} (hx : x < L.length) (hv : ∀ c, val L x c = val L f (mixB c d T)) : trackA L x = -1 ∧ val L x 0 = val L f (d % 2 ^ T) := by
  constructor
  · obtain ⟨n, hn⟩ : ∃ n, L[x]? = some n := ⟨_, List.getElem?_eq_getElem hx⟩
    rw [trackA_nat hn]
    cases n with
    | leaf v => rfl
    | fork t lo hi =>
      exfalso
      have ok := h.ok x _ hn
      refine no_fork h hn fun c b => ?_
      rw [hv, hv]
      congr 1
      apply Nat.eq_of_testBit_eq
      intro i
      rw [mixB_bit, mixB_bit]
      by_cases hi' : i < T
      · rw [if_pos hi', if_pos hi']
      · rw [if_neg hi', if_neg hi', setB_ne _ _ _ (by have := ok.1; omega)]
  · rw [hv, ← val_mod h (mixB 0 d T)]
    congr 1
    apply Nat.eq_of_testBit_eq
    intro i
    rw [Nat.testBit_mod_two_pow, Nat.testBit_mod_two_pow, mixB_bit]
    by_cases hi : i < T
    · simp [hi]
    · simp [hi]

end Go.Proofs.Ytgpbjjnfccalbaa
