/- The plain law of chapter 16: two nodes that give the same are one; what is made of a row gives that row, and is made once. -/
import Derived.Test.YtohhjdadhdibfaaNode
namespace Go.Proofs.Ytohhjdadhdibfaa

/-- The tracks from t on are alike. -/
def Agree (t c d : Nat) : Prop := ∀ b, t ≤ b → c.testBit b = d.testBit b

/-- The track of i is t or greater (or it is a leaf). -/
def From (L : List Nd) (i t : Nat) : Prop := ∀ u lo hi, L[i]? = some (.fork u lo hi) → t ≤ u

theorem Under.from {L : List Nd} {i t : Nat} (h : Under L i t) : From L i (t + 1) := fun u lo hi e => h.2 u lo hi e

theorem val_agree {T : Nat} {L : List Nd} (h : WF T L) : ∀ (i t c d : Nat), From L i t → Agree t c d → val L i c = val L i d := by
  intro i
  induction i using Nat.strongRecOn with
  | ind i ih =>
    intro t c d hf ha
    cases hi : L[i]? with
    | none => unfold val ev; rw [hi]
    | some n =>
      cases n with
      | leaf v => rw [val_leaf hi, val_leaf hi]
      | fork u lo hi' =>
        have ok := h.ok i _ hi
        have hu := hf u lo hi' hi
        rw [val_fork h hi, val_fork h hi, ← ha u hu]
        have ha' : Agree (u + 1) c d := fun b hb => ha b (by omega)
        split
        · exact ih _ ok.2.2.1 _ c d ok.2.2.2.2.2.from ha'
        · exact ih _ ok.2.1 _ c d ok.2.2.2.2.1.from ha'

/-- c, bit t being b. -/
def setB (c t : Nat) (b : Bool) : Nat := (c ||| 2 ^ t) ^^^ (if b then 0 else 2 ^ t)

theorem setB_at (c t : Nat) (b : Bool) : (setB c t b).testBit t = b := by
  unfold setB
  cases b <;> simp [Nat.testBit_xor, Nat.testBit_or, Nat.testBit_two_pow_self]

theorem setB_ne (c t : Nat) (b : Bool) {i : Nat} (h : i ≠ t) : (setB c t b).testBit i = c.testBit i := by
  unfold setB
  have h1 : (2 ^ t).testBit i = false := by rw [Nat.testBit_two_pow]; simp; omega
  cases b <;> simp [Nat.testBit_xor, Nat.testBit_or, h1]

theorem setB_agree (c t : Nat) (b : Bool) : Agree (t + 1) (setB c t b) c := fun i hi => setB_ne c t b (by omega)

/-- A fork that gives all letters the same two ways has two children that are one function. -/
theorem kids_of_free {T : Nat} {L : List Nd} (h : WF T L) {i t lo hi : Nat} (hi' : L[i]? = some (.fork t lo hi)) (hfree : ∀ c b, val L i (setB c t b) = val L i c) (c : Nat) : val L lo c = val L hi c := by
  have ok := h.ok i _ hi'
  have h1 := hfree c true
  have h2 := hfree c false
  rw [val_fork h hi', setB_at, if_pos rfl, val_agree h hi _ _ c ok.2.2.2.2.2.from (setB_agree c t true)] at h1
  rw [val_fork h hi', setB_at, if_neg (by decide), val_agree h lo _ _ c ok.2.2.2.2.1.from (setB_agree c t false)] at h2
  rw [h1, h2]

theorem nodup_inj {α : Type} {l : List α} (h : l.Nodup) {i j : Nat} (hi : i < l.length) (hj : j < l.length) (e : l[i] = l[j]) : i = j := by
  have := List.pairwise_iff_getElem.1 h
  rcases Nat.lt_trichotomy i j with h1 | h1 | h1
  · exact absurd e (this i j hi hj h1)
  · exact h1
  · exact absurd e.symm (this j i hj hi h1)

/-- Two nodes that give every letter the same are one. -/
theorem canon {T : Nat} {L : List Nd} (h : WF T L) : ∀ (n i j : Nat), i + j ≤ n → i < L.length → j < L.length → (∀ c, val L i c = val L j c) → i = j := by
  intro n
  induction n using Nat.strongRecOn with
  | ind n ih =>
    intro i j hn hi hj hv
    have inj : ∀ x y : Nd, L[i]? = some x → L[j]? = some y → x = y → i = j := by
      intro x y hx hy e
      subst e
      have h1 := List.getElem?_eq_some_iff.1 hx
      have h2 := List.getElem?_eq_some_iff.1 hy
      exact nodup_inj h.nodup hi hj (h1.2.trans h2.2.symm)
    obtain ⟨x, hx⟩ : ∃ x, L[i]? = some x := ⟨_, List.getElem?_eq_getElem hi⟩
    obtain ⟨y, hy⟩ : ∃ y, L[j]? = some y := ⟨_, List.getElem?_eq_getElem hj⟩
    -- a fork that does not look at its own track can not be
    have nofree : ∀ k t lo hi', k ≤ n → L[k]? = some (.fork t lo hi') → (∀ c b, val L k (setB c t b) = val L k c) → (lo + hi' < n) → False := by
      intro k t lo hi' hkn hk hfree hlt
      have ok := h.ok k _ hk
      exact ok.2.2.2.1 (ih (lo + hi') hlt lo hi' (Nat.le_refl _) ok.2.2.2.2.1.1 ok.2.2.2.2.2.1 (kids_of_free h hk hfree))
    cases x with
    | leaf v =>
      cases y with
      | leaf u =>
        have := hv 0
        rw [val_leaf hx, val_leaf hy] at this
        exact inj _ _ hx hy (by rw [this])
      | fork t lo hi' =>
        exfalso
        have ok := h.ok j _ hy
        have hc : ∀ c, val L j c = v := fun c => by rw [← hv c, val_leaf hx]
        have hfree : ∀ c b, val L j (setB c t b) = val L j c := fun c b => by rw [hc, hc]
        by_cases hlt : lo + hi' < n
        · exact nofree j t lo hi' (by omega) hy hfree hlt
        · -- lo + hi' can be as great as n only by double counting; go by the greater of the two
          have hkf := kids_of_free h hy hfree
          have cl : ∀ c, val L lo c = v := fun c => by
            have := hc (setB c t false)
            rw [val_fork h hy, setB_at, if_neg (by decide), val_agree h lo _ _ c ok.2.2.2.2.1.from (setB_agree c t false)] at this
            exact this
          have chi : ∀ c, val L hi' c = v := fun c => by rw [← hkf c]; exact cl c
          have e1 := ih (i + lo) (by have := ok.2.1; omega) i lo (Nat.le_refl _) hi ok.2.2.2.2.1.1 (fun c => by rw [cl, val_leaf hx])
          have e2 := ih (i + hi') (by have := ok.2.2.1; omega) i hi' (Nat.le_refl _) hi ok.2.2.2.2.2.1 (fun c => by rw [chi, val_leaf hx])
          exact ok.2.2.2.1 (e1.symm.trans e2)
    | fork t lo hi' =>
      have ok := h.ok i _ hx
      cases y with
      | leaf u =>
        exfalso
        have hc : ∀ c, val L i c = u := fun c => by rw [hv c, val_leaf hy]
        have hfree : ∀ c b, val L i (setB c t b) = val L i c := fun c b => by rw [hc, hc]
        have hkf := kids_of_free h hx hfree
        have cl : ∀ c, val L lo c = u := fun c => by
          have := hc (setB c t false)
          rw [val_fork h hx, setB_at, if_neg (by decide), val_agree h lo _ _ c ok.2.2.2.2.1.from (setB_agree c t false)] at this
          exact this
        have chi : ∀ c, val L hi' c = u := fun c => by rw [← hkf c]; exact cl c
        have e1 := ih (lo + j) (by have := ok.2.1; omega) lo j (Nat.le_refl _) ok.2.2.2.2.1.1 hj (fun c => by rw [cl, val_leaf hy])
        have e2 := ih (hi' + j) (by have := ok.2.2.1; omega) hi' j (Nat.le_refl _) ok.2.2.2.2.2.1 hj (fun c => by rw [chi, val_leaf hy])
        exact ok.2.2.2.1 (e1.trans e2.symm)
      | fork s lo2 hi2 =>
        have ok2 := h.ok j _ hy
        rcases Nat.lt_trichotomy t s with hts | hts | hts
        · -- j does not look at track t
          exfalso
          have hfree : ∀ c b, val L i (setB c t b) = val L i c := fun c b => by
            rw [hv, hv]
            exact val_agree h j (t + 1) _ _ (fun u _ _ e => by rw [hy] at e; cases e; omega) (setB_agree c t b)
          have hkf := kids_of_free h hx hfree
          have cl : ∀ c, val L lo c = val L j c := fun c => by
            have := hv (setB c t false)
            rw [val_fork h hx, setB_at, if_neg (by decide), val_agree h lo _ _ c ok.2.2.2.2.1.from (setB_agree c t false),
              val_agree h j (t + 1) _ c (fun u _ _ e => by rw [hy] at e; cases e; omega) (setB_agree c t false)] at this
            exact this
          have e1 := ih (lo + j) (by have := ok.2.1; omega) lo j (Nat.le_refl _) ok.2.2.2.2.1.1 hj cl
          have e2 := ih (hi' + j) (by have := ok.2.2.1; omega) hi' j (Nat.le_refl _) ok.2.2.2.2.2.1 hj (fun c => by rw [← hkf c]; exact cl c)
          exact ok.2.2.2.1 (e1.trans e2.symm)
        · subst hts
          have cl : ∀ c, val L lo c = val L lo2 c := fun c => by
            have := hv (setB c t false)
            rw [val_fork h hx, val_fork h hy, setB_at, if_neg (by decide), if_neg (by decide), val_agree h lo _ _ c ok.2.2.2.2.1.from (setB_agree c t false), val_agree h lo2 _ _ c ok2.2.2.2.2.1.from (setB_agree c t false)] at this
            exact this
          have chi : ∀ c, val L hi' c = val L hi2 c := fun c => by
            have := hv (setB c t true)
            rw [val_fork h hx, val_fork h hy, setB_at, if_pos rfl, if_pos rfl, val_agree h hi' _ _ c ok.2.2.2.2.2.from (setB_agree c t true), val_agree h hi2 _ _ c ok2.2.2.2.2.2.from (setB_agree c t true)] at this
            exact this
          have e1 := ih (lo + lo2) (by have := ok.2.1; have := ok2.2.1; omega) lo lo2 (Nat.le_refl _) ok.2.2.2.2.1.1 ok2.2.2.2.2.1.1 cl
          have e2 := ih (hi' + hi2) (by have := ok.2.2.1; have := ok2.2.2.1; omega) hi' hi2 (Nat.le_refl _) ok.2.2.2.2.2.1 ok2.2.2.2.2.2.1 chi
          exact inj _ _ hx hy (by rw [e1, e2])
        · exfalso
          have hfree : ∀ c b, val L j (setB c s b) = val L j c := fun c b => by
            rw [← hv, ← hv]
            exact val_agree h i (s + 1) _ _ (fun u _ _ e => by rw [hx] at e; cases e; omega) (setB_agree c s b)
          have hkf := kids_of_free h hy hfree
          have cl : ∀ c, val L lo2 c = val L i c := fun c => by
            have := hv (setB c s false)
            rw [val_fork h hy, setB_at, if_neg (by decide), val_agree h lo2 _ _ c ok2.2.2.2.2.1.from (setB_agree c s false),
              val_agree h i (s + 1) _ c (fun u _ _ e => by rw [hx] at e; cases e; omega) (setB_agree c s false)] at this
            exact this.symm
          have e1 := ih (i + lo2) (by have := ok2.2.1; omega) i lo2 (Nat.le_refl _) hi ok2.2.2.2.2.1.1 (fun c => (cl c).symm)
          have e2 := ih (i + hi2) (by have := ok2.2.2.1; omega) i hi2 (Nat.le_refl _) hi ok2.2.2.2.2.2.1 (fun c => by rw [← hkf c]; exact (cl c).symm)
          exact ok2.2.2.2.1 (e1.symm.trans e2)

/-- What a node gives hangs on the low T bits alone. -/
theorem val_mod {T : Nat} {L : List Nd} (h : WF T L) (c : Nat) : ∀ i, val L i (c % 2 ^ T) = val L i c := by
  intro i
  induction i using Nat.strongRecOn with
  | ind i ih =>
    cases hi : L[i]? with
    | none => unfold val ev; rw [hi]
    | some n =>
      cases n with
      | leaf v => rw [val_leaf hi, val_leaf hi]
      | fork u lo hi' =>
        have ok := h.ok i _ hi
        rw [val_fork h hi, val_fork h hi, Nat.testBit_mod_two_pow]
        simp only [ok.1, decide_true, Bool.true_and]
        split
        · exact ih _ ok.2.2.1
        · exact ih _ ok.2.1

theorem canon_row {T : Nat} {L : List Nd} (h : WF T L) {i j : Nat} (hi : i < L.length) (hj : j < L.length) (hv : ∀ c, c < 2 ^ T → val L i c = val L j c) : i = j :=
  canon h _ i j (Nat.le_refl _) hi hj fun c => by
    rw [← val_mod h c i, ← val_mod h c j]
    exact hv _ (Nat.mod_lt _ (Nat.pow_pos (by decide)))

/-- A store that has grown gives what it gave. -/
theorem val_prefix {T : Nat} {L L' : List Nd} (h : WF T L) (h' : WF T L') (hp : L <+: L') (c : Nat) : ∀ i, i < L.length → val L' i c = val L i c := by
  intro i
  induction i using Nat.strongRecOn with
  | ind i ih =>
    intro hlt
    have hg : L'[i]? = L[i]? := by
      obtain ⟨M, rfl⟩ := hp
      exact List.getElem?_append_left hlt
    cases hi : L[i]? with
    | none => rw [List.getElem?_eq_none_iff] at hi; omega
    | some n =>
      rw [hi] at hg
      cases n with
      | leaf v => rw [val_leaf hi, val_leaf hg]
      | fork u lo hi' =>
        have ok := h.ok i _ hi
        rw [val_fork h hi, val_fork h' hg]
        split
        · exact ih _ ok.2.2.1 ok.2.2.2.2.2.1
        · exact ih _ ok.2.1 ok.2.2.2.2.1.1

end Go.Proofs.Ytohhjdadhdibfaa
