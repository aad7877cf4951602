/- The plain notions of chapter 16: nodes, lists of nodes, what a node gives a letter. No program in sight. -/
namespace Go.Proofs.Ytohhjdadhdibfaa

/-- A node: a value, or a track and two nodes' numbers. -/
inductive Nd where
  | leaf (v : Int)
  | fork (t lo hi : Nat)
  deriving DecidableEq

/-- The track of number i is greater than t (or it is a leaf). -/
def Under (L : List Nd) (i t : Nat) : Prop := i < L.length ∧ ∀ u lo hi, L[i]? = some (.fork u lo hi) → t < u

/-- May this node stand as number i? -/
def NdOk (T : Nat) (L : List Nd) (i : Nat) : Nd → Prop
  | .leaf v => 0 ≤ v ∧ v ≤ 1099511627776
  | .fork t lo hi => t < T ∧ lo < i ∧ hi < i ∧ lo ≠ hi ∧ Under L lo t ∧ Under L hi t

/-- A store's nodes: each may be, none is there twice. -/
structure WF (T : Nat) (L : List Nd) : Prop where
  six : T ≤ 6
  ok : ∀ i n, L[i]? = some n → NdOk T L i n
  nodup : L.Nodup

theorem WF.nil {T : Nat} (h : T ≤ 6) : WF T [] := ⟨h, by simp, by simp⟩

theorem Under.snoc {L : List Nd} {i t : Nat} (n : Nd) (h : Under L i t) : Under (L ++ [n]) i t := by
  refine ⟨by have := h.1; simp; omega, fun u lo hi e => h.2 u lo hi ?_⟩
  rwa [List.getElem?_append_left h.1] at e

theorem NdOk.snoc {T : Nat} {L : List Nd} {i : Nat} {n : Nd} (m : Nd) (h : NdOk T L i n) : NdOk T (L ++ [m]) i n := by
  cases n with
  | leaf v => exact h
  | fork t lo hi => obtain ⟨a, b, c, d, e, f⟩ := h; exact ⟨a, b, c, d, e.snoc m, f.snoc m⟩

theorem WF.snoc {T : Nat} {L : List Nd} {n : Nd} (h : WF T L) (hn : NdOk T L L.length n) (hm : n ∉ L) : WF T (L ++ [n]) := by
  refine ⟨h.six, fun i m hi => ?_, ?_⟩
  · by_cases hlt : i < L.length
    · rw [List.getElem?_append_left hlt] at hi
      exact (h.ok i m hi).snoc n
    · have : i = L.length := by
        have := (List.getElem?_eq_some_iff.1 hi).1
        simp at this; omega
      subst this
      simp at hi
      subst hi
      exact hn.snoc n
  · rw [List.nodup_append]
    refine ⟨h.nodup, by simp, ?_⟩
    intro a ha b hb e
    simp at hb
    subst hb; subst e
    exact hm ha

/-- The number of a node; it is put behind, if it is not there. -/
def idOf (L : List Nd) (n : Nd) : List Nd × Nat := if n ∈ L then (L, L.idxOf n) else (L ++ [n], L.length)

theorem idOf_mem {L : List Nd} {n : Nd} (h : n ∈ L) : idOf L n = (L, L.idxOf n) := if_pos h
theorem idOf_new {L : List Nd} {n : Nd} (h : n ∉ L) : idOf L n = (L ++ [n], L.length) := if_neg h

theorem idOf_get {L : List Nd} {n : Nd} : (idOf L n).1[(idOf L n).2]? = some n := by
  by_cases h : n ∈ L
  · rw [idOf_mem h]
    have := List.idxOf_lt_length_of_mem h
    simp [List.getElem?_eq_getElem this]
  · rw [idOf_new h]; simp

theorem idOf_lt {L : List Nd} {n : Nd} : (idOf L n).2 < (idOf L n).1.length := (List.getElem?_eq_some_iff.1 idOf_get).1

theorem idOf_wf {T : Nat} {L : List Nd} {n : Nd} (h : WF T L) (hn : NdOk T L L.length n) : WF T (idOf L n).1 := by
  by_cases hm : n ∈ L
  · rw [idOf_mem hm]; exact h
  · rw [idOf_new hm]; exact h.snoc hn hm

theorem idOf_len {L : List Nd} {n : Nd} : L.length ≤ (idOf L n).1.length ∧ (idOf L n).1.length ≤ L.length + 1 := by
  by_cases hm : n ∈ L
  · rw [idOf_mem hm]; simp
  · rw [idOf_new hm]; simp

theorem idOf_prefix {L : List Nd} {n : Nd} : L <+: (idOf L n).1 := by
  by_cases hm : n ∈ L
  · rw [idOf_mem hm]; exact List.prefix_rfl
  · rw [idOf_new hm]; exact List.prefix_append _ _

/-- What node i gives letter c. -/
def ev (L : List Nd) (c : Nat) : Nat → Nat → Int
  | 0, _ => -1
  | f + 1, i => match L[i]? with
    | some (.leaf v) => v
    | some (.fork t lo hi) => ev L c f (if c.testBit t then hi else lo)
    | none => -1

theorem ev_stable {T : Nat} {L : List Nd} (h : WF T L) (c : Nat) : ∀ (f g i : Nat), i < f → i < g → ev L c f i = ev L c g i
  | 0, _, _, h1, _ => absurd h1 (Nat.not_lt_zero _)
  | _, 0, _, _, h2 => absurd h2 (Nat.not_lt_zero _)
  | f + 1, g + 1, i, h1, h2 => by
    unfold ev
    cases hi : L[i]? with
    | none => rfl
    | some n => cases n with
      | leaf v => rfl
      | fork t lo hi' =>
        have ok := h.ok i _ hi
        have h3 : (if c.testBit t then hi' else lo) < i := by split; exact ok.2.2.1; exact ok.2.1
        exact ev_stable h c f g _ (by omega) (by omega)

/-- What node i gives letter c. -/
def val (L : List Nd) (i c : Nat) : Int := ev L c (i + 1) i

theorem val_leaf {L : List Nd} {i c : Nat} {v : Int} (hi : L[i]? = some (.leaf v)) : val L i c = v := by
  unfold val ev; rw [hi]

theorem val_fork {T : Nat} {L : List Nd} (h : WF T L) {i c t lo hi : Nat} (hn : L[i]? = some (.fork t lo hi)) : val L i c = val L (if c.testBit t then hi else lo) c := by
  conv => lhs; unfold val ev
  rw [hn]
  have ok := h.ok i _ hn
  have h3 : (if c.testBit t then hi else lo) < i := by split; exact ok.2.2.1; exact ok.2.1
  exact ev_stable h c _ _ _ h3 (by omega)

end Go.Proofs.Ytohhjdadhdibfaa
