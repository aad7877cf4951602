/- The walk of LookLeast. -/
import Derived.Test.YtbmpnfibebiaeaaKnown21
namespace Go.Proofs.Ytbmpnfibebiaeaa
open Go.RowKit

attribute [local irreducible] wpQuiet wpPlan wpPlanZ wpUp

variable {A : Au}

theorem word_in (A : Au) (l : List Int) : (∀ c ∈ l, 0 ≤ c ∧ c < ((2 ^ A.T.toNat : Nat) : Int)) ∨ runA A l = -1 := by
  induction l using snoc_ind with
  | h0 => exact .inl (by simp)
  | h1 l x ih =>
    have e1 : runA A (l ++ [x]) = stepA A (runA A l) x := by simp [runA, List.foldl_append]
    rcases ih with ih | ih
    · by_cases hx : 0 ≤ x ∧ x < ((2 ^ A.T.toNat : Nat) : Int)
      · left
        intro c hc
        rcases List.mem_append.1 hc with hc | hc
        · exact ih c hc
        · simp at hc; subst hc; exact hx
      · right
        rw [e1]
        unfold stepA
        rw [if_neg]
        rintro ⟨_, h1, h2⟩
        exact hx ⟨h1, by rw [Int.natCast_pow]; exact h2⟩
    · right
      rw [e1, ih]
      exact step_none A (by decide) x

theorem acc_word (h : AuOk A) {l : List Int} (ha : accA A (runA A l) = true) : (∀ c ∈ l, 0 ≤ c ∧ c < ((2 ^ A.T.toNat : Nat) : Int)) ∧ InR A (l.map Int.toNat) ∧ ac A (runN A 0 (l.map Int.toNat)) = true := by
  rcases word_in A l with hl | hl
  · rw [runA_run h l hl, accA_ac (runN_lt h _ h.1.2.2.1)] at ha
    refine ⟨hl, fun c hc => ?_, ha⟩
    obtain ⟨x, hx, rfl⟩ := List.mem_map.1 hc
    have := hl x hx
    omega
  · rw [hl] at ha
    simp [accA, inA] at ha

theorem nat_word {u : List Nat} : (u.map Int.ofNat).map Int.toNat = u := by
  rw [List.map_map]
  conv => rhs; rw [← List.map_id u]
  exact List.map_congr_left fun x _ => by simp

theorem word_acc (h : AuOk A) {u : List Nat} (hu : InR A u) (ha : ac A (runN A 0 u) = true) : accA A (runA A (u.map Int.ofNat)) = true := by
  rw [runA_run h _ fun c hc => by
    obtain ⟨x, hx, rfl⟩ := List.mem_map.1 hc
    have := hu x hx
    simp only [Int.ofNat_eq_natCast]
    omega, nat_word, accA_ac (runN_lt h _ h.1.2.2.1)]
  exact ha

/-- Where both begin alike, the lesser word's next letter is not more. -/
theorem llt_at : ∀ {u v : List Nat} {k : Nat}, (llt u v ∨ u = v) → (∀ j, j < k → v[j]? = u[j]?) → ∀ x y, v[k]? = some x → u[k]? = some y → y ≤ x
  | u, v, k, .inr e, _, x, y, hx, hy => by subst e; rw [hx] at hy; exact Nat.le_of_eq (Option.some.inj hy).symm
  | [], _, _, .inl h, _, _, _, _, _ => by cases h
  | _ :: _, [], _, .inl h, _, _, _, _, _ => by cases h
  | a :: u, b :: v, 0, .inl h, _, x, y, hx, hy => by
    simp at hx hy; subst hx; subst hy
    rcases h with h | h
    · exact Nat.le_of_lt h
    · exact Nat.le_of_eq h.1
  | a :: u, b :: v, k + 1, .inl h, hj, x, y, hx, hy => by
    have h0 := hj 0 (Nat.succ_pos _)
    simp at h0; subst h0
    rcases h with h | h
    · exact absurd h (Nat.lt_irrefl _)
    · exact llt_at (k := k) (.inl h.2) (fun j hjk => by simpa using hj (j + 1) (Nat.succ_lt_succ hjk)) x y (by simpa using hx) (by simpa using hy)

theorem least_at (h : AuOk A) {K : Nat} (hd : Dst A K 0) {l : List Int} (ha : accA A (runA A l) = true) : K ≤ l.length ∧ (l.length = K → ∀ k : Nat, (∀ j : Nat, j < k → l[j]? = ((greedy A K 0).map Int.ofNat)[j]?) → ∀ x y : Int, l[k]? = some x → ((greedy A K 0).map Int.ofNat)[k]? = some y → y ≤ x) := by
  obtain ⟨h1, h2, h3⟩ := acc_word h ha
  obtain ⟨_, g2, _, g4⟩ := greedy_spec h hd
  have hcan := can_run _ 0 h2 h3
  rw [List.length_map] at hcan
  refine ⟨?_, fun hl k hj x y hx hy => ?_⟩
  · apply Classical.byContradiction
    intro hno
    exact hd.2 l.length (by omega) hcan
  · have h5 := g4 _ h2 (by rw [List.length_map]; exact hl) h3
    have hx0 := h1 x (List.mem_of_getElem? hx)
    rw [List.getElem?_map, Option.map_eq_some_iff] at hy
    obtain ⟨y', hy', rfl⟩ := hy
    have := llt_at h5 (k := k) (fun j hjk => by
      have e := hj j hjk
      rw [List.getElem?_map, e, List.getElem?_map, Option.map_map]
      cases (greedy A K 0)[j]? <;> simp) x.toNat y' (by rw [List.getElem?_map, hx]; rfl) hy'
    simp only [Int.ofNat_eq_natCast]
    omega

end Go.Proofs.Ytbmpnfibebiaeaa
