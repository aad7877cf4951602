/- Two automata at once: what is numbered, what is accepted. No program in sight. -/
import Derived.Test.YtohhjdadhdibfaaMinLaw
namespace Go.Proofs.Ytohhjdadhdibfaa

variable {A B : Au}

/-- Where a pair goes. -/
def rowP (A B : Au) (p : Nat × Nat) : List (Nat × Nat) := (List.range (2 ^ A.T.toNat)).map fun c => (nx A p.1 c, nx B p.2 c)

/-- So many pairs have been looked at. -/
def prodL (A B : Au) (k : Nat) : List (Nat × Nat) × List (List Nat) := bfs (rowP A B) id (0, 0) k

/-- What the table says. -/
def tabBit (t : Nat) (x y : Bool) : Bool := t.testBit (2 * (if x then 1 else 0) + (if y then 1 else 0))

/-- Two automata as one, by a table. -/
def prodAu (A B : Au) (t : Nat) : Au := ⟨A.T, (prodL A B (A.acc.length * B.acc.length)).1.map (fun p => tabBit t (ac A p.1) (ac B p.2)), (prodL A B (A.acc.length * B.acc.length)).2.map fun r => r.map Int.ofNat⟩

theorem rowP_length (A B : Au) (p : Nat × Nat) : (rowP A B p).length = 2 ^ A.T.toNat := by simp [rowP]

theorem rowP_get {p : Nat × Nat} {c : Nat} (hc : c < 2 ^ A.T.toNat) : (rowP A B p)[c]? = some (nx A p.1 c, nx B p.2 c) := by
  unfold rowP; rw [List.getElem?_map, List.getElem?_range hc]; rfl

theorem prodK_lt (hA : AuOk A) (hB : AuOk B) (k : Nat) : ∀ p ∈ (prodL A B k).1, p.1 < A.acc.length ∧ p.2 < B.acc.length := fun p hp => by
  rcases (bfs_inv (rowP A B) id (0, 0) k).from_ p hp with rfl | ⟨u, _, hu⟩
  · have := hA.1.2.2.1; have := hB.1.2.2.1; exact ⟨by simp; omega, by simp; omega⟩
  · obtain ⟨c, _, rfl⟩ := List.mem_map.1 hu
    exact ⟨nx_lt hA _ _, nx_lt hB _ _⟩

theorem pairs_le : ∀ (m n : Nat) (l : List (Nat × Nat)), l.Nodup → (∀ p ∈ l, p.1 < m ∧ p.2 < n) → l.length ≤ m * n := fun m n l hn h => by
  have h1 : (l.map fun p => p.1 * n + p.2).Nodup := by
    rw [List.nodup_iff_pairwise_ne, List.pairwise_map]
    refine List.Pairwise.imp_of_mem ?_ (List.nodup_iff_pairwise_ne.1 hn)
    intro a b ha hb hne e
    have h2 := (h a ha).2
    have h3 := (h b hb).2
    apply hne
    have hmod : a.2 = b.2 := by
      have := congrArg (· % n) e
      simp only [Nat.mul_add_mod_self_right] at this
      rwa [Nat.mod_eq_of_lt h2, Nat.mod_eq_of_lt h3] at this
    have hdiv : a.1 = b.1 := by
      rw [hmod] at e
      have : a.1 * n = b.1 * n := by omega
      exact Nat.eq_of_mul_eq_mul_right (by omega) this
    exact Prod.ext hdiv hmod
  have h2 := nodup_lt (m * n) _ h1 (fun x hx => by
    obtain ⟨p, hp, rfl⟩ := List.mem_map.1 hx
    obtain ⟨h3, h4⟩ := h p hp
    have : (p.1 + 1) * n ≤ m * n := Nat.mul_le_mul_right _ h3
    rw [Nat.succ_mul] at this
    omega)
  simpa using h2

theorem prodK_le (hA : AuOk A) (hB : AuOk B) (k : Nat) : (prodL A B k).1.length ≤ A.acc.length * B.acc.length :=
  pairs_le _ _ _ (by have := (bfs_inv (rowP A B) id (0, 0) k).nodup; rwa [List.map_id] at this) (prodK_lt hA hB k)

theorem prod_done (hA : AuOk A) (hB : AuOk B) : (prodL A B (A.acc.length * B.acc.length)).2.length = (prodL A B (A.acc.length * B.acc.length)).1.length := bfs_done (prodK_le hA hB)

/-- Once all have been looked at, it is this. -/
theorem prod_at (hA : AuOk A) (hB : AuOk B) {k : Nat} (hk : (prodL A B k).2.length = (prodL A B k).1.length) : prodL A B k = prodL A B (A.acc.length * B.acc.length) := by
  rcases Nat.le_total k (A.acc.length * B.acc.length) with h1 | h1
  · exact (bfs_stop hk _ h1).symm
  · exact bfs_stop (prod_done hA hB) _ h1

theorem prod_len (A B : Au) (t : Nat) : (prodAu A B t).acc.length = (prodL A B (A.acc.length * B.acc.length)).1.length := by simp [prodAu]

theorem prod_ok (hA : AuOk A) (hB : AuOk B) (t : Nat) (h400 : (prodL A B (A.acc.length * B.acc.length)).1.length ≤ 400) : AuOk (prodAu A B t) := by
  have hd := prod_done hA hB
  have inv := bfs_inv (rowP A B) id (0, 0) (A.acc.length * B.acc.length)
  have hpos : 0 < (prodL A B (A.acc.length * B.acc.length)).1.length := (List.getElem?_eq_some_iff.1 inv.first).1
  refine ⟨⟨hA.1.1, hA.1.2.1, by rw [prod_len]; omega, by rw [prod_len]; omega, by rw [prod_len]; simp [prodAu, hd]⟩, fun l hl => ?_⟩
  rw [prod_len]
  obtain ⟨r, hr, rfl⟩ := List.mem_map.1 hl
  obtain ⟨i, hi, rfl⟩ := List.getElem_of_mem hr
  change BfsInv (rowP A B) id (0, 0) (prodL A B (A.acc.length * B.acc.length)).1 (prodL A B (A.acc.length * B.acc.length)).2 at inv
  have hi1 : i < (prodL A B (A.acc.length * B.acc.length)).1.length := by omega
  obtain ⟨q1, q2⟩ := inv.here i _ _ (List.getElem?_eq_getElem hi1) (List.getElem?_eq_getElem hi)
  refine ⟨by rw [List.length_map, q2, List.length_map, rowP_length]; rfl, fun x hx => ?_⟩
  rw [q2] at hx
  obtain ⟨y, hy, rfl⟩ := List.mem_map.1 hx
  obtain ⟨t, ht, rfl⟩ := List.mem_map.1 hy
  have := idxP_lt (q1 t ht)
  rw [List.length_map] at this
  exact ⟨Int.natCast_nonneg _, Int.ofNat_lt.2 this⟩

/-- The next pair. -/
theorem prod_next (hA : AuOk A) (hB : AuOk B) (t : Nat) {i c : Nat} {p : Nat × Nat} (hi : (prodL A B (A.acc.length * B.acc.length)).1[i]? = some p) (hc : c < 2 ^ A.T.toNat) :
    (prodL A B (A.acc.length * B.acc.length)).1[nx (prodAu A B t) i c]? = some (nx A p.1 c, nx B p.2 c) := by
  have inv := bfs_inv (rowP A B) id (0, 0) (A.acc.length * B.acc.length)
  have hd := prod_done hA hB
  change BfsInv (rowP A B) id (0, 0) (prodL A B (A.acc.length * B.acc.length)).1 (prodL A B (A.acc.length * B.acc.length)).2 at inv
  have hnx0 : ∀ r, (prodL A B (A.acc.length * B.acc.length)).2[i]? = some r → nx (prodAu A B t) i c = ((r.map Int.ofNat).getD c 0).toNat := fun r hr => by
    show (((prodAu A B t).next.getD i []).getD c 0).toNat = _
    congr 2
    simp [prodAu, List.getD, hr]
  generalize prodL A B (A.acc.length * B.acc.length) = L at inv hd hi hnx0 ⊢
  have hi1 := (List.getElem?_eq_some_iff.1 hi).1
  have hi2 : i < L.2.length := by omega
  obtain ⟨q1, q2⟩ := inv.here i p _ hi (List.getElem?_eq_getElem hi2)
  simp only [List.map_id, id] at q1 q2
  have hmem := q1 (nx A p.1 c, nx B p.2 c) (List.mem_of_getElem? (rowP_get hc))
  have hnx : nx (prodAu A B t) i c = idxP L.1 (nx A p.1 c, nx B p.2 c) := by
    rw [hnx0 _ (List.getElem?_eq_getElem hi2), q2, List.getD_eq_getElem?_getD, List.getElem?_map, List.getElem?_map, rowP_get hc]
    simp only [Option.map_some, Option.getD_some]
    rfl
  rw [hnx, idxP_get hmem]

theorem runN_cons (A : Au) (s c : Nat) (l : List Nat) : runN A s (c :: l) = runN A (nx A s c) l := rfl

theorem prod_run (hA : AuOk A) (hB : AuOk B) (t : Nat) (l : List Nat) : ∀ (i : Nat) (p : Nat × Nat), (∀ c ∈ l, c < 2 ^ A.T.toNat) → (prodL A B (A.acc.length * B.acc.length)).1[i]? = some p →
    ac (prodAu A B t) (runN (prodAu A B t) i l) = tabBit t (ac A (runN A p.1 l)) (ac B (runN B p.2 l)) := by
  induction l with
  | nil =>
    intro i p _ hi
    have h : ac (prodAu A B t) i = tabBit t (ac A p.1) (ac B p.2) := by
      show ((prodL A B (A.acc.length * B.acc.length)).1.map fun p => tabBit t (ac A p.1) (ac B p.2)).getD i false = _
      rw [List.getD_eq_getElem?_getD, List.getElem?_map, hi, Option.map_some, Option.getD_some]
    exact h
  | cons c l ih =>
    intro i p hl hi
    rw [runN_cons, runN_cons, runN_cons]
    have h1 := prod_next hA hB t hi (hl c (by simp))
    have h2 := ih (nx (prodAu A B t) i c) (nx A p.1 c, nx B p.2 c) (fun x hx => hl x (by simp [hx])) h1
    exact h2

theorem prod_run0 (hA : AuOk A) (hB : AuOk B) (t : Nat) {l : List Nat} (hl : ∀ c ∈ l, c < 2 ^ A.T.toNat) : ac (prodAu A B t) (runN (prodAu A B t) 0 l) = tabBit t (ac A (runN A 0 l)) (ac B (runN B 0 l)) :=
  prod_run hA hB t l 0 (0, 0) hl (bfs_inv (rowP A B) id (0, 0) _).first

/-- A row that is under way: its pairs are among those that there may be. -/
theorem row_le (hA : AuOk A) (hB : AuOk B) (k c : Nat) (p : Nat × Nat) : (rowRun id (prodL A B k).1 ((rowP A B p).take c)).1.length ≤ A.acc.length * B.acc.length := by
  have hn := (bfs_inv (rowP A B) id (0, 0) k).nodup
  obtain ⟨r1, _, _, r4⟩ := rowRun_spec id (prodL A B k).1 hn ((rowP A B p).take c)
  rw [List.map_id] at r1
  refine pairs_le _ _ _ r1 fun q hq => ?_
  rcases r4 q hq with h | h
  · exact prodK_lt hA hB k q h
  · obtain ⟨c, _, rfl⟩ := List.mem_map.1 (List.mem_of_mem_take h)
    exact ⟨nx_lt hA _ _, nx_lt hB _ _⟩

theorem row_next {l l' : List (Nat × Nat)} {r : List Nat} {p : Nat × Nat} {c : Nat} (hc : c < 2 ^ A.T.toNat) (h : rowRun id l ((rowP A B p).take c) = (l', r)) :
    rowRun id l ((rowP A B p).take (c + 1)) = (if (nx A p.1 c, nx B p.2 c) ∈ l' then l' else l' ++ [(nx A p.1 c, nx B p.2 c)], r ++ [idxP l' (nx A p.1 c, nx B p.2 c)]) := by
  have hlt : c < (rowP A B p).length := by rw [rowP_length]; exact hc
  have hg : (rowP A B p)[c] = (nx A p.1 c, nx B p.2 c) := by
    have := rowP_get (A := A) (B := B) (p := p) hc
    rw [List.getElem?_eq_getElem hlt] at this
    exact Option.some.inj this
  rw [List.take_succ_eq_append_getElem hlt, rowRun_snoc, h, hg]
  unfold rowStep
  simp only [List.map_id, id]
  rfl

theorem prod_succ {k : Nat} {l l' : List (Nat × Nat)} {outs : List (List Nat)} {r : List Nat} {p : Nat × Nat} (h : prodL A B k = (l, outs)) (hp : l[outs.length]? = some p) (hr : rowRun id l (rowP A B p) = (l', r)) : prodL A B (k + 1) = (l', outs ++ [r]) := by
  show bfsStep (rowP A B) id (prodL A B k) = _
  rw [h]
  unfold bfsStep
  simp only [hp, hr]

end Go.Proofs.Ytohhjdadhdibfaa
