/- The least automaton: classes, rows, what it accepts. No program in sight. -/
import Derived.Test.YtgpgbkoaopfjkaaPkB
import Derived.Test.YtgpgbkoaopfjkaaNumb
namespace Go.Proofs.Ytgpgbkoaopfjkaa

/-- The next state, as a number. -/
def nx (A : Au) (s c : Nat) : Nat := ((A.next.getD s []).getD c 0).toNat

/-- Does a state accept? -/
def ac (A : Au) (s : Nat) : Bool := A.acc.getD s false

/-- The states gone to. -/
def rowN (A : Au) (s : Nat) : List Nat := (List.range (2 ^ A.T.toNat)).map (nx A s)

/-- Where a word leads. -/
def runN (A : Au) (s : Nat) (l : List Nat) : Nat := l.foldl (nx A) s

/-- From here and from there the same words are accepted. -/
def LangE (A : Au) (i : Nat) (B : Au) (j : Nat) : Prop := ∀ l : List Nat, (∀ c ∈ l, c < 2 ^ A.T.toNat) → ac A (runN A i l) = ac B (runN B j l)

/-- What a state's class hangs on. -/
def sig (A : Au) (cls : List Nat) (s : Nat) : Nat × List Nat := (cls.getD s 0, (rowN A s).map fun t => cls.getD t 0)

/-- The classes, so many times refined. -/
def clsK (A : Au) : Nat → List Nat
  | 0 => numb A.acc
  | k + 1 => numb ((List.range A.acc.length).map (sig A (clsK A k)))

/-- How many there are. -/
def cntK (A : Au) : Nat → Nat
  | 0 => (nub A.acc).length
  | k + 1 => (nub ((List.range A.acc.length).map (sig A (clsK A k)))).length

/-- The classes that are refined no more. -/
def stab (A : Au) : List Nat := clsK A A.acc.length

/-- The least automaton. -/
def minL (A : Au) : List Nat × List (List Nat) := bfs (rowN A) (fun s => (stab A).getD s 0) 0 A.acc.length
def minAu (A : Au) : Au := ⟨A.T, (minL A).1.map (ac A), (minL A).2.map fun r => r.map Int.ofNat⟩

variable {A B : Au}

theorem nx_lt (h : AuOk A) (s c : Nat) : nx A s c < A.acc.length := by
  have h1 := h.1.2.2.1
  unfold nx
  by_cases hs : s < A.next.length
  · have hr := h.2 _ (List.getElem_mem hs)
    rw [show A.next.getD s [] = A.next[s] by simp [List.getD, List.getElem?_eq_getElem hs]]
    by_cases hc : c < (A.next[s]).length
    · have := hr.2 _ (List.getElem_mem hc)
      rw [show (A.next[s]).getD c 0 = (A.next[s])[c] by simp [List.getD, List.getElem?_eq_getElem hc]]
      omega
    · rw [show (A.next[s]).getD c 0 = 0 by simp [List.getD, List.getElem?_eq_none (Nat.le_of_not_lt hc)]]
      omega
  · rw [show A.next.getD s [] = [] by simp [List.getD, List.getElem?_eq_none (Nat.le_of_not_lt hs)]]
    simp; omega

theorem runN_lt (h : AuOk A) : ∀ (l : List Nat) {s : Nat}, s < A.acc.length → runN A s l < A.acc.length
  | [], _, hs => hs
  | c :: l, _, _ => runN_lt h l (nx_lt h _ c)

theorem rowN_length (A : Au) (s : Nat) : (rowN A s).length = 2 ^ A.T.toNat := by simp [rowN]

theorem rowN_get {s c : Nat} (hc : c < 2 ^ A.T.toNat) : (rowN A s)[c]? = some (nx A s c) := by
  unfold rowN; rw [List.getElem?_map, List.getElem?_range hc]; rfl

theorem rowN_lt (h : AuOk A) {s t : Nat} (ht : t ∈ rowN A s) : t < A.acc.length := by
  obtain ⟨c, _, rfl⟩ := List.mem_map.1 ht
  exact nx_lt h s c

theorem clsK_length (A : Au) : ∀ k, (clsK A k).length = A.acc.length
  | 0 => numb_length _
  | k + 1 => by unfold clsK; rw [numb_length]; simp

theorem numb_getD {α : Type} [DecidableEq α] {l : List α} {i j : Nat} (hi : i < l.length) (hj : j < l.length) : (numb l).getD i 0 = (numb l).getD j 0 ↔ l[i] = l[j] := by
  rw [← numb_iff hi hj, List.getD_eq_getElem?_getD, List.getD_eq_getElem?_getD, numb_get hi, numb_get hj]
  simp

theorem eq_succ {k i j : Nat} (hi : i < A.acc.length) (hj : j < A.acc.length) : (clsK A (k + 1)).getD i 0 = (clsK A (k + 1)).getD j 0 ↔ sig A (clsK A k) i = sig A (clsK A k) j := by
  rw [show clsK A (k + 1) = numb ((List.range A.acc.length).map (sig A (clsK A k))) from rfl, numb_getD (by simpa using hi) (by simpa using hj)]
  simp

theorem sig_iff {cls : List Nat} {i j : Nat} : sig A cls i = sig A cls j ↔ cls.getD i 0 = cls.getD j 0 ∧ ∀ c, c < 2 ^ A.T.toNat → cls.getD (nx A i c) 0 = cls.getD (nx A j c) 0 := by
  unfold sig rowN
  rw [Prod.mk.injEq, List.map_map, List.map_map]
  constructor
  · rintro ⟨h1, h2⟩
    refine ⟨h1, fun c hc => ?_⟩
    have := List.map_inj_left.1 h2 c (List.mem_range.2 hc)
    exact this
  · rintro ⟨h1, h2⟩
    exact ⟨h1, List.map_inj_left.2 fun c hc => h2 c (List.mem_range.1 hc)⟩

theorem finer_one {k i j : Nat} (hi : i < A.acc.length) (hj : j < A.acc.length) (h : (clsK A (k + 1)).getD i 0 = (clsK A (k + 1)).getD j 0) : (clsK A k).getD i 0 = (clsK A k).getD j 0 :=
  (sig_iff.1 ((eq_succ hi hj).1 h)).1

theorem finer_zero {i j : Nat} (hi : i < A.acc.length) (hj : j < A.acc.length) : ∀ k, (clsK A k).getD i 0 = (clsK A k).getD j 0 → (clsK A 0).getD i 0 = (clsK A 0).getD j 0
  | 0, h => h
  | k + 1, h => finer_zero hi hj k (finer_one hi hj h)

theorem numb_numb {α : Type} [DecidableEq α] (l : List α) : numb (numb l) = numb l ∧ (nub (numb l)).length = (nub l).length := by
  have := numb_same (l := numb l) (m := l) (numb_length l) (fun i hi j hj => by
    have hi' : i < l.length := by rwa [numb_length] at hi
    have hj' : j < l.length := by rwa [numb_length] at hj
    have := numb_iff hi' hj'
    rw [List.getElem?_eq_getElem hi, List.getElem?_eq_getElem hj, Option.some.injEq] at this
    exact this)
  exact this

theorem nub_cls (A : Au) (k : Nat) : (nub (clsK A k)).length = cntK A k ∧ numb (clsK A k) = clsK A k := by
  cases k with
  | zero => exact ⟨(numb_numb _).2, (numb_numb _).1⟩
  | succ k => exact ⟨(numb_numb _).2, (numb_numb _).1⟩

theorem cnt_mono (A : Au) (k : Nat) : cntK A k ≤ cntK A (k + 1) ∧ (cntK A k = cntK A (k + 1) → clsK A (k + 1) = clsK A k) := by
  have hlen : ((List.range A.acc.length).map (sig A (clsK A k))).length = (clsK A k).length := by rw [clsK_length]; simp
  have h := nub_finer hlen (fun i hi j hj e => by
    have hi' : i < A.acc.length := by simpa using hi
    have hj' : j < A.acc.length := by simpa using hj
    have e1 : sig A (clsK A k) i = sig A (clsK A k) j := by simpa using e
    have := (sig_iff.1 e1).1
    have ci : i < (clsK A k).length := by rw [clsK_length]; exact hi'
    have cj : j < (clsK A k).length := by rw [clsK_length]; exact hj'
    simpa [List.getD, List.getElem?_eq_getElem ci, List.getElem?_eq_getElem cj] using this)
  rw [(nub_cls A k).1, (nub_cls A k).2] at h
  exact ⟨h.1, h.2⟩

theorem cnt_le (A : Au) : ∀ k, cntK A k ≤ A.acc.length
  | 0 => nub_le _
  | k + 1 => by unfold cntK; have := nub_le ((List.range A.acc.length).map (sig A (clsK A k))); simpa using this

theorem cnt_pos (h : 0 < A.acc.length) : ∀ k, 0 < cntK A k
  | 0 => nub_pos h
  | k + 1 => Nat.lt_of_lt_of_le (cnt_pos h k) (cnt_mono A k).1

theorem cls_stop {k : Nat} (h : clsK A (k + 1) = clsK A k) : ∀ m, clsK A (k + m) = clsK A k
  | 0 => rfl
  | m + 1 => by
    show numb ((List.range A.acc.length).map (sig A (clsK A (k + m)))) = _
    rw [cls_stop h m]
    exact h

theorem cls_turns (A : Au) : ∀ k, (∃ j, j < k ∧ clsK A (j + 1) = clsK A j) ∨ cntK A 0 + k ≤ cntK A k
  | 0 => .inr (Nat.le_refl _)
  | k + 1 => by
    rcases cls_turns A k with ⟨j, hj, e⟩ | h
    · exact .inl ⟨j, by omega, e⟩
    · by_cases e : cntK A k = cntK A (k + 1)
      · exact .inl ⟨k, by omega, (cnt_mono A k).2 e⟩
      · right; have := (cnt_mono A k).1; omega

theorem cls_ends (h : 0 < A.acc.length) : ∃ j, j < A.acc.length ∧ clsK A (j + 1) = clsK A j := by
  rcases cls_turns A A.acc.length with h1 | h1
  · exact h1
  · have := cnt_pos (A := A) h 0
    have := cnt_le A A.acc.length
    omega

/-- Wherever they are refined no more, these are the classes. -/
theorem stab_of {k : Nat} (h : 0 < A.acc.length) (hk : clsK A (k + 1) = clsK A k) : clsK A k = stab A := by
  obtain ⟨j, hj, e⟩ := cls_ends h
  have h1 : stab A = clsK A j := by
    have := cls_stop e (A.acc.length - j)
    rwa [show j + (A.acc.length - j) = A.acc.length by omega] at this
  rw [h1]
  rcases Nat.le_total j k with hjk | hjk
  · have := cls_stop e (k - j)
    rwa [show j + (k - j) = k by omega] at this
  · have := cls_stop hk (j - k)
    rw [show k + (j - k) = j by omega] at this
    exact this.symm

theorem stab_fix (h : 0 < A.acc.length) : clsK A (A.acc.length + 1) = stab A := by
  obtain ⟨j, hj, e⟩ := cls_ends h
  have h1 := cls_stop e (A.acc.length - j)
  have h2 := cls_stop e (A.acc.length + 1 - j)
  rw [show j + (A.acc.length - j) = A.acc.length by omega] at h1
  rw [show j + (A.acc.length + 1 - j) = A.acc.length + 1 by omega] at h2
  rw [h2, ← h1]; rfl

theorem acc_iff {i j : Nat} (hi : i < A.acc.length) (hj : j < A.acc.length) : (clsK A 0).getD i 0 = (clsK A 0).getD j 0 ↔ ac A i = ac A j := by
  unfold clsK ac
  rw [numb_getD hi hj]
  simp [List.getD, List.getElem?_eq_getElem hi, List.getElem?_eq_getElem hj]

/-- One class goes on alike. -/
theorem stab_next (h : AuOk A) {i j : Nat} (hi : i < A.acc.length) (hj : j < A.acc.length) (he : (stab A).getD i 0 = (stab A).getD j 0) :
    ac A i = ac A j ∧ ∀ c, c < 2 ^ A.T.toNat → (stab A).getD (nx A i c) 0 = (stab A).getD (nx A j c) 0 := by
  refine ⟨(acc_iff hi hj).1 (finer_zero hi hj _ he), fun c hc => ?_⟩
  have h1 := stab_fix (A := A) (by have := h.1.2.2.1; omega)
  have h2 : (clsK A (A.acc.length + 1)).getD i 0 = (clsK A (A.acc.length + 1)).getD j 0 := by rw [h1]; exact he
  exact (sig_iff.1 ((eq_succ hi hj).1 h2)).2 c hc

theorem LangE.refl (A : Au) (i : Nat) : LangE A i A i := fun _ _ => rfl
theorem LangE.symm {i j : Nat} (hT : A.T = B.T) (h : LangE A i B j) : LangE B j A i := fun l hl => (h l (by rw [hT]; exact hl)).symm
theorem LangE.trans {C : Au} {i j k : Nat} (hT : A.T = B.T) (h : LangE A i B j) (h' : LangE B j C k) : LangE A i C k := fun l hl => (h l hl).trans (h' l (by rw [← hT]; exact hl))
theorem LangE.next {i j c : Nat} (h : LangE A i B j) (hc : c < 2 ^ A.T.toNat) : LangE A (nx A i c) B (nx B j c) := fun l hl => h (c :: l) (by
  intro x hx
  rcases List.mem_cons.1 hx with rfl | hx
  · exact hc
  · exact hl x hx)

/-- One class just if the same words are accepted. -/
theorem stab_lang (h : AuOk A) {i j : Nat} (hi : i < A.acc.length) (hj : j < A.acc.length) : (stab A).getD i 0 = (stab A).getD j 0 ↔ LangE A i A j := by
  constructor
  · intro he l
    induction l generalizing i j with
    | nil => intro _; exact (stab_next h hi hj he).1
    | cons c l ih =>
      intro hl
      exact ih (nx_lt h i c) (nx_lt h j c) ((stab_next h hi hj he).2 c (hl c (by simp))) fun x hx => hl x (by simp [hx])
  · intro he
    have : ∀ k (i j : Nat), i < A.acc.length → j < A.acc.length → LangE A i A j → (clsK A k).getD i 0 = (clsK A k).getD j 0 := by
      intro k
      induction k with
      | zero => intro i j hi hj he; exact (acc_iff hi hj).2 (he [] (by simp))
      | succ k ih =>
        intro i j hi hj he
        exact (eq_succ hi hj).2 (sig_iff.2 ⟨ih i j hi hj he, fun c hc => ih _ _ (nx_lt h i c) (nx_lt h j c) (he.next hc)⟩)
    exact this _ i j hi hj he

theorem nodup_lt : ∀ (n : Nat) (l : List Nat), l.Nodup → (∀ x ∈ l, x < n) → l.length ≤ n
  | 0, l, _, h => by
    cases l with
    | nil => simp
    | cons x l => exact absurd (h x (by simp)) (Nat.not_lt_zero _)
  | n + 1, l, hn, h => by
    have ih := nodup_lt n (l.erase n) (hn.erase n) (fun x hx => by
      have h1 := (hn.mem_erase_iff).1 hx
      have := h x h1.2
      have := h1.1
      omega)
    by_cases hm : n ∈ l
    · have := List.length_erase_of_mem hm
      omega
    · rw [List.erase_of_not_mem hm] at ih
      omega

theorem stab_lt (h : 0 < A.acc.length) (s : Nat) : (stab A).getD s 0 < A.acc.length := by
  have hl : (stab A).length = A.acc.length := clsK_length A _
  by_cases hs : s < (stab A).length
  · rw [show (stab A).getD s 0 = (stab A)[s] by simp [List.getD, List.getElem?_eq_getElem hs]]
    have hm := List.getElem_mem hs
    have hc := cnt_le A A.acc.length
    have : ∀ x ∈ stab A, x < cntK A A.acc.length := by
      unfold stab
      cases A.acc.length with
      | zero => exact numb_lt
      | succ k => exact numb_lt
    have := this _ hm
    omega
  · rw [show (stab A).getD s 0 = 0 by simp [List.getD, List.getElem?_eq_none (Nat.le_of_not_lt hs)]]
    exact h

/-- A state of each class, at most as many as there are states. -/
theorem minK_le (h : AuOk A) (k : Nat) : (bfs (rowN A) (fun s => (stab A).getD s 0) 0 k).1.length ≤ A.acc.length := by
  have hi := bfs_inv (rowN A) (fun s => (stab A).getD s 0) 0 k
  have := nodup_lt A.acc.length _ hi.nodup (fun x hx => by
    obtain ⟨s, _, rfl⟩ := List.mem_map.1 hx
    exact stab_lt (by have := h.1.2.2.1; omega) s)
  simpa using this

theorem minK_lt (h : AuOk A) (k : Nat) : ∀ s ∈ (bfs (rowN A) (fun s => (stab A).getD s 0) 0 k).1, s < A.acc.length := fun s hs => by
  rcases (bfs_inv (rowN A) (fun s => (stab A).getD s 0) 0 k).from_ s hs with rfl | ⟨u, _, hu⟩
  · have := h.1.2.2.1; omega
  · exact rowN_lt h hu

theorem minL_done (h : AuOk A) : (minL A).2.length = (minL A).1.length := bfs_done (minK_le h)

theorem minL_at (h : AuOk A) {k : Nat} (hk : (bfs (rowN A) (fun s => (stab A).getD s 0) 0 k).2.length = (bfs (rowN A) (fun s => (stab A).getD s 0) 0 k).1.length) : bfs (rowN A) (fun s => (stab A).getD s 0) 0 k = minL A := by
  rcases Nat.le_total k A.acc.length with h1 | h1
  · exact (bfs_stop hk _ h1).symm
  · exact bfs_stop (minL_done h) _ h1

theorem min_T (A : Au) : (minAu A).T = A.T := rfl
theorem min_len (A : Au) : (minAu A).acc.length = (minL A).1.length := by simp [minAu]

/-- The least one's next states. -/
theorem min_next (h : AuOk A) {i c : Nat} (hi : i < (minL A).1.length) (hc : c < 2 ^ A.T.toNat) :
    nx (minAu A) i c < (minL A).1.length ∧ ∀ (s t : Nat), (minL A).1[i]? = some s → (minL A).1[nx (minAu A) i c]? = some t → (stab A).getD t 0 = (stab A).getD (nx A s c) 0 := by
  have inv := bfs_inv (rowN A) (fun s => (stab A).getD s 0) 0 A.acc.length
  have hd := minL_done h
  change BfsInv (rowN A) (fun s => (stab A).getD s 0) 0 (minL A).1 (minL A).2 at inv
  have hi2 : i < (minL A).2.length := by omega
  obtain ⟨q1, q2⟩ := inv.here i _ _ (List.getElem?_eq_getElem hi) (List.getElem?_eq_getElem hi2)
  have hmem := q1 (nx A (minL A).1[i] c) (List.mem_map.2 ⟨c, List.mem_range.2 hc, rfl⟩)
  have hnx : nx (minAu A) i c = ((minL A).1.map fun s => (stab A).getD s 0).idxOf ((stab A).getD (nx A (minL A).1[i] c) 0) := by
    have e1 : (minAu A).next.getD i [] = ((minL A).2[i]).map Int.ofNat := by simp [minAu, List.getD, List.getElem?_eq_getElem hi2]
    have e2 : (((minL A).2[i]).map Int.ofNat).getD c 0 = ((((minL A).1.map fun s => (stab A).getD s 0).idxOf ((stab A).getD (nx A (minL A).1[i] c) 0) : Nat) : Int) := by
      rw [q2, List.getD_eq_getElem?_getD, List.getElem?_map, List.getElem?_map, rowN_get hc]; rfl
    show (((minAu A).next.getD i []).getD c 0).toNat = _
    rw [e1, e2]; rfl
  have hlt := List.idxOf_lt_length_of_mem hmem
  rw [hnx]
  refine ⟨by simpa using hlt, fun s t hs ht => ?_⟩
  rw [List.getElem?_eq_getElem hi] at hs
  obtain rfl := Option.some.inj hs
  have h1 : (((minL A).1.map fun s => (stab A).getD s 0))[((minL A).1.map fun s => (stab A).getD s 0).idxOf ((stab A).getD (nx A (minL A).1[i] c) 0)]'hlt = (stab A).getD (nx A (minL A).1[i] c) 0 := List.getElem_idxOf hlt
  have h2 : ((minL A).1.map fun s => (stab A).getD s 0)[((minL A).1.map fun s => (stab A).getD s 0).idxOf ((stab A).getD (nx A (minL A).1[i] c) 0)]? = some ((stab A).getD t 0) := by
    rw [List.getElem?_map, ht]; rfl
  rw [List.getElem?_eq_getElem hlt, h1] at h2
  exact (Option.some.inj h2).symm

/-- From a state of the least one the same words are accepted as from any state of its class. -/
theorem min_lang (h : AuOk A) : ∀ (l : List Nat) (i s : Nat), (∀ c ∈ l, c < 2 ^ A.T.toNat) → s < A.acc.length → (∃ t, (minL A).1[i]? = some t ∧ (stab A).getD t 0 = (stab A).getD s 0) → ac (minAu A) (runN (minAu A) i l) = ac A (runN A s l)
  | [], i, s, _, hs, ⟨t, ht, he⟩ => by
    have htm : t < A.acc.length := minK_lt h _ t (List.mem_of_getElem? ht)
    show ac (minAu A) i = ac A s
    rw [← (stab_next h htm hs he).1]
    unfold minAu ac
    simp only
    rw [List.getD_eq_getElem?_getD, List.getElem?_map, ht]
    rfl
  | c :: l, i, s, hl, hs, ⟨t, ht, he⟩ => by
    have htm : t < A.acc.length := minK_lt h _ t (List.mem_of_getElem? ht)
    have hi := (List.getElem?_eq_some_iff.1 ht).1
    have hc := hl c (by simp)
    obtain ⟨n1, n2⟩ := min_next h hi hc
    exact min_lang h l _ _ (fun x hx => hl x (by simp [hx])) (nx_lt h s c) ⟨_, List.getElem?_eq_getElem n1, (n2 t _ ht (List.getElem?_eq_getElem n1)).trans ((stab_next h htm hs he).2 c hc)⟩

theorem min_lang0 (h : AuOk A) : LangE (minAu A) 0 A 0 := fun l hl =>
  min_lang h l 0 0 (by simpa [minAu] using hl) (by have := h.1.2.2.1; omega) ⟨0, (bfs_inv (rowN A) (fun s => (stab A).getD s 0) 0 A.acc.length).first, rfl⟩

theorem min_ok (h : AuOk A) : AuOk (minAu A) := by
  obtain ⟨⟨h1, h2, h3, h4, h5⟩, h6⟩ := h
  have h : AuOk A := ⟨⟨h1, h2, h3, h4, h5⟩, h6⟩
  have hle : (minL A).1.length ≤ A.acc.length := minK_le h _
  have hd := minL_done h
  have hfirst := (bfs_inv (rowN A) (fun s => (stab A).getD s 0) 0 A.acc.length).first
  have hpos : 0 < (minL A).1.length := (List.getElem?_eq_some_iff.1 hfirst).1
  refine ⟨⟨h1, h2, by rw [min_len]; omega, by rw [min_len]; omega, by rw [min_len]; simp [minAu, hd]⟩, fun l hl => ?_⟩
  rw [min_T, min_len]
  obtain ⟨r, hr, rfl⟩ := List.mem_map.1 hl
  obtain ⟨i, hi, rfl⟩ := List.getElem_of_mem hr
  have inv := bfs_inv (rowN A) (fun s => (stab A).getD s 0) 0 A.acc.length
  change BfsInv (rowN A) (fun s => (stab A).getD s 0) 0 (minL A).1 (minL A).2 at inv
  have hi1 : i < (minL A).1.length := by omega
  obtain ⟨q1, q2⟩ := inv.here i _ _ (List.getElem?_eq_getElem hi1) (List.getElem?_eq_getElem hi)
  refine ⟨by rw [List.length_map, q2, List.length_map, rowN_length], fun x hx => ?_⟩
  rw [q2] at hx
  obtain ⟨y, hy, rfl⟩ := List.mem_map.1 hx
  obtain ⟨t, ht, rfl⟩ := List.mem_map.1 hy
  have := List.idxOf_lt_length_of_mem (q1 t ht)
  rw [List.length_map] at this
  exact ⟨Int.natCast_nonneg _, Int.ofNat_lt.2 this⟩

/-- Two that accept the same words have one least automaton. -/
theorem min_same (hA : AuOk A) (hB : AuOk B) (hT : A.T = B.T) (h : LangE A 0 B 0) : minAu A = minAu B := by
  have h0A : 0 < A.acc.length := by have := hA.1.2.2.1; omega
  have h0B : 0 < B.acc.length := by have := hB.1.2.2.1; omega
  have hal : Alike (rowN A) (fun s => (stab A).getD s 0) (rowN B) (fun s => (stab B).getD s 0) (fun s t => s < A.acc.length ∧ t < B.acc.length ∧ LangE A s B t) := by
    constructor
    · rintro s t ⟨hs, ht, hst⟩
      refine ⟨by rw [rowN_length, rowN_length, hT], fun i x y hx hy => ?_⟩
      have hi : i < 2 ^ A.T.toNat := by rw [← rowN_length A s]; exact (List.getElem?_eq_some_iff.1 hx).1
      rw [rowN_get hi] at hx
      rw [rowN_get (by rw [← hT]; exact hi)] at hy
      obtain rfl := Option.some.inj hx
      obtain rfl := Option.some.inj hy
      exact ⟨nx_lt hA s i, nx_lt hB t i, hst.next hi⟩
    · rintro s t s' t' ⟨hs, ht, hst⟩ ⟨hs', ht', hst'⟩
      rw [stab_lang hA hs hs', stab_lang hB ht ht']
      exact ⟨fun hh => (hst.symm hT).trans hT.symm (hh.trans rfl hst'), fun hh => hst.trans hT (hh.trans rfl (hst'.symm hT))⟩
  have hk := alike_bfs hal (s0 := 0) (t0 := 0) ⟨h0A, h0B, h⟩ (max A.acc.length B.acc.length)
  have eA := bfs_stop (minL_done hA) (max A.acc.length B.acc.length) (Nat.le_max_left _ _)
  have eB := bfs_stop (minL_done hB) (max A.acc.length B.acc.length) (Nat.le_max_right _ _)
  rw [eA, eB] at hk
  change Pairs _ (minL A).1 (minL B).1 ∧ (minL A).2 = (minL B).2 at hk
  unfold minAu
  rw [hk.2, hT]
  congr 1
  apply List.ext_getElem (by simp [hk.1.1])
  intro i h1 h2
  have h1' : i < (minL A).1.length := by simpa using h1
  have h2' : i < (minL B).1.length := by simpa using h2
  have := hk.1.2 i _ _ (List.getElem?_eq_getElem h1') (List.getElem?_eq_getElem h2')
  have h3 := this.2.2 [] (by simp)
  rw [List.getElem_map, List.getElem_map]
  exact h3

theorem min_min (h : AuOk A) : minAu (minAu A) = minAu A := min_same (min_ok h) h rfl (min_lang0 h)

end Go.Proofs.Ytgpgbkoaopfjkaa
