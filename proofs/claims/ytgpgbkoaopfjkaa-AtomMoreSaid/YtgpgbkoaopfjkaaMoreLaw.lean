/- An atom of more variables hangs on the same bits: the plain law. -/
import Derived.Test.YtgpgbkoaopfjkaaEndsLaw
namespace Go.Proofs.Ytgpgbkoaopfjkaa

variable {A B : Au}

theorem next_bits {o : AOp} {N s : Nat} {a b c a' b' c' : Bool} (ha : 0 < o.vars → a = a') (hb : 1 < o.vars → b = b') (hc : 2 < o.vars → c = c') : nextO o N s a b c = nextO o N s a' b' c' := by
  cases o
  all_goals simp only [AOp.vars] at ha hb hc
  all_goals (try (have ha := ha (by decide)))
  all_goals (try (have hb := hb (by decide)))
  all_goals (try (have hc := hc (by decide)))
  all_goals simp_all [nextO]

theorem bit_cut {l n v : Nat} (h : v < n) : (l % 2 ^ n).testBit v = l.testBit v := by
  rw [Nat.testBit_mod_two_pow]
  simp [h]

theorem okVar_lt {o : AOp} {n j v : Nat} (h : okVar o n j v) (hj : j < o.vars) : v < n := by
  unfold okVar at h
  rw [if_pos hj] at h
  omega

theorem nxO_cut {o : AOp} {N X Y Z n s l : Nat} (hF : FieldsOk o X Y Z N n 0) : nxO o N X Y Z s (l % 2 ^ n) = nxO o N X Y Z s l := by
  obtain ⟨_, _, _, _, f1, f2, f3⟩ := hF
  unfold nxO
  rw [next_bits (a := (l % 2 ^ n).testBit X) (b := (l % 2 ^ n).testBit Y) (c := (l % 2 ^ n).testBit Z) (a' := l.testBit X) (b' := l.testBit Y) (c' := l.testBit Z)
    (fun h => bit_cut (okVar_lt f1 h)) (fun h => bit_cut (okVar_lt f2 h)) (fun h => bit_cut (okVar_lt f3 h))]

theorem run_cut {o : AOp} {N X Y Z n m : Nat} (hF : FieldsOk o X Y Z N n 0) : ∀ (W : List Nat) (s : Nat), s < lastO o N + 2 → (∀ c ∈ W, c < 2 ^ m) → runN (machAu o N X Y Z n) s (W.map (· % 2 ^ n)) = runN (machAu o N X Y Z m) s W ∧ runN (machAu o N X Y Z m) s W < lastO o N + 2
  | [], s, hs, _ => ⟨rfl, hs⟩
  | c :: W, s, hs, hc => by
    show runN _ (nx _ s (c % 2 ^ n)) (W.map (· % 2 ^ n)) = runN _ (nx _ s c) W ∧ runN _ (nx _ s c) W < _
    rw [mach_nx hs (Nat.mod_lt _ (Nat.pow_pos (by decide))), mach_nx hs (hc c (by simp)), nxO_cut hF]
    exact run_cut hF W _ (nxO_lt o N X Y Z s c) (fun x hx => hc x (by simp [hx]))

theorem run_same {o : AOp} {N X Y Z n m : Nat} (hnm : n ≤ m) : ∀ (W : List Nat) (s : Nat), s < lastO o N + 2 → (∀ c ∈ W, c < 2 ^ n) → runN (machAu o N X Y Z n) s W = runN (machAu o N X Y Z m) s W ∧ runN (machAu o N X Y Z m) s W < lastO o N + 2
  | [], s, hs, _ => ⟨rfl, hs⟩
  | c :: W, s, hs, hc => by
    have h1 := hc c (by simp)
    have h2 : c < 2 ^ m := Nat.lt_of_lt_of_le h1 (Nat.pow_le_pow_right (by decide) hnm)
    show runN _ (nx _ s c) W = runN _ (nx _ s c) W ∧ runN _ (nx _ s c) W < _
    rw [mach_nx hs h1, mach_nx hs h2]
    exact run_same hnm W _ (nxO_lt o N X Y Z s c) (fun x hx => hc x (by simp [hx]))

/-- A state that one comes to. -/
def Reach (A : Au) (s : Nat) : Prop := ∃ l : List Nat, (∀ c ∈ l, c < 2 ^ A.T.toNat) ∧ runN A 0 l = s

theorem fold_mem {σ κ : Type} [DecidableEq κ] (key : σ → κ) : ∀ (ts : List σ) (st : List σ × List Nat) (s : σ), s ∈ (ts.foldl (rowStep key) st).1 → s ∈ st.1 ∨ s ∈ ts
  | [], _, _, h => .inl h
  | t :: ts, st, s, h => by
    rcases fold_mem key ts _ s h with h | h
    · unfold rowStep at h
      simp only at h
      split at h
      · exact .inl h
      · rcases List.mem_append.1 h with h | h
        · exact .inl h
        · simp at h; exact .inr (by simp [h])
    · exact .inr (by simp [h])

theorem reach_next {s c : Nat} (h : Reach A s) (hc : c < 2 ^ A.T.toNat) : Reach A (nx A s c) := by
  obtain ⟨l, hl, rfl⟩ := h
  refine ⟨l ++ [c], fun x hx => ?_, run_snoc9 A 0 c l⟩
  rcases List.mem_append.1 hx with hx | hx
  · exact hl x hx
  · simp at hx; subst hx; exact hc

theorem bfs_reach (A : Au) : ∀ k, ∀ s ∈ (bfs (rowN A) (fun s => (stab A).getD s 0) 0 k).1, Reach A s
  | 0, s, hs => by
    simp [bfs] at hs
    subst hs
    exact ⟨[], by simp, rfl⟩
  | k + 1, s, hs => by
    have ih := bfs_reach A k
    unfold bfs bfsStep at hs
    generalize bfs (rowN A) (fun s => (stab A).getD s 0) 0 k = st at ih hs
    obtain ⟨l, outs⟩ := st
    simp only at ih hs
    split at hs
    · exact ih s hs
    · rename_i u hu
      rcases fold_mem _ _ _ s hs with h | h
      · exact ih s h
      · obtain ⟨c, hc, rfl⟩ := List.mem_map.1 h
        exact reach_next (ih u (List.mem_of_getElem? hu)) (List.mem_range.1 hc)

/-- Each state that one comes to has its class in the list. -/
theorem reach_in (h : AuOk A) : ∀ (l : List Nat) (s : Nat), (∀ c ∈ l, c < 2 ^ A.T.toNat) → s < A.acc.length → (∃ t ∈ (minL A).1, (stab A).getD t 0 = (stab A).getD s 0) → ∃ t ∈ (minL A).1, (stab A).getD t 0 = (stab A).getD (runN A s l) 0
  | [], _, _, _, ht => ht
  | c :: l, s, hl, hs, ⟨t, ht, he⟩ => by
    have htm : t < A.acc.length := minK_lt h _ t ht
    have hc := hl c (by simp)
    obtain ⟨i, hi⟩ := List.getElem?_of_mem ht
    have hi1 := (List.getElem?_eq_some_iff.1 hi).1
    obtain ⟨n1, n2⟩ := min_next h hi1 hc
    exact reach_in h l _ (fun x hx => hl x (by simp [hx])) (nx_lt h s c) ⟨_, List.getElem_mem n1, (n2 t _ hi (List.getElem?_eq_getElem n1)).trans ((stab_next h htm hs he).2 c hc)⟩

/-- At most as many states. -/
theorem min_count (hA : AuOk A) (hB : AuOk B) (hlen : A.acc.length = B.acc.length) (hL : ∀ s t, s < A.acc.length → t < A.acc.length → LangE B s B t → LangE A s A t) (hr : ∀ s, Reach A s → Reach B s) : (minL A).1.length ≤ (minL B).1.length := by
  have invA := bfs_inv (rowN A) (fun s => (stab A).getD s 0) 0 A.acc.length
  have invB := bfs_inv (rowN B) (fun s => (stab B).getD s 0) 0 B.acc.length
  change BfsInv (rowN A) (fun s => (stab A).getD s 0) 0 (minL A).1 (minL A).2 at invA
  change BfsInv (rowN B) (fun s => (stab B).getD s 0) 0 (minL B).1 (minL B).2 at invB
  have hin : ∀ s ∈ (minL A).1, (stab B).getD s 0 ∈ (minL B).1.map fun s => (stab B).getD s 0 := fun s hs => by
    obtain ⟨l, hl, rfl⟩ := hr s (bfs_reach A _ s hs)
    obtain ⟨t, ht, he⟩ := reach_in hB l 0 hl hB.1.2.2.1 ⟨0, List.mem_of_getElem? invB.first, rfl⟩
    exact List.mem_map.2 ⟨t, ht, he⟩
  have hlt : ∀ s ∈ (minL A).1, s < A.acc.length := minK_lt hA _
  have hnd : ((minL A).1.map fun s => ((minL B).1.map fun s => (stab B).getD s 0).idxOf ((stab B).getD s 0)).Nodup := by
    have h1 := invA.nodup
    unfold List.Nodup at h1 ⊢
    rw [List.pairwise_map] at h1 ⊢
    refine h1.imp_of_mem fun {a b} ha hb hne he => hne ?_
    have e1 := List.getElem_idxOf (List.idxOf_lt_length_of_mem (hin a ha))
    have e2 := List.getElem_idxOf (List.idxOf_lt_length_of_mem (hin b hb))
    have e3 : (stab B).getD a 0 = (stab B).getD b 0 := by rw [← e1, ← e2]; congr 1
    have la := hlt a ha
    have lb := hlt b hb
    exact (stab_lang hA la lb).2 (hL a b la lb ((stab_lang hB (by omega) (by omega)).1 e3))
  have := nodup_lt (minL B).1.length _ hnd (fun x hx => by
    obtain ⟨s, hs, rfl⟩ := List.mem_map.1 hx
    have := List.idxOf_lt_length_of_mem (hin s hs)
    simpa using this)
  simpa using this

/-- More variables: as many states. -/
theorem more_count {o : AOp} {N X Y Z n m : Nat} (hN : N ≤ 20) (hn : n ≤ m) (hm : m ≤ 6) (hF : FieldsOk o X Y Z N n 0) : (minAu (machAu o N X Y Z n)).acc.length = (minAu (machAu o N X Y Z m)).acc.length := by
  have hA := machAu_ok (o := o) (N := N) (A := X) (B := Y) (C := Z) (n := n) hN (by omega)
  have hB := machAu_ok (o := o) (N := N) (A := X) (B := Y) (C := Z) (n := m) hN hm
  have eT : ∀ k, (machAu o N X Y Z k).T.toNat = k := fun k => by simp [machAu]
  rw [min_len, min_len]
  apply Nat.le_antisymm
  · refine min_count hA hB (by rw [mach_len, mach_len]) (fun s t hs ht hL l hl => ?_) (fun s hs => ?_)
    · rw [mach_len] at hs ht
      rw [eT] at hl
      have hl2 : ∀ c ∈ l, c < 2 ^ m := fun c hc => Nat.lt_of_lt_of_le (hl c hc) (Nat.pow_le_pow_right (by decide) hn)
      obtain ⟨r1, r2⟩ := run_same hn (m := m) l s hs hl
      obtain ⟨r3, r4⟩ := run_same hn (m := m) l t ht hl
      have := hL l (by rw [eT]; exact hl2)
      rw [mach_ac r2, mach_ac r4] at this
      rw [r1, r3, mach_ac r2, mach_ac r4]
      exact this
    · obtain ⟨l, hl, rfl⟩ := hs
      rw [eT] at hl
      exact ⟨l, by rw [eT]; exact fun c hc => Nat.lt_of_lt_of_le (hl c hc) (Nat.pow_le_pow_right (by decide) hn), (run_same hn l 0 (by omega) hl).1.symm⟩
  · refine min_count hB hA (by rw [mach_len, mach_len]) (fun s t hs ht hL l hl => ?_) (fun s hs => ?_)
    · rw [mach_len] at hs ht
      rw [eT] at hl
      obtain ⟨r1, r2⟩ := run_cut hF l s hs hl
      obtain ⟨r3, r4⟩ := run_cut hF l t ht hl
      have := hL (l.map (· % 2 ^ n)) (by
        rw [eT]
        intro c hc
        obtain ⟨y, _, rfl⟩ := List.mem_map.1 hc
        exact Nat.mod_lt _ (Nat.pow_pos (by decide)))
      rw [r1, r3, mach_ac r2, mach_ac r4] at this
      rw [mach_ac r2, mach_ac r4]
      exact this
    · obtain ⟨l, hl, rfl⟩ := hs
      rw [eT] at hl
      refine ⟨l.map (· % 2 ^ n), ?_, (run_cut hF l 0 (by omega) hl).1⟩
      rw [eT]
      intro c hc
      obtain ⟨y, _, rfl⟩ := List.mem_map.1 hc
      exact Nat.mod_lt _ (Nat.pow_pos (by decide))

/-- More variables: the same words. -/
theorem more_run {o : AOp} {N X Y Z n m : Nat} (hN : N ≤ 20) (hn : n ≤ m) (hm : m ≤ 6) (hF : FieldsOk o X Y Z N n 0) {W : List Nat} (hW : ∀ c ∈ W, c < 2 ^ m) :
    accA (minAu (machAu o N X Y Z n)) (runA (minAu (machAu o N X Y Z n)) ((W.map (· % 2 ^ n)).map Int.ofNat)) = accA (minAu (machAu o N X Y Z m)) (runA (minAu (machAu o N X Y Z m)) (W.map Int.ofNat)) := by
  have hA := machAu_ok (o := o) (N := N) (A := X) (B := Y) (C := Z) (n := n) hN (by omega)
  have hB := machAu_ok (o := o) (N := N) (A := X) (B := Y) (C := Z) (n := m) hN hm
  have eT : ∀ k, (minAu (machAu o N X Y Z k)).T.toNat = k := fun k => by simp [min_T, machAu]
  have key : ∀ (k : Nat) (U : List Nat), AuOk (machAu o N X Y Z k) → (∀ c ∈ U, c < 2 ^ k) → accA (minAu (machAu o N X Y Z k)) (runA (minAu (machAu o N X Y Z k)) (U.map Int.ofNat)) = ac (machAu o N X Y Z k) (runN (machAu o N X Y Z k) 0 U) := by
    intro k U hk hU
    have hmk := min_ok hk
    have e1 : (U.map Int.ofNat).map Int.toNat = U := by rw [List.map_map]; exact List.map_id U
    rw [runA_run hmk _ (fun c hc => by
      obtain ⟨y, hy, rfl⟩ := List.mem_map.1 hc
      have := hU y hy
      rw [eT]
      simp only [Int.ofNat_eq_natCast]
      omega), e1, accA_ac (runN_lt hmk _ hmk.1.2.2.1), min_lang0 hk U (by rw [eT]; exact hU)]
  have hU : ∀ c ∈ W.map (· % 2 ^ n), c < 2 ^ n := fun c hc => by
    obtain ⟨y, _, rfl⟩ := List.mem_map.1 hc
    exact Nat.mod_lt _ (Nat.pow_pos (by decide))
  rw [key n _ hA hU, key m _ hB hW]
  obtain ⟨r1, r2⟩ := run_cut hF W 0 (by omega) hW
  rw [r1, mach_ac r2, mach_ac r2]

end Go.Proofs.Ytgpgbkoaopfjkaa
