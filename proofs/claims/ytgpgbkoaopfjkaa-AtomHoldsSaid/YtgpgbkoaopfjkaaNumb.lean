/- Numbers as things come; two lists numbered alike; a breadth-first numbering. No program in sight. -/
namespace Go.Proofs.Ytgpgbkoaopfjkaa

section
variable {α β : Type} [DecidableEq α] [DecidableEq β]

/-- Put behind, if it is not there. -/
def addN (l : List α) (x : α) : List α := if x ∈ l then l else l ++ [x]

/-- Each once, in the order in which they come. -/
def nub (l : List α) : List α := l.foldl addN []

theorem nub_snoc (l : List α) (x : α) : nub (l ++ [x]) = addN (nub l) x := by simp [nub, List.foldl_append]

theorem mem_addN {l : List α} {x y : α} : y ∈ addN l x ↔ y ∈ l ∨ y = x := by
  unfold addN
  split
  · rename_i h
    constructor
    · exact .inl
    · rintro (h1 | rfl)
      · exact h1
      · exact h
  · simp

/-- Induction from the end. -/
theorem snoc_ind {α : Type} {p : List α → Prop} (h0 : p []) (h1 : ∀ l x, p l → p (l ++ [x])) (l : List α) : p l := by
  have : ∀ n (l : List α), l.length = n → p l := by
    intro n
    induction n with
    | zero => intro l hl; rw [List.eq_nil_of_length_eq_zero hl]; exact h0
    | succ n ih =>
      intro l hl
      have hne : l ≠ [] := by intro e; rw [e] at hl; simp at hl
      rw [← List.dropLast_concat_getLast hne]
      exact h1 _ _ (ih _ (by simp [hl]))
  exact this _ l rfl

theorem mem_nub (l : List α) : ∀ y, y ∈ nub l ↔ y ∈ l := by
  induction l using snoc_ind with
  | h0 => intro y; simp [nub]
  | h1 l x ih => intro y; rw [nub_snoc, mem_addN, ih, List.mem_append, List.mem_singleton]

/-- The numbers, as they come. -/
def numb (l : List α) : List Nat := l.map fun x => (nub l).idxOf x

theorem numb_length (l : List α) : (numb l).length = l.length := by simp [numb]

theorem numb_snoc (l : List α) (x : α) : numb (l ++ [x]) = numb l ++ [(addN (nub l) x).idxOf x] := by
  unfold numb
  rw [List.map_append, nub_snoc]
  congr 1
  apply List.map_congr_left
  intro y hy
  unfold addN
  split
  · rfl
  · rw [List.idxOf_append, if_pos ((mem_nub l y).2 hy)]

theorem numb_get {l : List α} {i : Nat} (hi : i < l.length) : (numb l)[i]? = some ((nub l).idxOf l[i]) := by
  unfold numb; rw [List.getElem?_map, List.getElem?_eq_getElem hi]; rfl

theorem idxOf_inj {l : List α} {x y : α} (hx : x ∈ l) (h : l.idxOf x = l.idxOf y) : x = y := by
  have h1 := List.idxOf_lt_length_of_mem hx
  have h2 : l[l.idxOf x]'h1 = x := List.getElem_idxOf h1
  have h3 : l.idxOf y < l.length := by omega
  have h4 : l[l.idxOf y]'h3 = y := List.getElem_idxOf h3
  rw [← h2, ← h4]
  congr 1

/-- Two have one number just if they are one. -/
theorem numb_iff {l : List α} {i j : Nat} (hi : i < l.length) (hj : j < l.length) : (numb l)[i]? = (numb l)[j]? ↔ l[i] = l[j] := by
  rw [numb_get hi, numb_get hj]
  constructor
  · intro h
    exact idxOf_inj ((mem_nub l _).2 (List.getElem_mem hi)) (Option.some.inj h)
  · intro h; rw [h]

theorem numb_lt {l : List α} : ∀ x ∈ numb l, x < (nub l).length := by
  intro x hx
  obtain ⟨y, hy, rfl⟩ := List.mem_map.1 hx
  exact List.idxOf_lt_length_of_mem ((mem_nub l y).2 hy)

theorem nub_le (l : List α) : (nub l).length ≤ l.length := by
  induction l using snoc_ind with
  | h0 => simp [nub]
  | h1 l x ih => rw [nub_snoc]; unfold addN; split <;> simp <;> omega

theorem nub_pos {l : List α} (h : 0 < l.length) : 0 < (nub l).length := by
  have : l[0] ∈ nub l := (mem_nub l _).2 (List.getElem_mem h)
  exact List.length_pos_of_mem this

/-- By a map that may throw some together. -/
theorem nub_map (φ : α → β) (l : List α) : (nub (l.map φ)).length ≤ (nub l).length ∧ ((nub (l.map φ)).length = (nub l).length → ∀ x ∈ l, ∀ y ∈ l, φ x = φ y → x = y) := by
  induction l using snoc_ind with
  | h0 => simp [nub]
  | h1 l x ih =>
    rw [List.map_append, List.map_cons, List.map_nil, nub_snoc, nub_snoc]
    unfold addN
    by_cases hx : x ∈ l
    · have h1 : x ∈ nub l := (mem_nub l x).2 hx
      have h2 : φ x ∈ nub (l.map φ) := (mem_nub _ _).2 (List.mem_map_of_mem hx)
      rw [if_pos h1, if_pos h2]
      refine ⟨ih.1, fun h a ha b hb => ih.2 h a ?_ b ?_⟩
      · rcases List.mem_append.1 ha with h | h
        · exact h
        · simp at h; subst h; exact hx
      · rcases List.mem_append.1 hb with h | h
        · exact h
        · simp at h; subst h; exact hx
    · have h1 : x ∉ nub l := fun h => hx ((mem_nub l x).1 h)
      rw [if_neg h1]
      by_cases h2 : φ x ∈ nub (l.map φ)
      · rw [if_pos h2]
        refine ⟨by simp; have := ih.1; omega, fun h => ?_⟩
        simp at h
        have := ih.1
        omega
      · rw [if_neg h2]
        refine ⟨by simp; exact ih.1, fun h => ?_⟩
        simp at h
        have ih2 := ih.2 h
        have hno : ∀ a ∈ l, φ a ≠ φ x := fun a ha e => h2 ((mem_nub _ _).2 (e ▸ List.mem_map_of_mem ha))
        intro a ha b hb e
        rcases List.mem_append.1 ha with ha | ha
        · rcases List.mem_append.1 hb with hb | hb
          · exact ih2 a ha b hb e
          · simp at hb; rw [hb] at e; exact absurd e (hno a ha)
        · simp at ha; subst ha
          rcases List.mem_append.1 hb with hb | hb
          · exact absurd e.symm (hno b hb)
          · simp at hb; exact hb.symm

theorem idxOf_map (φ : α → β) {l : List α} {x : α} (h : ∀ y ∈ l, φ y = φ x → y = x) : (l.map φ).idxOf (φ x) = l.idxOf x := by
  induction l with
  | nil => rfl
  | cons y l ih =>
    rw [List.map_cons, List.idxOf_cons, List.idxOf_cons]
    by_cases e : y = x
    · subst e; simp
    · have h1 : (φ y == φ x) = false := by rw [beq_eq_false_iff_ne]; exact fun h2 => e (h y (by simp) h2)
      have h2 : (y == x) = false := by rw [beq_eq_false_iff_ne]; exact e
      rw [h1, h2, ih fun z hz => h z (by simp [hz])]

/-- By a map that throws none together the numbers are the same. -/
theorem numb_map (φ : α → β) (l : List α) (h : ∀ x ∈ l, ∀ y ∈ l, φ x = φ y → x = y) : numb (l.map φ) = numb l ∧ nub (l.map φ) = (nub l).map φ := by
  have hn : ∀ l : List α, (∀ x ∈ l, ∀ y ∈ l, φ x = φ y → x = y) → nub (l.map φ) = (nub l).map φ := by
    intro l
    induction l using snoc_ind with
    | h0 => intro _; simp [nub]
    | h1 l x ih =>
      intro h
      have ih := ih fun a ha b hb => h a (by simp [ha]) b (by simp [hb])
      rw [List.map_append, List.map_cons, List.map_nil, nub_snoc, nub_snoc, ih]
      unfold addN
      by_cases hx : x ∈ nub l
      · rw [if_pos hx, if_pos (List.mem_map_of_mem hx)]
      · rw [if_neg hx, if_neg, List.map_append]
        · rfl
        · intro hh
          obtain ⟨y, hy, e⟩ := List.mem_map.1 hh
          have : y = x := h y (by simp [(mem_nub l y).1 hy]) x (by simp) e
          subst this
          exact hx hy
  refine ⟨?_, hn l h⟩
  unfold numb
  rw [hn l h, List.map_map]
  apply List.map_congr_left
  intro x hx
  exact idxOf_map φ fun y hy e => h y ((mem_nub l y).1 hy) x hx e

/-- Numbered alike: two lists in which the same places are one. -/
theorem numb_same {l : List α} {m : List β} (hlen : l.length = m.length) (h : ∀ i (hi : i < l.length) j (hj : j < l.length), l[i] = l[j] ↔ m[i]'(hlen ▸ hi) = m[j]'(hlen ▸ hj)) : numb l = numb m ∧ (nub l).length = (nub m).length := by
  have e1 : (l.zip m).map Prod.fst = l := by rw [List.map_fst_zip]; omega
  have e2 : (l.zip m).map Prod.snd = m := by rw [List.map_snd_zip]; omega
  have hz : ∀ x ∈ l.zip m, ∃ i, ∃ (hi : i < l.length), x = (l[i], m[i]'(hlen ▸ hi)) := fun x hx => by
    obtain ⟨i, hi, rfl⟩ := List.getElem_of_mem hx
    have hi' : i < l.length := by simp at hi; omega
    exact ⟨i, hi', by simp⟩
  have a1 := numb_map Prod.fst (l.zip m) (fun x hx y hy e => by
    obtain ⟨i, hi, rfl⟩ := hz x hx
    obtain ⟨j, hj, rfl⟩ := hz y hy
    simp only at e
    exact Prod.ext e ((h i hi j hj).1 e))
  have a2 := numb_map Prod.snd (l.zip m) (fun x hx y hy e => by
    obtain ⟨i, hi, rfl⟩ := hz x hx
    obtain ⟨j, hj, rfl⟩ := hz y hy
    simp only at e
    exact Prod.ext ((h i hi j hj).2 e) e)
  rw [e1] at a1
  rw [e2] at a2
  refine ⟨a1.1.trans a2.1.symm, ?_⟩
  rw [a1.2, a2.2, List.length_map, List.length_map]

/-- A finer list has at least as many; as many just if it is no finer. -/
theorem nub_finer {l : List α} {m : List β} (hlen : l.length = m.length) (h : ∀ i (hi : i < l.length) j (hj : j < l.length), l[i] = l[j] → m[i]'(hlen ▸ hi) = m[j]'(hlen ▸ hj)) :
    (nub m).length ≤ (nub l).length ∧ ((nub m).length = (nub l).length → numb l = numb m) := by
  have e1 : (l.zip m).map Prod.fst = l := by rw [List.map_fst_zip]; omega
  have e2 : (l.zip m).map Prod.snd = m := by rw [List.map_snd_zip]; omega
  have hz : ∀ x ∈ l.zip m, ∃ i, ∃ (hi : i < l.length), x = (l[i], m[i]'(hlen ▸ hi)) := fun x hx => by
    obtain ⟨i, hi, rfl⟩ := List.getElem_of_mem hx
    have hi' : i < l.length := by simp at hi; omega
    exact ⟨i, hi', by simp⟩
  have a1 := numb_map Prod.fst (l.zip m) (fun x hx y hy e => by
    obtain ⟨i, hi, rfl⟩ := hz x hx
    obtain ⟨j, hj, rfl⟩ := hz y hy
    simp only at e
    exact Prod.ext e (h i hi j hj e))
  have a2 := nub_map Prod.snd (l.zip m)
  rw [e1] at a1
  rw [e2] at a2
  have hl : (nub l).length = (nub (l.zip m)).length := by rw [a1.2, List.length_map]
  refine ⟨by rw [hl]; exact a2.1, fun he => ?_⟩
  have a3 := numb_map Prod.snd (l.zip m) (a2.2 (by rw [he, hl]))
  rw [e2] at a3
  exact a1.1.trans a3.1.symm

end

/-- The place of p, by the equality that is decided. -/
def idxP {α : Type} [DecidableEq α] (l : List α) (p : α) : Nat := l.idxOf p

theorem idxP_lt {α : Type} [DecidableEq α] {l : List α} {p : α} (h : p ∈ l) : idxP l p < l.length := List.idxOf_lt_length_of_mem h

theorem idxP_get {α : Type} [DecidableEq α] {l : List α} {p : α} (h : p ∈ l) : l[idxP l p]? = some p := by
  rw [List.getElem?_eq_getElem (idxP_lt h)]
  exact congrArg some (List.getElem_idxOf (idxP_lt h))

theorem idxP_new {α : Type} [DecidableEq α] {l : List α} {p : α} (h : p ∉ l) : idxP l p = l.length := List.idxOf_eq_length h

theorem idxP_map {α β : Type} [DecidableEq α] [DecidableEq β] (φ : α → β) {l : List α} {x : α} (h : ∀ y ∈ l, φ y = φ x → y = x) : idxP (l.map φ) (φ x) = idxP l x := idxOf_map φ h

section
variable {σ τ κ μ : Type} [DecidableEq κ] [DecidableEq μ]

/-- A state that is gone to: it is put behind, if none of its key is there; its number. -/
def rowStep (key : σ → κ) (st : List σ × List Nat) (t : σ) : List σ × List Nat :=
  (if key t ∈ st.1.map key then st.1 else st.1 ++ [t], st.2 ++ [(st.1.map key).idxOf (key t)])

/-- All states that one goes to. -/
def rowRun (key : σ → κ) (l : List σ) (ts : List σ) : List σ × List Nat := ts.foldl (rowStep key) (l, [])

/-- The next state in the list is looked at. -/
def bfsStep (rowf : σ → List σ) (key : σ → κ) (st : List σ × List (List Nat)) : List σ × List (List Nat) :=
  match st.1[st.2.length]? with
  | none => st
  | some s => ((rowRun key st.1 (rowf s)).1, st.2 ++ [(rowRun key st.1 (rowf s)).2])

/-- So many states have been looked at. -/
def bfs (rowf : σ → List σ) (key : σ → κ) (s0 : σ) : Nat → List σ × List (List Nat)
  | 0 => ([s0], [])
  | k + 1 => bfsStep rowf key (bfs rowf key s0 k)

theorem rowStep_pre (key : σ → κ) (st : List σ × List Nat) (t : σ) : st.1 <+: (rowStep key st t).1 := by
  unfold rowStep
  simp only
  split
  · exact List.prefix_rfl
  · exact List.prefix_append _ _

theorem fold_pre (key : σ → κ) : ∀ (ts : List σ) (st : List σ × List Nat), st.1 <+: (ts.foldl (rowStep key) st).1
  | [], _ => List.prefix_rfl
  | t :: ts, st => (rowStep_pre key st t).trans (fold_pre key ts _)

theorem rowRun_snoc (key : σ → κ) (l ts : List σ) (t : σ) : rowRun key l (ts ++ [t]) = rowStep key (rowRun key l ts) t := by simp [rowRun, List.foldl_append]

theorem rowRun_pre (key : σ → κ) (l ts : List σ) : l <+: (rowRun key l ts).1 := fold_pre key ts (l, [])

theorem idxOf_prefix {l m : List κ} {x : κ} (h : l <+: m) (hx : x ∈ l) : m.idxOf x = l.idxOf x := by
  obtain ⟨u, rfl⟩ := h
  rw [List.idxOf_append, if_pos hx]

theorem map_prefix {l m : List σ} (f : σ → τ) (h : l <+: m) : l.map f <+: m.map f := by
  obtain ⟨u, rfl⟩ := h
  rw [List.map_append]
  exact List.prefix_append _ _

/-- What a row's run leaves: all keys are there; the row is their numbers. -/
theorem rowRun_spec (key : σ → κ) (l : List σ) (hn : (l.map key).Nodup) (ts : List σ) :
    ((rowRun key l ts).1.map key).Nodup ∧ (∀ t ∈ ts, key t ∈ (rowRun key l ts).1.map key) ∧ (rowRun key l ts).2 = ts.map (fun t => ((rowRun key l ts).1.map key).idxOf (key t)) ∧ ∀ s ∈ (rowRun key l ts).1, s ∈ l ∨ s ∈ ts := by
  induction ts using snoc_ind with
  | h0 => exact ⟨hn, by simp, by simp [rowRun], fun s hs => .inl hs⟩
  | h1 ts t ih =>
    obtain ⟨i1, i2, i3, i4⟩ := ih
    rw [rowRun_snoc]
    generalize rowRun key l ts = st at i1 i2 i3 i4
    obtain ⟨m, out⟩ := st
    simp only at i1 i2 i3 i4
    have hp := map_prefix key (rowStep_pre key (m, out) t)
    unfold rowStep at hp ⊢
    simp only at hp ⊢
    by_cases ht : key t ∈ m.map key
    · rw [if_pos ht] at hp ⊢
      refine ⟨i1, fun x hx => ?_, ?_, fun s hs => ?_⟩
      · rcases List.mem_append.1 hx with hx | hx
        · exact i2 x hx
        · simp at hx; subst hx; exact ht
      · rw [i3, List.map_append]; rfl
      · rcases i4 s hs with h | h
        · exact .inl h
        · exact .inr (by simp [h])
    · rw [if_neg ht] at hp ⊢
      have hmem : key t ∈ (m ++ [t]).map key := by simp
      refine ⟨?_, fun x hx => ?_, ?_, fun s hs => ?_⟩
      · rw [List.map_append, List.map_cons, List.map_nil, List.nodup_append]
        refine ⟨i1, by simp, fun a ha b hb e => ?_⟩
        simp at hb; subst hb; subst e; exact ht ha
      · rcases List.mem_append.1 hx with hx | hx
        · exact List.IsPrefix.mem (i2 x hx) hp
        · simp at hx; subst hx; exact hmem
      · rw [i3, List.map_append]
        congr 1
        · apply List.map_congr_left
          intro x hx
          rw [idxOf_prefix hp (i2 x hx)]
        · rw [List.map_cons, List.map_nil, List.map_append, List.idxOf_append, if_neg ht, List.idxOf_eq_length ht]
          simp
      · rcases List.mem_append.1 hs with hs | hs
        · rcases i4 s hs with h | h
          · exact .inl h
          · exact .inr (by simp [h])
        · simp at hs; subst hs; exact .inr (by simp)

/-- What holds when so many have been looked at. -/
structure BfsInv (rowf : σ → List σ) (key : σ → κ) (s0 : σ) (l : List σ) (outs : List (List Nat)) : Prop where
  nodup : (l.map key).Nodup
  first : l[0]? = some s0
  len : outs.length ≤ l.length
  here : ∀ (i : Nat) (s : σ) (r : List Nat), l[i]? = some s → outs[i]? = some r → (∀ t ∈ rowf s, key t ∈ l.map key) ∧ r = (rowf s).map fun t => (l.map key).idxOf (key t)
  from_ : ∀ s ∈ l, s = s0 ∨ ∃ u ∈ l, s ∈ rowf u

theorem bfs_inv (rowf : σ → List σ) (key : σ → κ) (s0 : σ) : ∀ k, BfsInv rowf key s0 (bfs rowf key s0 k).1 (bfs rowf key s0 k).2
  | 0 => ⟨by simp [bfs], by simp [bfs], by simp [bfs], by simp [bfs], by simp [bfs]⟩
  | k + 1 => by
    have ih := bfs_inv rowf key s0 k
    unfold bfs bfsStep
    generalize bfs rowf key s0 k = st at ih ⊢
    obtain ⟨l, outs⟩ := st
    simp only at ih ⊢
    split
    · exact ih
    · rename_i s hs
      have hlt := (List.getElem?_eq_some_iff.1 hs).1
      obtain ⟨r1, r2, r3, r4⟩ := rowRun_spec key l ih.nodup (rowf s)
      have hp := rowRun_pre key l (rowf s)
      have hpm := map_prefix key hp
      refine ⟨r1, ?_, ?_, ?_, ?_⟩
      · obtain ⟨u, hu⟩ := hp
        rw [← hu, List.getElem?_append_left (by omega)]
        exact ih.first
      · have := hp.length_le; simp; omega
      · intro i x r hx hr
        simp only at hx hr
        by_cases hi : i < outs.length
        · rw [List.getElem?_append_left hi] at hr
          have hx' : l[i]? = some x := by
            obtain ⟨u, hu⟩ := hp
            rw [← hu, List.getElem?_append_left (by omega)] at hx
            exact hx
          obtain ⟨q1, q2⟩ := ih.here i x r hx' hr
          refine ⟨fun t ht => List.IsPrefix.mem (q1 t ht) hpm, ?_⟩
          rw [q2]
          apply List.map_congr_left
          intro t ht
          rw [idxOf_prefix hpm (q1 t ht)]
        · have hi2 : i = outs.length := by
            have := (List.getElem?_eq_some_iff.1 hr).1
            simp at this; omega
          subst hi2
          have hx' : l[outs.length]? = some x := by
            obtain ⟨u, hu⟩ := hp
            rw [← hu, List.getElem?_append_left hlt] at hx
            exact hx
          rw [hs] at hx'
          obtain rfl := Option.some.inj hx'
          simp at hr
          subst hr
          exact ⟨r2, r3⟩
      · intro x hx
        rcases r4 x hx with h | h
        · rcases ih.from_ x h with h1 | ⟨u, hu, h2⟩
          · exact .inl h1
          · exact .inr ⟨u, List.IsPrefix.mem hu hp, h2⟩
        · exact .inr ⟨s, List.IsPrefix.mem (List.mem_of_getElem? hs) hp, h⟩

/-- As long as there is one more, one more has been looked at. -/
theorem bfs_len (rowf : σ → List σ) (key : σ → κ) (s0 : σ) : ∀ k, (bfs rowf key s0 k).2.length ≤ k ∧ ((bfs rowf key s0 k).2.length = k ∨ (bfs rowf key s0 k).2.length = (bfs rowf key s0 k).1.length)
  | 0 => by simp [bfs]
  | k + 1 => by
    have ih := bfs_len rowf key s0 k
    have hi := (bfs_inv rowf key s0 k).len
    unfold bfs bfsStep
    generalize bfs rowf key s0 k = st at ih hi ⊢
    obtain ⟨l, outs⟩ := st
    simp only at ih hi ⊢
    split
    · rename_i h
      have := List.getElem?_eq_none_iff.1 h
      simp only
      omega
    · rename_i s hs
      have := (List.getElem?_eq_some_iff.1 hs).1
      simp only [List.length_append, List.length_cons, List.length_nil]
      omega

/-- When all have been looked at, nothing turns any more. -/
theorem bfs_stop {rowf : σ → List σ} {key : σ → κ} {s0 : σ} {k : Nat} (h : (bfs rowf key s0 k).2.length = (bfs rowf key s0 k).1.length) : ∀ n, k ≤ n → bfs rowf key s0 n = bfs rowf key s0 k := by
  intro n hn
  induction n with
  | zero => rw [show k = 0 by omega]
  | succ n ih =>
    by_cases e : k = n + 1
    · rw [e]
    · have ih := ih (by omega)
      show bfsStep rowf key (bfs rowf key s0 n) = _
      rw [ih]
      unfold bfsStep
      rw [List.getElem?_eq_none_iff.2 (by omega)]

/-- With at most N keys all have been looked at by the N-th. -/
theorem bfs_done {rowf : σ → List σ} {key : σ → κ} {s0 : σ} {N : Nat} (h : ∀ k, (bfs rowf key s0 k).1.length ≤ N) : (bfs rowf key s0 N).2.length = (bfs rowf key s0 N).1.length := by
  have h1 := bfs_len rowf key s0 N
  have h2 := (bfs_inv rowf key s0 N).len
  have h3 := h N
  omega

/-- Two that go alike. -/
structure Alike (rowf : σ → List σ) (key : σ → κ) (rowg : τ → List τ) (kez : τ → μ) (E : σ → τ → Prop) : Prop where
  row : ∀ s t, E s t → (rowf s).length = (rowg t).length ∧ ∀ (i : Nat) (x : σ) (y : τ), (rowf s)[i]? = some x → (rowg t)[i]? = some y → E x y
  keys : ∀ s t s' t', E s t → E s' t' → (key s = key s' ↔ kez t = kez t')

/-- Lists that go alike. -/
def Pairs (E : σ → τ → Prop) (l : List σ) (m : List τ) : Prop := l.length = m.length ∧ ∀ (i : Nat) (x : σ) (y : τ), l[i]? = some x → m[i]? = some y → E x y

theorem Pairs.snoc {E : σ → τ → Prop} {l : List σ} {m : List τ} (h : Pairs E l m) {x : σ} {y : τ} (hxy : E x y) : Pairs E (l ++ [x]) (m ++ [y]) := by
  refine ⟨by simp [h.1], fun i a b ha hb => ?_⟩
  by_cases hi : i < l.length
  · rw [List.getElem?_append_left hi] at ha
    rw [List.getElem?_append_left (by rw [← h.1]; exact hi)] at hb
    exact h.2 i a b ha hb
  · have hi2 : i = l.length := by
      have := (List.getElem?_eq_some_iff.1 ha).1
      simp at this; omega
    subst hi2
    rw [List.getElem?_append_right (Nat.le_refl _)] at ha
    rw [h.1, List.getElem?_append_right (Nat.le_refl _)] at hb
    simp at ha hb
    subst ha; subst hb
    exact hxy

theorem pairs_idx {key : σ → κ} {kez : τ → μ} {E : σ → τ → Prop} (hk : ∀ s t s' t', E s t → E s' t' → (key s = key s' ↔ kez t = kez t')) {x : σ} {y : τ} (hxy : E x y) : ∀ (l : List σ) (m : List τ), Pairs E l m →
    (l.map key).idxOf (key x) = (m.map kez).idxOf (kez y) ∧ (key x ∈ l.map key ↔ kez y ∈ m.map kez)
  | [], m, h => by
    have : m = [] := List.eq_nil_of_length_eq_zero h.1.symm
    subst this; simp
  | a :: l, m, h => by
    cases m with
    | nil => have := h.1; simp at this
    | cons b m =>
      have hab : E a b := h.2 0 a b rfl rfl
      have ht : Pairs E l m := ⟨by have := h.1; simpa using this, fun i x y hx hy => h.2 (i + 1) x y (by simpa using hx) (by simpa using hy)⟩
      obtain ⟨i1, i2⟩ := pairs_idx hk hxy l m ht
      have hh := hk a b x y hab hxy
      rw [List.map_cons, List.map_cons, List.idxOf_cons, List.idxOf_cons, i1]
      constructor
      · by_cases e : key a = key x
        · rw [show (key a == key x) = true by simpa using e, show (kez b == kez y) = true by simpa using hh.1 e]
        · rw [show (key a == key x) = false by simpa using e, show (kez b == kez y) = false by simpa using fun h => e (hh.2 h)]
      · rw [List.mem_cons, List.mem_cons, i2]
        constructor
        · rintro (h | h)
          · exact .inl (hh.1 h.symm).symm
          · exact .inr h
        · rintro (h | h)
          · exact .inl (hh.2 h.symm).symm
          · exact .inr h

theorem alike_row {rowf : σ → List σ} {key : σ → κ} {rowg : τ → List τ} {kez : τ → μ} {E : σ → τ → Prop} (h : Alike rowf key rowg kez E) : ∀ (ts : List σ) (us : List τ) (l : List σ) (m : List τ) (out : List Nat), Pairs E l m → Pairs E ts us →
    Pairs E (ts.foldl (rowStep key) (l, out)).1 (us.foldl (rowStep kez) (m, out)).1 ∧ (ts.foldl (rowStep key) (l, out)).2 = (us.foldl (rowStep kez) (m, out)).2
  | [], us, l, m, out, hl, ht => by
    have : us = [] := List.eq_nil_of_length_eq_zero ht.1.symm
    subst this
    exact ⟨hl, rfl⟩
  | t :: ts, us, l, m, out, hl, ht => by
    cases us with
    | nil => have := ht.1; simp at this
    | cons u us =>
      have htu : E t u := ht.2 0 t u rfl rfl
      have hts : Pairs E ts us := ⟨by have := ht.1; simpa using this, fun i x y hx hy => ht.2 (i + 1) x y (by simpa using hx) (by simpa using hy)⟩
      obtain ⟨i1, i2⟩ := pairs_idx h.keys htu l m hl
      simp only [List.foldl_cons]
      have e1 : rowStep key (l, out) t = (if key t ∈ l.map key then l else l ++ [t], out ++ [(l.map key).idxOf (key t)]) := rfl
      have e2 : rowStep kez (m, out) u = (if kez u ∈ m.map kez then m else m ++ [u], out ++ [(m.map kez).idxOf (kez u)]) := rfl
      rw [e1, e2, ← i1]
      refine alike_row h ts us _ _ _ ?_ hts
      by_cases hk : key t ∈ l.map key
      · rw [if_pos hk, if_pos (i2.1 hk)]; exact hl
      · rw [if_neg hk, if_neg (fun hh => hk (i2.2 hh))]; exact hl.snoc htu

/-- They are numbered alike. -/
theorem alike_bfs {rowf : σ → List σ} {key : σ → κ} {rowg : τ → List τ} {kez : τ → μ} {E : σ → τ → Prop} (h : Alike rowf key rowg kez E) {s0 : σ} {t0 : τ} (h0 : E s0 t0) : ∀ k,
    Pairs E (bfs rowf key s0 k).1 (bfs rowg kez t0 k).1 ∧ (bfs rowf key s0 k).2 = (bfs rowg kez t0 k).2
  | 0 => ⟨⟨rfl, fun i x y hx hy => by
      cases i with
      | zero => simp [bfs] at hx hy; subst hx; subst hy; exact h0
      | succ i => simp [bfs] at hx⟩, rfl⟩
  | k + 1 => by
    obtain ⟨i1, i2⟩ := alike_bfs h h0 k
    unfold bfs bfsStep
    generalize bfs rowf key s0 k = st at i1 i2 ⊢
    generalize bfs rowg kez t0 k = st' at i1 i2 ⊢
    obtain ⟨l, outs⟩ := st
    obtain ⟨m, outs'⟩ := st'
    simp only at i1 i2 ⊢
    subst i2
    cases hl : l[outs.length]? with
    | none =>
      have hm : m[outs.length]? = none := by rw [List.getElem?_eq_none_iff] at hl ⊢; rw [← i1.1]; exact hl
      simp only [hm]
      exact ⟨i1, trivial⟩
    | some s =>
      obtain ⟨t, ht⟩ : ∃ t, m[outs.length]? = some t := ⟨_, List.getElem?_eq_getElem (by have := (List.getElem?_eq_some_iff.1 hl).1; rw [← i1.1]; exact this)⟩
      have hst := i1.2 _ s t hl ht
      obtain ⟨q1, q2⟩ := h.row s t hst
      obtain ⟨j1, j2⟩ := alike_row h (rowf s) (rowg t) l m [] i1 ⟨q1, q2⟩
      simp only [ht]
      exact ⟨j1, by rw [show (rowRun key l (rowf s)).2 = (rowRun kez m (rowg t)).2 from j2]⟩

end
end Go.Proofs.Ytgpgbkoaopfjkaa
