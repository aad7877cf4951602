/- The plain laws of what look tells: what is reached, the least word. No program in sight. -/
import Derived.Test.YtgpgbkoaopfjkaaMinLaw
namespace Go.Proofs.Ytgpgbkoaopfjkaa

variable {A : Au}

/-- Some word leads there. -/
inductive Rch (A : Au) : Nat → Prop
  | zero : Rch A 0
  | step {s c : Nat} : Rch A s → c < 2 ^ A.T.toNat → Rch A (nx A s c)

theorem Rch.lt (h : AuOk A) {s : Nat} (hr : Rch A s) : s < A.acc.length := by
  cases hr with
  | zero => exact h.1.2.2.1
  | step _ _ => exact nx_lt h _ _

/-- A state's row. -/
def rowI (A : Au) (s : Nat) : List Int := A.next.getD s []

theorem rowI_eq (h : AuOk A) {s : Nat} (hs : s < A.acc.length) : rowI A s = (rowN A s).map Int.ofNat := by
  have hn : s < A.next.length := by rw [h.1.2.2.2.2]; exact hs
  have hrow := h.2 _ (List.getElem_mem hn)
  have he : rowI A s = A.next[s] := by unfold rowI; rw [List.getD_eq_getElem?_getD, List.getElem?_eq_getElem hn]; rfl
  rw [he]
  apply List.ext_getElem
  · simp [hrow.1, rowN]
  · intro c h1 h2
    have := hrow.2 _ (List.getElem_mem h1)
    simp only [rowN, nx, List.getElem_map, List.getElem_range, List.getD_eq_getElem?_getD, List.getElem?_eq_getElem hn, Option.getD_some, List.getElem?_eq_getElem h1]
    simp only [Int.ofNat_eq_natCast]
    omega

theorem mem_rowI (h : AuOk A) {s : Nat} (hs : s < A.acc.length) {t : Int} : t ∈ rowI A s ↔ ∃ c, c < 2 ^ A.T.toNat ∧ t = (nx A s c : Int) := by
  rw [rowI_eq h hs]
  simp only [rowN, List.map_map, List.mem_map, List.mem_range, Function.comp]
  constructor
  · rintro ⟨c, h1, h2⟩; exact ⟨c, h1, h2.symm⟩
  · rintro ⟨c, h1, h2⟩; exact ⟨c, h1, h2.symm⟩

open Classical in
/-- All states that some word leads to, rising. -/
noncomputable def rchL (A : Au) : List Int := ((List.range A.acc.length).filter fun s => decide (Rch A s)).map Int.ofNat

theorem mem_rchL (h : AuOk A) {x : Int} : x ∈ rchL A ↔ ∃ s : Nat, x = (s : Int) ∧ Rch A s := by
  unfold rchL
  simp only [List.mem_map, List.mem_filter, List.mem_range, decide_eq_true_eq]
  constructor
  · rintro ⟨s, ⟨_, h2⟩, h3⟩; exact ⟨s, h3.symm, h2⟩
  · rintro ⟨s, rfl, h2⟩; exact ⟨s, ⟨h2.lt h, h2⟩, rfl⟩

theorem rchL_rising (A : Au) : (rchL A).Pairwise (· < ·) := by
  unfold rchL
  rw [List.pairwise_map]
  exact (List.pairwise_lt_range.filter _).imp fun h => by simpa using h

theorem rise_unique : ∀ {a b : List Int}, a.Pairwise (· < ·) → b.Pairwise (· < ·) → (∀ x, x ∈ a ↔ x ∈ b) → a = b
  | [], [], _, _, _ => rfl
  | [], y :: b, _, _, h => by have := (h y).2 (List.mem_cons_self ..); simp at this
  | x :: a, [], _, _, h => by have := (h x).1 (List.mem_cons_self ..); simp at this
  | x :: a, y :: b, ha, hb, h => by
    rw [List.pairwise_cons] at ha hb
    have hxy : x = y := by
      rcases List.mem_cons.1 ((h x).1 (List.mem_cons_self ..)) with e | hx
      · exact e
      · rcases List.mem_cons.1 ((h y).2 (List.mem_cons_self ..)) with e | hy
        · exact e.symm
        · have h1 := ha.1 y hy
          have h2 := hb.1 x hx
          omega
    subst hxy
    congr 1
    refine rise_unique ha.2 hb.2 fun z => ⟨fun hz => ?_, fun hz => ?_⟩
    · rcases List.mem_cons.1 ((h z).1 (List.mem_cons_of_mem _ hz)) with e | h1
      · have := ha.1 z hz; omega
      · exact h1
    · rcases List.mem_cons.1 ((h z).2 (List.mem_cons_of_mem _ hz)) with e | h1
      · have := hb.1 z hz; omega
      · exact h1

/-- The states found so far; of the first i all that they go to is found. -/
structure BfsI (A : Au) (i : Nat) (l : List Int) : Prop where
  nd : l.Nodup
  zero : (0 : Int) ∈ l
  rch : ∀ x ∈ l, ∃ s : Nat, x = (s : Int) ∧ Rch A s
  cls : ∀ (j : Nat) (x : Int), j < i → l[j]? = some x → ∀ t ∈ rowI A x.toNat, t ∈ l

theorem BfsI.start (A : Au) : BfsI A 0 [0] := ⟨by simp, by simp, fun x hx => by simp at hx; subst hx; exact ⟨0, rfl, .zero⟩, fun j x hj _ => absurd hj (Nat.not_lt_zero _)⟩

theorem BfsI.len (h : AuOk A) {i : Nat} {l : List Int} (hb : BfsI A i l) : l.length ≤ A.acc.length := by
  have := nodup_lt A.acc.length (l.map Int.toNat) (by
    rw [List.nodup_iff_pairwise_ne, List.pairwise_map]
    refine List.Pairwise.imp_of_mem ?_ (List.nodup_iff_pairwise_ne.1 hb.nd)
    intro a b ha hb' hab e
    obtain ⟨s, rfl, _⟩ := hb.rch a ha
    obtain ⟨t, rfl, _⟩ := hb.rch b hb'
    apply hab
    simp at e
    rw [e]) (by
    intro x hx
    obtain ⟨y, hy, rfl⟩ := List.mem_map.1 hx
    obtain ⟨s, rfl, hr⟩ := hb.rch y hy
    simpa using hr.lt h)
  simpa using this

theorem BfsI.add (h : AuOk A) {i : Nat} {l : List Int} (hb : BfsI A i l) (hi : i ≤ l.length) {x t : Int} (hx : x ∈ l) (ht : t ∈ rowI A x.toNat) (hn : t ∉ l) : BfsI A i (l ++ [t]) := by
  refine ⟨?_, List.mem_append_left _ hb.zero, fun y hy => ?_, fun j y hj hy u hu => ?_⟩
  · rw [List.nodup_append]
    refine ⟨hb.nd, by simp, fun a ha b hb' => ?_⟩
    simp at hb'; subst hb'
    rintro rfl; exact hn ha
  · rcases List.mem_append.1 hy with hy | hy
    · exact hb.rch y hy
    · simp at hy; subst hy
      obtain ⟨s, rfl, hr⟩ := hb.rch x hx
      obtain ⟨c, hc, rfl⟩ := (mem_rowI h (hr.lt h)).1 ht
      exact ⟨_, rfl, hr.step hc⟩
  · rw [List.getElem?_append_left (by omega)] at hy
    exact List.mem_append_left _ (hb.cls j y hj hy u hu)

theorem BfsI.next {i : Nat} {l : List Int} (hb : BfsI A i l) {x : Int} (hx : l[i]? = some x) (hc : ∀ t ∈ rowI A x.toNat, t ∈ l) : BfsI A (i + 1) l := by
  refine ⟨hb.nd, hb.zero, hb.rch, fun j y hj hy => ?_⟩
  by_cases e : j = i
  · subst e; rw [hx] at hy; obtain rfl := Option.some.inj hy; exact hc
  · exact hb.cls j y (by omega) hy

theorem BfsI.mem (h : AuOk A) {l : List Int} (hb : BfsI A l.length l) {x : Int} : x ∈ l ↔ x ∈ rchL A := by
  rw [mem_rchL h]
  constructor
  · exact hb.rch x
  · rintro ⟨s, rfl, hr⟩
    induction hr with
    | zero => exact hb.zero
    | @step s c hs hc ih =>
      obtain ⟨j, hj⟩ := List.getElem?_of_mem ih
      exact hb.cls j _ (List.getElem?_eq_some_iff.1 hj).1 hj _ ((mem_rowI h (hs.lt h)).2 ⟨c, hc, by simp⟩)

theorem BfsI.sorted (h : AuOk A) {l : List Int} (hb : BfsI A l.length l) : l.mergeSort (fun x y => decide (x ≤ y)) = rchL A := by
  have hp := List.mergeSort_perm l (fun x y => decide (x ≤ y))
  refine rise_unique ?_ (rchL_rising A) fun x => (hp.mem_iff).trans (hb.mem h)
  have h1 := List.pairwise_mergeSort (le := fun x y : Int => decide (x ≤ y)) (by intro a b c; simp; omega) (by intro a b; simp; omega) l
  have h2 : (l.mergeSort (fun x y => decide (x ≤ y))).Nodup := hp.nodup_iff.2 hb.nd
  refine (h1.and (List.nodup_iff_pairwise_ne.1 h2)).imp ?_
  intro a b hab
  have := hab.1
  have := hab.2
  simp at *
  omega

theorem BfsI.rising (h : AuOk A) {l o : List Int} (hb : BfsI A l.length l) (ho : o.Pairwise (· < ·)) (hm : ∀ x, x ∈ o ↔ x ∈ l) : o = rchL A :=
  rise_unique ho (rchL_rising A) fun x => (hm x).trans (hb.mem h)

theorem accA_ac {s : Nat} (hs : s < A.acc.length) : accA A (s : Int) = ac A s := by
  unfold accA ac inA
  simp only [Int.toNat_natCast]
  rw [show (decide ((0 : Int) ≤ (s : Int)) && decide ((s : Int) < (A.acc.length : Int))) = true by simp; exact hs]
  rfl

theorem stepA_nx (h : AuOk A) {s c : Nat} (hs : s < A.acc.length) (hc : c < 2 ^ A.T.toNat) : stepA A (s : Int) (c : Int) = ((nx A s c : Nat) : Int) := by
  have hin : inA A (s : Int) = true := by unfold inA; simp; exact hs
  unfold stepA
  rw [if_pos ⟨hin, by omega, by exact_mod_cast hc⟩, Int.toNat_natCast, Int.toNat_natCast]
  have := rowI_eq h hs
  unfold rowI at this
  rw [this, List.getD_eq_getElem?_getD, List.getElem?_map, rowN_get hc]
  rfl

theorem runA_run (h : AuOk A) (l : List Int) (hl : ∀ c ∈ l, 0 ≤ c ∧ c < ((2 ^ A.T.toNat : Nat) : Int)) : runA A l = ((runN A 0 (l.map Int.toNat) : Nat) : Int) := by
  have h0 : 0 < A.acc.length := by have := h.1.2.2.1; omega
  induction l using snoc_ind with
  | h0 => rfl
  | h1 l x ih =>
    have hx := hl x (by simp)
    have ih := ih fun c hc => hl c (by simp [hc])
    obtain ⟨x, rfl⟩ := Int.eq_ofNat_of_zero_le hx.1
    have hx2 : x < 2 ^ A.T.toNat := by exact_mod_cast hx.2
    have e1 : runA A (l ++ [(x : Int)]) = stepA A (runA A l) x := by simp [runA, List.foldl_append]
    rw [e1, ih, stepA_nx h (runN_lt h _ h0) hx2]
    simp [runN, List.map_append, List.foldl_append]

/- The least word. -/

/-- A word of so many letters leads from there to a state that accepts. -/
def Can (A : Au) : Nat → Nat → Prop
  | 0, s => ac A s = true
  | m + 1, s => ∃ c, c < 2 ^ A.T.toNat ∧ Can A m (nx A s c)

/-- How far away a state is, below 0: farther than m. -/
def fa (A : Au) : Nat → Nat → Int
  | 0, s => if ac A s = true then 0 else -1
  | m + 1, s => if fa A m s < 0 ∧ (rowN A s).any (fun t => fa A m t == (m : Int)) = true then (m : Int) + 1 else fa A m s

/-- That many letters and no fewer. -/
def Dst (A : Au) (k s : Nat) : Prop := Can A k s ∧ ∀ j, j < k → ¬ Can A j s

theorem mem_rowN {s t : Nat} : t ∈ rowN A s ↔ ∃ c, c < 2 ^ A.T.toNat ∧ nx A s c = t := by
  simp [rowN, List.mem_map, List.mem_range]

theorem fa_spec (A : Au) : ∀ m s, (fa A m s = -1 ∧ ∀ k, k ≤ m → ¬ Can A k s) ∨ ∃ k : Nat, k ≤ m ∧ fa A m s = (k : Int) ∧ Dst A k s
  | 0, s => by
    unfold fa
    by_cases h : ac A s = true
    · rw [if_pos h]; exact .inr ⟨0, Nat.le_refl _, rfl, h, fun j hj => absurd hj (Nat.not_lt_zero _)⟩
    · rw [if_neg h]; refine .inl ⟨rfl, fun k hk => ?_⟩
      obtain rfl : k = 0 := by omega
      exact h
  | m + 1, s => by
    rcases fa_spec A m s with ⟨h1, h2⟩ | ⟨k, h1, h2, h3⟩
    · by_cases hany : (rowN A s).any (fun t => fa A m t == (m : Int)) = true
      · refine .inr ⟨m + 1, Nat.le_refl _, ?_, ?_, fun j hj => h2 j (by omega)⟩
        · rw [fa, if_pos ⟨by omega, hany⟩]; simp
        · rw [List.any_eq_true] at hany
          obtain ⟨t, ht, hf⟩ := hany
          obtain ⟨c, hc, rfl⟩ := mem_rowN.1 ht
          refine ⟨c, hc, ?_⟩
          have hf' : fa A m (nx A s c) = (m : Int) := by simpa using hf
          rcases fa_spec A m (nx A s c) with ⟨e, _⟩ | ⟨k, _, e, hk⟩
          · omega
          · obtain rfl : k = m := by omega
            exact hk.1
      · refine .inl ⟨by rw [fa, if_neg (fun hh => hany hh.2)]; exact h1, fun k hk hcan => ?_⟩
        by_cases hkm : k ≤ m
        · exact h2 k hkm hcan
        · obtain rfl : k = m + 1 := by omega
          obtain ⟨c, hc, hcm⟩ := hcan
          rcases fa_spec A m (nx A s c) with ⟨_, e⟩ | ⟨k, hk, e, hd⟩
          · exact e m (Nat.le_refl _) hcm
          · by_cases hkm : k = m
            · subst hkm
              exact hany (List.any_eq_true.2 ⟨_, mem_rowN.2 ⟨c, hc, rfl⟩, by simpa using e⟩)
            · exact h2 (k + 1) (by omega) ⟨c, hc, hd.1⟩
    · refine .inr ⟨k, by omega, ?_, h3⟩
      rw [fa, if_neg (fun hh => by omega)]; exact h2

theorem Dst.succ {k s : Nat} (h : Dst A (k + 1) s) : ∃ c, c < 2 ^ A.T.toNat ∧ Dst A k (nx A s c) := by
  obtain ⟨c, hc, h1⟩ := h.1
  exact ⟨c, hc, h1, fun j hj hcan => h.2 (j + 1) (by omega) ⟨c, hc, hcan⟩⟩

theorem Dst.uniq {j k s : Nat} (h : Dst A j s) (h' : Dst A k s) : j = k := by
  rcases Nat.lt_trichotomy j k with e | e | e
  · exact absurd h.1 (h'.2 j e)
  · exact e
  · exact absurd h'.1 (h.2 k e)

theorem Dst.path (hok : AuOk A) : ∀ {k s : Nat}, s < A.acc.length → Dst A k s → ∃ l : List Nat, l.length = k + 1 ∧ l.Nodup ∧ ∀ x ∈ l, x < A.acc.length ∧ ∃ j, j ≤ k ∧ Dst A j x
  | 0, s, hs, h => ⟨[s], rfl, by simp, fun x hx => by simp at hx; subst hx; exact ⟨hs, 0, Nat.le_refl _, h⟩⟩
  | k + 1, s, hs, h => by
    obtain ⟨c, hc, hd⟩ := h.succ
    obtain ⟨l, h1, h2, h3⟩ := Dst.path hok (nx_lt hok s c) hd
    refine ⟨s :: l, by simp [h1], ?_, fun x hx => ?_⟩
    · rw [List.nodup_cons]
      refine ⟨fun hm => ?_, h2⟩
      obtain ⟨_, j, hj, hdj⟩ := h3 s hm
      have := hdj.uniq h
      omega
    · rcases List.mem_cons.1 hx with rfl | hx
      · exact ⟨hs, k + 1, Nat.le_refl _, h⟩
      · obtain ⟨h4, j, h5, h6⟩ := h3 x hx
        exact ⟨h4, j, by omega, h6⟩

theorem Dst.lt (hok : AuOk A) {k s : Nat} (hs : s < A.acc.length) (h : Dst A k s) : k < A.acc.length := by
  obtain ⟨l, h1, h2, h3⟩ := h.path hok hs
  have := nodup_lt A.acc.length l h2 fun x hx => (h3 x hx).1
  omega

theorem Dst.of_can {k s : Nat} (h : Can A k s) : ∃ j, Dst A j s := by
  induction k using Nat.strongRecOn with
  | ind k ih =>
    by_cases hh : ∃ j, j < k ∧ Can A j s
    · obtain ⟨j, h1, h2⟩ := hh
      exact ih j h1 h2
    · exact ⟨k, h, fun j hj hc => hh ⟨j, hj, hc⟩⟩

/-- How far away each state is. -/
def far (A : Au) (s : Nat) : Int := fa A A.acc.length s

theorem far_dst (hok : AuOk A) {k s : Nat} (hs : s < A.acc.length) (h : Dst A k s) : far A s = (k : Int) := by
  have hk := h.lt hok hs
  unfold far
  rcases fa_spec A A.acc.length s with ⟨_, e⟩ | ⟨j, _, e, hd⟩
  · exact absurd h.1 (e k (by omega))
  · rw [e, hd.uniq h]

theorem far_iff (hok : AuOk A) {k s : Nat} (hs : s < A.acc.length) : far A s = (k : Int) ↔ Dst A k s := by
  refine ⟨fun h => ?_, far_dst hok hs⟩
  unfold far at h
  rcases fa_spec A A.acc.length s with ⟨e, _⟩ | ⟨j, _, e, hd⟩
  · omega
  · obtain rfl : j = k := by omega
    exact hd

theorem far_low (A : Au) (s : Nat) : -1 ≤ far A s := by
  unfold far
  rcases fa_spec A A.acc.length s with ⟨e, _⟩ | ⟨j, _, e, _⟩ <;> omega

/-- How far away the states are, by m rounds; within round m, the first k done. -/
def faL (A : Au) (m : Nat) : List Int := (List.range A.acc.length).map (fa A m)
def faMix (A : Au) (m k : Nat) : List Int := (List.range A.acc.length).map fun i => if i < k then fa A (m + 1) i else fa A m i

theorem faMix_length (A : Au) (m k : Nat) : (faMix A m k).length = A.acc.length := by simp [faMix]
theorem faMix_zero (A : Au) (m : Nat) : faMix A m 0 = faL A m := by simp [faMix, faL]
theorem faMix_all (A : Au) (m : Nat) : faMix A m A.acc.length = faL A (m + 1) := by
  unfold faMix faL
  apply List.map_congr_left
  intro i hi
  rw [if_pos (List.mem_range.1 hi)]
theorem faMix_get {m k i : Nat} (hi : i < A.acc.length) : (faMix A m k)[i]? = some (if i < k then fa A (m + 1) i else fa A m i) := by simp [faMix, hi]
theorem faMix_set {m k : Nat} : (faMix A m k).set k (fa A (m + 1) k) = faMix A m (k + 1) := by
  apply List.ext_getElem
  · simp [faMix]
  · intro i h1 h2
    rw [List.getElem_set]
    simp only [faMix, List.getElem_map, List.getElem_range]
    by_cases e : k = i
    · subst e; simp
    · rw [if_neg e]
      by_cases hh : i < k
      · rw [if_pos hh, if_pos (by omega)]
      · rw [if_neg hh, if_neg (by omega)]
theorem faMix_stay {m k : Nat} (h : fa A (m + 1) k = fa A m k) : faMix A m (k + 1) = faMix A m k := by
  unfold faMix
  apply List.map_congr_left
  intro i _
  by_cases e : i = k
  · subst e; rw [if_pos (Nat.lt_succ_self _), if_neg (Nat.lt_irrefl _), h]
  · by_cases hh : i < k
    · rw [if_pos hh, if_pos (by omega)]
    · rw [if_neg hh, if_neg (by omega)]

theorem fa_step (A : Au) (m t : Nat) : fa A (m + 1) t = (m : Int) ↔ fa A m t = (m : Int) := by
  rw [fa]
  by_cases h : fa A m t < 0 ∧ (rowN A t).any (fun u => fa A m u == (m : Int)) = true
  · rw [if_pos h]; have := h.1; omega
  · rw [if_neg h]

/-- Within the round the test is as before it. -/
theorem faMix_any (h : AuOk A) {m k s : Nat} (hs : s < A.acc.length) : (rowI A s).any (fun y => decide ((faMix A m k).getD y.toNat 0 = (m : Int))) = (rowN A s).any (fun t => fa A m t == (m : Int)) := by
  rw [rowI_eq h hs, List.any_map]
  rw [Bool.eq_iff_iff, List.any_eq_true, List.any_eq_true]
  have key : ∀ t, t ∈ rowN A s → ((fun y : Int => decide ((faMix A m k).getD y.toNat 0 = (m : Int))) ∘ Int.ofNat) t = (fa A m t == (m : Int)) := fun t ht => by
    have htn := rowN_lt h ht
    simp only [Function.comp, Int.ofNat_eq_natCast, Int.toNat_natCast, List.getD_eq_getElem?_getD, faMix_get htn, Option.getD_some]
    by_cases hh : t < k
    · rw [if_pos hh, Bool.eq_iff_iff]; simp [fa_step]
    · rw [if_neg hh, Bool.eq_iff_iff]; simp
  constructor
  · rintro ⟨t, ht, hp⟩; exact ⟨t, ht, by rw [← key t ht]; exact hp⟩
  · rintro ⟨t, ht, hp⟩; exact ⟨t, ht, by rw [key t ht]; exact hp⟩

theorem fa_neg (A : Au) (m s : Nat) : -1 ≤ fa A m s ∧ fa A m s ≤ (m : Int) := by
  rcases fa_spec A m s with ⟨e, _⟩ | ⟨k, hk, e, _⟩ <;> omega

/-- The states told apart: which accept; the first k done. -/
def acMix (A : Au) (k : Nat) : List Int := (List.range A.acc.length).map fun i => if i < k then fa A 0 i else 0
theorem acMix_length (A : Au) (k : Nat) : (acMix A k).length = A.acc.length := by simp [acMix]
theorem acMix_zero (A : Au) : acMix A 0 = List.replicate A.acc.length 0 := by
  apply List.ext_getElem
  · simp [acMix]
  · intro i h1 h2; simp [acMix]
theorem acMix_all (A : Au) : acMix A A.acc.length = faL A 0 := by
  unfold acMix faL
  apply List.map_congr_left
  intro i hi
  rw [if_pos (List.mem_range.1 hi)]
theorem acMix_set {k : Nat} : (acMix A k).set k (fa A 0 k) = acMix A (k + 1) := by
  apply List.ext_getElem
  · simp [acMix]
  · intro i h1 h2
    rw [List.getElem_set]
    simp only [acMix, List.getElem_map, List.getElem_range]
    by_cases e : k = i
    · subst e; simp
    · rw [if_neg e]
      by_cases hh : i < k
      · rw [if_pos hh, if_pos (by omega)]
      · rw [if_neg hh, if_neg (by omega)]

/-- The letter that leads nearer. -/
def letN (A : Au) (s : Nat) (d : Nat) : Nat := (rowN A s).findIdx fun t => far A t == (d : Int)

/-- The least of the shortest words. -/
def greedy (A : Au) : Nat → Nat → List Nat
  | 0, _ => []
  | d + 1, s => letN A s d :: greedy A d (nx A s (letN A s d))

/-- Less, of two of one length. -/
def llt : List Nat → List Nat → Prop
  | x :: xs, y :: ys => x < y ∨ (x = y ∧ llt xs ys)
  | _, _ => False

def slt (u v : List Nat) : Prop := u.length < v.length ∨ (u.length = v.length ∧ llt u v)
def sle (u v : List Nat) : Prop := slt u v ∨ u = v

theorem llt_irrefl : ∀ u, ¬ llt u u
  | [], h => h
  | x :: xs, h => by
    rcases h with h | h
    · exact Nat.lt_irrefl _ h
    · exact llt_irrefl xs h.2

theorem llt_trans : ∀ {u v t}, llt u v → llt v t → llt u t
  | [], _, _, h, _ => by cases h
  | _ :: _, [], _, h, _ => by cases h
  | _ :: _, _ :: _, [], _, h => by cases h
  | x :: xs, y :: ys, z :: zs, h, k => by
    rcases h with h | ⟨rfl, h⟩ <;> rcases k with k | ⟨rfl, k⟩
    · exact .inl (by omega)
    · exact .inl h
    · exact .inl k
    · exact .inr ⟨rfl, llt_trans h k⟩

theorem llt_snoc (c c' : Nat) : ∀ {u v}, llt u v → llt (u ++ [c]) (v ++ [c'])
  | [], _, h => by cases h
  | _ :: _, [], h => by cases h
  | x :: xs, y :: ys, h => by
    rcases h with h | ⟨rfl, h⟩
    · exact .inl h
    · exact .inr ⟨rfl, llt_snoc c c' h⟩

theorem llt_last {c c' : Nat} (h : c < c') : ∀ u, llt (u ++ [c]) (u ++ [c'])
  | [] => .inl h
  | _ :: xs => .inr ⟨rfl, llt_last h xs⟩

theorem slt_irrefl (u : List Nat) : ¬ slt u u := fun h => by
  rcases h with h | h
  · exact Nat.lt_irrefl _ h
  · exact llt_irrefl _ h.2

theorem slt.trans {u v t : List Nat} (h : slt u v) (k : slt v t) : slt u t := by
  rcases h with h | ⟨h1, h2⟩ <;> rcases k with k | ⟨k1, k2⟩
  · exact .inl (by omega)
  · exact .inl (by omega)
  · exact .inl (by omega)
  · exact .inr ⟨by omega, llt_trans h2 k2⟩

theorem slt.snoc {u v : List Nat} (h : slt u v) (c c' : Nat) : slt (u ++ [c]) (v ++ [c']) := by
  rcases h with h | ⟨h1, h2⟩
  · exact .inl (by simp; omega)
  · exact .inr ⟨by simp [h1], llt_snoc c c' h2⟩

theorem slt_last {c c' : Nat} (h : c < c') (u : List Nat) : slt (u ++ [c]) (u ++ [c']) := .inr ⟨by simp, llt_last h u⟩
theorem slt_more (u : List Nat) (c : Nat) : slt u (u ++ [c]) := .inl (by simp)
theorem sle.trans {u v t : List Nat} (h : sle u v) (k : sle v t) : sle u t := by
  rcases h with h | rfl
  · rcases k with k | rfl
    · exact .inl (h.trans k)
    · exact .inl h
  · exact k
theorem sle.snoc {u v : List Nat} (h : sle u v) (c : Nat) : sle (u ++ [c]) (v ++ [c]) := by
  rcases h with h | rfl
  · exact .inl (h.snoc c c)
  · exact .inr rfl
theorem sle_antisymm {u v : List Nat} (h : sle u v) (k : sle v u) : u = v := by
  rcases h with h | h
  · rcases k with k | k
    · exact absurd (h.trans k) (slt_irrefl _)
    · exact k.symm
  · exact h

def InR (A : Au) (u : List Nat) : Prop := ∀ c ∈ u, c < 2 ^ A.T.toNat

/-- The least word that is accepted. -/
structure LeastW (A : Au) (u : List Nat) : Prop where
  inr : InR A u
  acc : ac A (runN A 0 u) = true
  least : ∀ v, InR A v → ac A (runN A 0 v) = true → sle u v

theorem LeastW.uniq {u v : List Nat} (h : LeastW A u) (k : LeastW A v) : u = v := sle_antisymm (h.least v k.inr k.acc) (k.least u h.inr h.acc)

theorem runN_cons (A : Au) (s c : Nat) (u : List Nat) : runN A s (c :: u) = runN A (nx A s c) u := rfl
theorem runN_snoc (A : Au) (s c : Nat) (u : List Nat) : runN A s (u ++ [c]) = nx A (runN A s u) c := by simp [runN, List.foldl_append]

theorem can_run : ∀ (u : List Nat) (s : Nat), InR A u → ac A (runN A s u) = true → Can A u.length s
  | [], _, _, h => h
  | c :: u, _, hi, h => ⟨c, hi c (List.mem_cons_self ..), can_run u _ (fun x hx => hi x (List.mem_cons_of_mem _ hx)) h⟩

theorem letN_spec (hok : AuOk A) {d s : Nat} (h : Dst A (d + 1) s) : letN A s d < 2 ^ A.T.toNat ∧ Dst A d (nx A s (letN A s d)) ∧ ∀ c, c < 2 ^ A.T.toNat → Dst A d (nx A s c) → letN A s d ≤ c := by
  obtain ⟨c0, hc0, hd0⟩ := h.succ
  have hex : ∃ t ∈ rowN A s, (fun t => far A t == (d : Int)) t = true := ⟨nx A s c0, mem_rowN.2 ⟨c0, hc0, rfl⟩, by simpa using far_dst hok (nx_lt hok s c0) hd0⟩
  have hlt : letN A s d < (rowN A s).length := List.findIdx_lt_length_of_exists hex
  have hl : letN A s d < 2 ^ A.T.toNat := by simpa [rowN_length] using hlt
  have hp := List.findIdx_getElem (w := hlt)
  have hg : (rowN A s)[letN A s d] = nx A s (letN A s d) := by
    have := rowN_get (A := A) (s := s) hl
    rw [List.getElem?_eq_getElem hlt] at this
    exact Option.some.inj this
  refine ⟨hl, ?_, fun c hc hd => ?_⟩
  · have hp' : far A (rowN A s)[letN A s d] == (d : Int) := hp
    rw [hg] at hp'
    exact (far_iff hok (nx_lt hok s _)).1 (by simpa using hp')
  · apply Classical.byContradiction
    intro hno
    have hlt2 : c < (rowN A s).findIdx fun t => far A t == (d : Int) := by unfold letN at hno; omega
    have := List.not_of_lt_findIdx hlt2
    have hcl : c < (rowN A s).length := by rw [rowN_length]; exact hc
    have hg2 : (rowN A s)[c] = nx A s c := by
      have := rowN_get (A := A) (s := s) hc
      rw [List.getElem?_eq_getElem hcl] at this
      exact Option.some.inj this
    simp only [hg2, far_dst hok (nx_lt hok s c) hd] at this
    simp at this

theorem greedy_spec (hok : AuOk A) : ∀ {k s : Nat}, Dst A k s → InR A (greedy A k s) ∧ (greedy A k s).length = k ∧ ac A (runN A s (greedy A k s)) = true ∧
    ∀ v, InR A v → v.length = k → ac A (runN A s v) = true → llt (greedy A k s) v ∨ greedy A k s = v
  | 0, s, h => ⟨fun c hc => by simp [greedy] at hc, rfl, h.1, fun v _ hv _ => .inr (by rw [List.eq_nil_of_length_eq_zero hv]; rfl)⟩
  | d + 1, s, h => by
    obtain ⟨h1, h2, h3⟩ := letN_spec hok h
    obtain ⟨g1, g2, g3, g4⟩ := greedy_spec hok h2
    refine ⟨fun c hc => ?_, by simp [greedy, g2], g3, fun v hv hl ha => ?_⟩
    · rw [greedy] at hc
      rcases List.mem_cons.1 hc with rfl | hc
      · exact h1
      · exact g1 c hc
    · match v, hl with
      | c :: u, hl =>
        have hl' : u.length = d := by simpa using hl
        have hc := hv c (List.mem_cons_self ..)
        have hu : InR A u := fun x hx => hv x (List.mem_cons_of_mem _ hx)
        have hcan : Can A d (nx A s c) := by rw [← hl']; exact can_run u _ hu ha
        have hd : Dst A d (nx A s c) := ⟨hcan, fun j hj hh => h.2 (j + 1) (by omega) ⟨c, hc, hh⟩⟩
        have hle := h3 c hc hd
        rw [greedy]
        rcases Nat.lt_or_eq_of_le hle with e | e
        · exact .inl (.inl e)
        · subst e
          rcases g4 u hu hl' ha with k | k
          · exact .inl (.inr ⟨rfl, k⟩)
          · exact .inr (by rw [k])

theorem least_greedy (hok : AuOk A) {k : Nat} (h : Dst A k 0) : LeastW A (greedy A k 0) := by
  obtain ⟨g1, g2, g3, g4⟩ := greedy_spec hok h
  refine ⟨g1, g3, fun v hv ha => ?_⟩
  have hcan := can_run v 0 hv ha
  have hle : k ≤ v.length := by
    apply Classical.byContradiction
    intro hno
    exact h.2 v.length (by omega) hcan
  rcases Nat.lt_or_eq_of_le hle with e | e
  · exact .inl (.inl (by omega))
  · rcases g4 v hv e.symm ha with e2 | e2
    · exact .inl (.inr ⟨by omega, e2⟩)
    · exact .inr e2

/- The breadth first search with words. -/

/-- States with the words that lead to them; of the first i all letters, of the i-th the first c letters are looked at. -/
structure RefI (A : Au) (i c : Nat) (L : List (Nat × List Nat)) : Prop where
  zero : L[0]? = some (0, [])
  nd : (L.map Prod.fst).Nodup
  run : ∀ q ∈ L, q.1 = runN A 0 q.2 ∧ InR A q.2
  ord : L.Pairwise fun p q => slt p.2 q.2
  cls : ∀ (j : Nat) (q : Nat × List Nat), L[j]? = some q → ∀ d, d < 2 ^ A.T.toNat → (j < i ∨ (j = i ∧ d < c)) → ∃ p ∈ L, p.1 = nx A q.1 d ∧ sle p.2 (q.2 ++ [d])
  low : ∀ (q : Nat × List Nat), L[i]? = some q → ∀ p ∈ L, slt p.2 (q.2 ++ [c])
  no : ∀ (j : Nat) (q : Nat × List Nat), L[j]? = some q → j < i → ac A q.1 = false
  len : ∀ q ∈ L, q.2.length + 1 ≤ L.length

theorem RefI.start (A : Au) : RefI A 0 0 [(0, [])] := by
  refine ⟨rfl, by simp, fun q hq => ?_, by simp, fun j q hj d hd hh => ?_, fun q hq p hp => ?_, fun j q _ hj => absurd hj (Nat.not_lt_zero _), fun q hq => ?_⟩
  · simp at hq; subst hq; exact ⟨rfl, fun c hc => by simp at hc⟩
  · rcases hh with hh | hh
    · exact absurd hh (Nat.not_lt_zero _)
    · exact absurd hh.2 (Nat.not_lt_zero _)
  · simp at hq hp; subst hq; subst hp; exact slt_more _ _
  · simp at hq; subst hq; simp

variable {i c : Nat} {L : List (Nat × List Nat)}

theorem RefI.states_lt (h : AuOk A) (hr : RefI A i c L) : ∀ q ∈ L, q.1 < A.acc.length := fun q hq => by
  rw [(hr.run q hq).1]
  exact runN_lt h _ h.1.2.2.1

theorem RefI.length_le (h : AuOk A) (hr : RefI A i c L) : L.length ≤ A.acc.length := by
  have := nodup_lt A.acc.length (L.map Prod.fst) hr.nd fun x hx => by
    obtain ⟨q, hq, rfl⟩ := List.mem_map.1 hx
    exact hr.states_lt h q hq
  simpa using this

/-- One letter more is looked at; it leads to a state that is there. -/
theorem RefI.old (hr : RefI A i c L) {q : Nat × List Nat} (hq : L[i]? = some q) (ht : nx A q.1 c ∈ L.map Prod.fst) : RefI A i (c + 1) L := by
  refine ⟨hr.zero, hr.nd, hr.run, hr.ord, fun j p hj d hd hh => ?_, fun p hp r hr' => ?_, hr.no, hr.len⟩
  · by_cases e : j = i ∧ d = c
    · obtain ⟨rfl, rfl⟩ := e
      rw [hq] at hj; obtain rfl := Option.some.inj hj
      obtain ⟨p, hp, hpe⟩ := List.mem_map.1 ht
      exact ⟨p, hp, hpe, .inl (hr.low q hq p hp)⟩
    · exact hr.cls j p hj d hd (by omega)
  · exact (hr.low p hp r hr').trans (slt_last (Nat.lt_succ_self _) _)

/-- It leads to a new state. -/
theorem RefI.new (hr : RefI A i c L) {q : Nat × List Nat} (hq : L[i]? = some q) (hc : c < 2 ^ A.T.toNat) (ht : nx A q.1 c ∉ L.map Prod.fst) : RefI A i (c + 1) (L ++ [(nx A q.1 c, q.2 ++ [c])]) := by
  have hi := (List.getElem?_eq_some_iff.1 hq).1
  have hqm := List.mem_of_getElem? hq
  have hlow := hr.low q hq
  refine ⟨?_, ?_, fun p hp => ?_, ?_, fun j p hj d hd hh => ?_, fun p hp r hr' => ?_, fun j p hj hji => ?_, fun p hp => ?_⟩
  · rw [List.getElem?_append_left (by omega)]; exact hr.zero
  · rw [List.map_append, List.nodup_append]
    refine ⟨hr.nd, by simp, fun a ha b hb => ?_⟩
    simp at hb; subst hb
    rintro rfl; exact ht ha
  · rcases List.mem_append.1 hp with hp | hp
    · exact hr.run p hp
    · simp at hp; subst hp
      obtain ⟨h1, h2⟩ := hr.run q hqm
      refine ⟨by rw [runN_snoc, ← h1], fun x hx => ?_⟩
      rcases List.mem_append.1 hx with hx | hx
      · exact h2 x hx
      · simp at hx; subst hx; exact hc
  · rw [List.pairwise_append]
    refine ⟨hr.ord, by simp, fun a ha b hb => ?_⟩
    simp at hb; subst hb
    exact hlow a ha
  · by_cases hjl : j < L.length
    · rw [List.getElem?_append_left hjl] at hj
      by_cases e : j = i ∧ d = c
      · obtain ⟨rfl, rfl⟩ := e
        rw [hq] at hj; obtain rfl := Option.some.inj hj
        exact ⟨_, List.mem_append_right _ (List.mem_singleton.2 rfl), rfl, .inr rfl⟩
      · obtain ⟨p', h1, h2⟩ := hr.cls j p hj d hd (by omega)
        exact ⟨p', List.mem_append_left _ h1, h2⟩
    · exact absurd hh (by omega)
  · rw [List.getElem?_append_left hi, hq] at hp
    obtain rfl := Option.some.inj hp
    rcases List.mem_append.1 hr' with hr' | hr'
    · exact (hlow r hr').trans (slt_last (Nat.lt_succ_self _) _)
    · simp at hr'; subst hr'; exact slt_last (Nat.lt_succ_self _) _
  · rw [List.getElem?_append_left (by omega)] at hj
    exact hr.no j p hj hji
  · rcases List.mem_append.1 hp with hp | hp
    · have := hr.len p hp; simp; omega
    · simp at hp; subst hp
      have := hr.len q hqm; simp; omega

/-- The next state. -/
theorem RefI.next (hr : RefI A i (2 ^ A.T.toNat) L) {q : Nat × List Nat} (hq : L[i]? = some q) (hna : ac A q.1 = false) : RefI A (i + 1) 0 L := by
  refine ⟨hr.zero, hr.nd, hr.run, hr.ord, fun j p hj d hd hh => ?_, fun p hp r hr' => ?_, fun j p hj hji => ?_, hr.len⟩
  · exact hr.cls j p hj d hd (by omega)
  · have h1 := hr.low q hq r hr'
    have hord : slt q.2 p.2 := by
      have hl := List.getElem?_eq_some_iff.1 hq
      have hl2 := List.getElem?_eq_some_iff.1 hp
      have := List.pairwise_iff_getElem.1 hr.ord i (i + 1) hl.1 hl2.1 (by omega)
      rw [hl.2, hl2.2] at this
      exact this
    exact h1.trans (hord.snoc _ _)
  · by_cases e : j = i
    · subst e; rw [hq] at hj; obtain rfl := Option.some.inj hj; exact hna
    · exact hr.no j p hj (by omega)

theorem RefI.all (hr : RefI A i 0 L) : ∀ (v : List Nat), InR A v → (∃ p ∈ L, p.1 = runN A 0 v ∧ sle p.2 v) ∨ ∃ q, L[i]? = some q ∧ sle q.2 v := by
  intro v
  generalize hn : v.length = n
  induction n generalizing v with
  | zero =>
    intro _
    obtain rfl := List.eq_nil_of_length_eq_zero hn
    exact .inl ⟨_, List.mem_of_getElem? hr.zero, rfl, .inr rfl⟩
  | succ n ih =>
    intro hv
    obtain ⟨u, c, rfl⟩ : ∃ u c, v = u ++ [c] := ⟨v.dropLast, v.getLast (by intro h; subst h; simp at hn), (List.dropLast_concat_getLast _).symm⟩
    have hc : c < 2 ^ A.T.toNat := hv c (by simp)
    rcases ih u (by simpa using hn) (fun x hx => hv x (List.mem_append_left _ hx)) with ⟨p, h1, h2, h3⟩ | ⟨q, h1, h2⟩
    · obtain ⟨j, hj⟩ := List.getElem?_of_mem h1
      by_cases hji : j < i
      · obtain ⟨r, r1, r2, r3⟩ := hr.cls j p hj c hc (.inl hji)
        refine .inl ⟨r, r1, by rw [r2, h2, runN_snoc], r3.trans (h3.snoc c)⟩
      · right
        have hjl := (List.getElem?_eq_some_iff.1 hj).1
        have hil : i < L.length := by omega
        refine ⟨L[i], List.getElem?_eq_getElem hil, ?_⟩
        have hle : sle L[i].2 p.2 := by
          rcases Nat.lt_or_eq_of_le (Nat.le_of_not_lt hji) with e | e
          · have := List.pairwise_iff_getElem.1 hr.ord i j hil hjl e
            rw [(List.getElem?_eq_some_iff.1 hj).2] at this
            exact .inl this
          · subst e; rw [(List.getElem?_eq_some_iff.1 hj).2]; exact .inr rfl
        exact (hle.trans h3).trans (.inl (slt_more _ _))
    · exact .inr ⟨q, h1, h2.trans (.inl (slt_more _ _))⟩

/-- The first that accepts: its word is the least. -/
theorem RefI.found (hr : RefI A i 0 L) {q : Nat × List Nat} (hq : L[i]? = some q) (ha : ac A q.1 = true) : LeastW A q.2 := by
  obtain ⟨h1, h2⟩ := hr.run q (List.mem_of_getElem? hq)
  refine ⟨h2, by rw [← h1]; exact ha, fun v hv hva => ?_⟩
  rcases hr.all v hv with ⟨p, p1, p2, p3⟩ | ⟨p, p1, p2⟩
  · obtain ⟨j, hj⟩ := List.getElem?_of_mem p1
    have hji : ¬ j < i := fun hji => by
      have := hr.no j p hj hji
      rw [p2, hva] at this
      cases this
    have hl := List.getElem?_eq_some_iff.1 hq
    have hl2 := List.getElem?_eq_some_iff.1 hj
    rcases Nat.lt_or_eq_of_le (Nat.le_of_not_lt hji) with e | e
    · have := List.pairwise_iff_getElem.1 hr.ord i j hl.1 hl2.1 e
      rw [hl.2, hl2.2] at this
      exact sle.trans (.inl this) p3
    · subst e; rw [hq] at hj; obtain rfl := Option.some.inj hj; exact p3
  · rw [hq] at p1; obtain rfl := Option.some.inj p1; exact p2

theorem RefI.none (hr : RefI A i 0 L) (hi : i = L.length) : ∀ v, InR A v → ac A (runN A 0 v) = false := fun v hv => by
  rcases hr.all v hv with ⟨p, p1, p2, _⟩ | ⟨p, p1, _⟩
  · obtain ⟨j, hj⟩ := List.getElem?_of_mem p1
    have := hr.no j p hj (by rw [hi]; exact (List.getElem?_eq_some_iff.1 hj).1)
    rw [← p2]; exact this
  · rw [hi] at p1; simp at p1

theorem rch_run (A : Au) : ∀ (v : List Nat), InR A v → Rch A (runN A 0 v) := by
  intro v
  generalize hn : v.length = n
  induction n generalizing v with
  | zero => intro _; obtain rfl := List.eq_nil_of_length_eq_zero hn; exact .zero
  | succ n ih =>
    intro hv
    obtain ⟨u, c, rfl⟩ : ∃ u c, v = u ++ [c] := ⟨v.dropLast, v.getLast (by intro h; subst h; simp at hn), (List.dropLast_concat_getLast _).symm⟩
    rw [runN_snoc]
    exact (ih u (by simpa using hn) fun x hx => hv x (List.mem_append_left _ hx)).step (hv c (by simp))

theorem run_rch {s : Nat} (h : Rch A s) : ∃ v, InR A v ∧ runN A 0 v = s := by
  induction h with
  | zero => exact ⟨[], fun c hc => by simp at hc, rfl⟩
  | @step s c _ hc ih =>
    obtain ⟨v, h1, h2⟩ := ih
    refine ⟨v ++ [c], fun x hx => ?_, by rw [runN_snoc, h2]⟩
    rcases List.mem_append.1 hx with hx | hx
    · exact h1 x hx
    · simp at hx; subst hx; exact hc

end Go.Proofs.Ytgpgbkoaopfjkaa
