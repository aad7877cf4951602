/- A function of one track alone: its nodes, its values. No program in sight. -/
import Derived.Lib.SlicesCompact
import Derived.Test.YtameihkcajceeaaLawOf
namespace Go.Proofs.Ytameihkcajceeaa
open Go.RowKit

variable {T : Nat}

/-- The row. -/
def oneRow (t : Nat) (a b : Int) (m : Nat) : List Int := (List.range m).map fun i => if i.testBit t then b else a

theorem oneRow_len (t : Nat) (a b : Int) (m : Nat) : (oneRow t a b m).length = m := by simp [oneRow]

theorem oneRow_get {t : Nat} {a b : Int} {m x : Nat} (hx : x < m) : (oneRow t a b m).getD x 0 = if x.testBit t then b else a := by
  unfold oneRow
  rw [List.getD_eq_getElem?_getD, List.getElem?_map, List.getElem?_range hx]
  rfl

theorem oneRow_all {t : Nat} {a b : Int} {m : Nat} (ha : isVal a = true) (hb : isVal b = true) : (oneRow t a b m).all isVal = true := by
  rw [List.all_eq_true]
  intro x hx
  obtain ⟨i, _, rfl⟩ := List.mem_map.1 hx
  split <;> assumption

theorem bit_low {x t s : Nat} (h : t < s) : x.testBit t = (x % 2 ^ s).testBit t := by rw [Nat.testBit_mod_two_pow]; simp [h]

variable {t : Nat} {a b : Int}

theorem wf_a (h6 : T ≤ 6) (ha : isVal a = true) : WF T [.leaf a] := (WF.nil h6).snoc (n := .leaf a) (by simpa [isVal, NdOk] using ha) (by simp)

theorem wf_ab (h6 : T ≤ 6) (ha : isVal a = true) (hb : isVal b = true) (hne : a ≠ b) : WF T [.leaf a, .leaf b] := (wf_a h6 ha).snoc (n := .leaf b) (by simpa [isVal, NdOk] using hb) (by simp; exact fun e => hne e.symm)

theorem wf_3 (h6 : T ≤ 6) (ht : t < T) (ha : isVal a = true) (hb : isVal b = true) (hne : a ≠ b) : WF T [.leaf a, .leaf b, .fork t 0 1] :=
  (wf_ab h6 ha hb hne).snoc (n := .fork t 0 1) ⟨ht, by simp, by simp, by decide, ⟨by simp, by intro u lo hi e; simp at e⟩, ⟨by simp, by intro u lo hi e; simp at e⟩⟩ (by simp)

theorem leafA_val {L : List Nd} {v : Int} (hv : isVal v = true) : leafA L v = ((idOf L (.leaf v)).1, ((idOf L (.leaf v)).2 : Int)) := by
  have : 0 ≤ v ∧ v ≤ 1099511627776 := by simpa [isVal] using hv
  exact if_pos this

/-- Below the track, its bit not set. -/
theorem ofA_low (h6 : T ≤ 6) (ht : t < T) (ha : isVal a = true) (hb : isVal b = true) : ∀ (d s c : Nat), s + d = T → t < s → c < 2 ^ s → c.testBit t = false → ofA T (oneRow t a b (2 ^ T)) d [] c = ([.leaf a], 0) := by
  intro d
  induction d with
  | zero =>
    intro s c hs hts hc hbit
    obtain rfl : s = T := by omega
    unfold ofA
    rw [oneRow_get hc, hbit, leafA_val (by simpa using ha)]
    simp [idOf]
  | succ d ih =>
    intro s c hs hts hc hbit
    have e1 := ih (s + 1) c (by omega) (by omega) (Nat.lt_of_lt_of_le hc (Nat.pow_le_pow_right (by decide) (by omega))) hbit
    have es : T - (d + 1) = s := by omega
    unfold ofA
    rw [es, e1]
    simp only
    have e2 : ofA T (oneRow t a b (2 ^ T)) d [.leaf a] (c ||| 2 ^ s) = ([.leaf a], ((0 : Nat) : Int)) := by
      refine ofA_have (oneRow_len t a b _) (oneRow_all ha hb) (wf_a h6 ha) d (s + 1) (c ||| 2 ^ s) 0 (by omega) (or_lt hc) (by simp) (by intro u lo hi e; simp at e) fun x hx hxc => ?_
      rw [val_leaf (v := a) rfl, oneRow_get hx, bit_low (x := x) (show t < s + 1 by omega), hxc, Nat.testBit_or, hbit, Nat.testBit_two_pow]
      simp; omega
    rw [e2]
    have e3 : mkA T [.leaf a] (s : Nat) (0 : Int) ((0 : Nat) : Int) = ([.leaf a], 0) := by
      have hu : underB [Nd.leaf a] 0 (s : Int) = true := (underB_iff (L := [Nd.leaf a]) (i := 0) (t := s)).2 ⟨by simp, by intro u lo hi e; simp at e⟩
      unfold mkA
      rw [if_neg (by simp only [Int.ofNat_zero, hu]; simp; omega), if_pos (by simp)]
    exact e3

/-- Below the track, its bit set, the other value being there. -/
theorem ofA_high (h6 : T ≤ 6) (ht : t < T) (ha : isVal a = true) (hb : isVal b = true) (hne : a ≠ b) : ∀ (d s c : Nat), s + d = T → t < s → c < 2 ^ s → c.testBit t = true → ofA T (oneRow t a b (2 ^ T)) d [.leaf a] c = ([.leaf a, .leaf b], 1) := by
  intro d
  induction d with
  | zero =>
    intro s c hs hts hc hbit
    obtain rfl : s = T := by omega
    unfold ofA
    rw [oneRow_get hc, hbit, leafA_val (by simpa using hb)]
    simp [idOf, Ne.symm hne]
  | succ d ih =>
    intro s c hs hts hc hbit
    have e1 := ih (s + 1) c (by omega) (by omega) (Nat.lt_of_lt_of_le hc (Nat.pow_le_pow_right (by decide) (by omega))) hbit
    have es : T - (d + 1) = s := by omega
    unfold ofA
    rw [es, e1]
    simp only
    have e2 : ofA T (oneRow t a b (2 ^ T)) d [.leaf a, .leaf b] (c ||| 2 ^ s) = ([.leaf a, .leaf b], ((1 : Nat) : Int)) := by
      refine ofA_have (oneRow_len t a b _) (oneRow_all ha hb) (wf_ab h6 ha hb hne) d (s + 1) (c ||| 2 ^ s) 1 (by omega) (or_lt hc) (by simp) (by intro u lo hi e; simp at e) fun x hx hxc => ?_
      rw [val_leaf (v := b) rfl, oneRow_get hx, bit_low (x := x) (show t < s + 1 by omega), hxc, Nat.testBit_or, hbit]
      simp
    rw [e2]
    have hu : underB [Nd.leaf a, Nd.leaf b] 1 (s : Int) = true := (underB_iff (L := [Nd.leaf a, Nd.leaf b]) (i := 1) (t := s)).2 ⟨by simp, by intro u lo hi e; simp at e⟩
    have e3 : mkA T [.leaf a, .leaf b] (s : Nat) (1 : Int) ((1 : Nat) : Int) = ([.leaf a, .leaf b], 1) := by
      unfold mkA
      rw [if_neg (by simp only [show ((1 : Nat) : Int) = 1 from rfl, hu]; simp; omega), if_pos (by simp)]
    exact e3

/-- At the track and above it. -/
theorem ofA_one (h6 : T ≤ 6) (ht : t < T) (ha : isVal a = true) (hb : isVal b = true) (hne : a ≠ b) : ∀ (d s : Nat), s + d = T → s ≤ t → ofA T (oneRow t a b (2 ^ T)) d [] 0 = ([.leaf a, .leaf b, .fork t 0 1], 2) := by
  intro d
  induction d with
  | zero => intro s hs hst; omega
  | succ d ih =>
    intro s hs hst
    have es : T - (d + 1) = s := by omega
    unfold ofA
    rw [es]
    by_cases e : s = t
    · subst e
      rw [ofA_low h6 ht ha hb d (s + 1) 0 (by omega) (by omega) (Nat.pow_pos (by decide)) (by simp)]
      simp only
      rw [ofA_high h6 ht ha hb hne d (s + 1) (0 ||| 2 ^ s) (by omega) (by omega) (or_lt (Nat.pow_pos (by decide))) (by simp)]
      simp only
      have h0 : underB [Nd.leaf a, Nd.leaf b] 0 (s : Int) = true := (underB_iff (L := [Nd.leaf a, Nd.leaf b]) (i := 0) (t := s)).2 ⟨by simp, by intro u lo hi e; simp at e⟩
      have h1 : underB [Nd.leaf a, Nd.leaf b] 1 (s : Int) = true := (underB_iff (L := [Nd.leaf a, Nd.leaf b]) (i := 1) (t := s)).2 ⟨by simp, by intro u lo hi e; simp at e⟩
      unfold mkA
      rw [if_neg (by rw [h0, h1]; simp; omega), if_neg (by decide)]
      simp [idOf]
    · rw [ih (s + 1) (by omega) (by omega)]
      simp only
      have e2 : ofA T (oneRow t a b (2 ^ T)) d [.leaf a, .leaf b, .fork t 0 1] (0 ||| 2 ^ s) = ([.leaf a, .leaf b, .fork t 0 1], ((2 : Nat) : Int)) := by
        refine ofA_have (oneRow_len t a b _) (oneRow_all ha hb) (wf_3 h6 ht ha hb hne) d (s + 1) (0 ||| 2 ^ s) 2 (by omega) (or_lt (Nat.pow_pos (by decide))) (by simp) (by intro u lo hi e; simp at e; omega) fun x hx _ => ?_
        rw [val_fork (wf_3 h6 ht ha hb hne) (t := t) (lo := 0) (hi := 1) rfl, oneRow_get hx]
        split
        · exact val_leaf rfl
        · exact val_leaf rfl
      rw [e2]
      have hu : underB [Nd.leaf a, Nd.leaf b, Nd.fork t 0 1] 2 (s : Int) = true := (underB_iff (L := [Nd.leaf a, Nd.leaf b, Nd.fork t 0 1]) (i := 2) (t := s)).2 ⟨by simp, by intro u lo hi e; simp at e; omega⟩
      have e3 : mkA T [.leaf a, .leaf b, .fork t 0 1] (s : Nat) (2 : Int) ((2 : Nat) : Int) = ([.leaf a, .leaf b, .fork t 0 1], 2) := by
        unfold mkA
        rw [if_neg (by simp only [show ((2 : Nat) : Int) = 2 from rfl, hu]; simp; omega), if_pos (by simp)]
      exact e3

/-- A list of two values that rises. -/
theorem two_form {a b : Int} (hab : a < b) : ∀ zs : List Int, zs.Pairwise (fun x y => decide (x ≤ y) = true) → (∀ x ∈ zs, x = a ∨ x = b) → ∃ m n, zs = List.replicate m a ++ List.replicate n b
  | [], _, _ => ⟨0, 0, rfl⟩
  | x :: zs, hp, h => by
    obtain ⟨h1, h2⟩ := List.pairwise_cons.1 hp
    obtain ⟨m, n, e⟩ := two_form hab zs h2 fun y hy => h y (by simp [hy])
    rcases h x (by simp) with rfl | rfl
    · exact ⟨m + 1, n, by rw [e]; rfl⟩
    · cases m with
      | zero => exact ⟨0, n + 1, by rw [e]; rfl⟩
      | succ m =>
        have : a ∈ zs := by rw [e]; simp [List.replicate_succ]
        have := h1 a this
        simp at this
        omega

theorem filter_first : ∀ (m : Nat) (p : Nat → Bool), 0 < m → p 0 = true → (∀ j, 0 < j → j < m → p j = false) → ((List.range m).filter p).length = 1 := fun m p hm h0 h => by
  obtain ⟨m, rfl⟩ : ∃ q, m = q + 1 := ⟨m - 1, by omega⟩
  rw [List.range_succ_eq_map, List.filter_cons, if_pos h0, List.length_cons]
  have : ((List.range m).map Nat.succ).filter p = [] := by
    rw [List.filter_eq_nil_iff]
    intro x hx
    obtain ⟨j, hj, rfl⟩ := List.mem_map.1 hx
    rw [h (j + 1) (by omega) (by have := List.mem_range.1 hj; omega)]
    decide
  rw [this]; rfl

theorem compact_two {a b : Int} (hab : a ≠ b) {m n : Nat} (hm : 0 < m) (hn : 0 < n) : (Lib.compact (List.replicate m a ++ List.replicate n b)).length = 2 := by
  have hg : ∀ j, j < m + n → (List.replicate m a ++ List.replicate n b).toArray[j]! = if j < m then a else b := fun j hj => by
    rw [getElem!_pos _ _ (by simpa using hj)]
    simp only [List.getElem_toArray]
    split
    · rename_i h; rw [List.getElem_append_left (by simpa using h)]; simp
    · rename_i h; rw [List.getElem_append_right (by simp; omega)]; simp
  unfold Lib.compact Lib.compactUpTo
  rw [List.length_map, List.length_append, List.length_replicate, List.length_replicate]
  generalize (List.replicate m a ++ List.replicate n b).toArray = d at hg
  have k0 : Lib.keeps d 0 = true := Lib.keeps_lt_one d 0 (by decide)
  have km : Lib.keeps d m = true := Lib.keeps_pos (by rw [hg m (by omega), hg (m - 1) (by omega), if_neg (by omega), if_pos (by omega)]; exact fun e => hab e.symm)
  have kn : ∀ j, 0 < j → j < m + n → j ≠ m → Lib.keeps d j = false := fun j h0 hj hne => Lib.keeps_neg h0 (by
    rw [hg j hj, hg (j - 1) (by omega)]
    by_cases h : j < m
    · rw [if_pos h, if_pos (by omega)]
    · rw [if_neg h, if_neg (by omega)])
  rw [List.range_add, List.filter_append, List.length_append]
  have h1 := filter_first m (Lib.keeps d) hm k0 fun j h0 hj => kn j h0 (by omega) (by omega)
  have h2 : (((List.range n).map (m + ·)).filter (Lib.keeps d)).length = 1 := by
    rw [List.filter_map, List.length_map]
    exact filter_first n _ hn (by simpa using km) fun j h0 hj => kn (m + j) (by omega) (by omega) (by omega)
  omega

theorem compact_row (a b : Int) (hab : a ≠ b) (zs row : List Int) (hp : zs.Perm row) (hs : zs.Pairwise (fun x y => decide (x ≤ y) = true)) (h : ∀ x ∈ row, x = a ∨ x = b) (ha : a ∈ row) (hb : b ∈ row) : (Lib.compact zs).length = 2 := by
  have hz : ∀ x ∈ zs, x = a ∨ x = b := fun x hx => h x (hp.mem_iff.1 hx)
  have ha' := hp.mem_iff.2 ha
  have hb' := hp.mem_iff.2 hb
  rcases Int.lt_or_gt_of_ne hab with hlt | hlt
  · obtain ⟨m, n, rfl⟩ := two_form hlt zs hs hz
    refine compact_two hab (Nat.pos_of_ne_zero fun e => ?_) (Nat.pos_of_ne_zero fun e => ?_)
    · subst e; simp at ha'; exact hab ha'.2
    · subst e; simp at hb'; exact hab hb'.2.symm
  · obtain ⟨m, n, rfl⟩ := two_form hlt zs hs fun x hx => (hz x hx).symm
    refine compact_two (Ne.symm hab) (Nat.pos_of_ne_zero fun e => ?_) (Nat.pos_of_ne_zero fun e => ?_)
    · subst e; simp at hb'; exact hab hb'.2.symm
    · subst e; simp at ha'; exact hab ha'.2

end Go.Proofs.Ytameihkcajceeaa
