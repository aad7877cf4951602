/- The walk of sibylref21.Shortest. -/
import Derived.Test.YtbmpnfibebiaeaaRef21b
namespace Go.Proofs.Ytbmpnfibebiaeaa
open Go.RowKit

attribute [local irreducible] wpQuiet wpPlan wpPlanZ wpUp

variable {R : Ending → World → Prop} {w : World} {A : Au}

/-- The state of the search: the states in vl, their words in vm, those seen in vs. -/
structure WdSt (W1 : Nat) (w1 wr : World) (vl vm vs : Value) (L : List (Nat × List Nat)) (o : List Int) : Prop where
  own : OwnInts wr W1 vl (L.map fun p => (p.1 : Int))
  rows : ∃ us : List Value, wr.ownsRow W1 37 1 vm L.length us ∧ us.length = L.length ∧ ∀ (i : Nat) (u : Value) (p : Nat × List Nat), us[i]? = some u → L[i]? = some p → OwnInts wr W1 u (p.2.map Int.ofNat) ∧ ∀ b, u.ownBlock = some b → vl.ownBlock ≠ some b
  seen : IntsAt wr vs o
  apart : ∀ b, live vs = some b → vl.ownBlock ≠ some b ∧ vm.ownBlock ≠ some b
  keep : Same w1 wr
  low : W1 = w1.heap.size
  rise : o.Pairwise (· < ·)
  mem : ∀ y, y ∈ o ↔ ∃ p ∈ L, y = (p.1 : Int)

theorem WdSt.same {W1 : Nat} {w1 wr wr' : World} {vl vm vs : Value} {L : List (Nat × List Nat)} {o : List Int} (h : WdSt W1 w1 wr vl vm vs L o) (k : Same wr wr') : WdSt W1 w1 wr' vl vm vs L o := by
  obtain ⟨us, h1, h2, h3⟩ := h.rows
  exact ⟨h.own.same k, ⟨us, ownsRow_keep h1 k fun _ _ => trivial, h2, fun i u p hu hp => ⟨(h3 i u p hu hp).1.same k, (h3 i u p hu hp).2⟩⟩, h.seen.same k, h.apart, h.keep.tr k, h.low, h.rise, h.mem⟩

theorem WdSt.swap {W1 : Nat} {w1 wr : World} {vl vm vs vx : Value} {L : List (Nat × List Nat)} {o o2 : List Int} (h : WdSt W1 w1 wr vl vm vs L o) (hx : IntsAt wr vx o2) (ha : ∀ b, live vx = some b → vl.ownBlock ≠ some b ∧ vm.ownBlock ≠ some b) (hr : o2.Pairwise (· < ·)) (hm : ∀ y, y ∈ o2 ↔ ∃ p ∈ L, y = (p.1 : Int)) :
    WdSt W1 w1 wr vl vm vx L o2 := ⟨h.own, h.rows, hx, ha, h.keep, h.low, hr, hm⟩

/-- A word's cell. -/
theorem WdSt.word {W1 : Nat} {w1 wr : World} {vl vm vs : Value} {L : List (Nat × List Nat)} {o : List Int} {i : Nat} {p : Nat × List Nat} (h : WdSt W1 w1 wr vl vm vs L o) (hp : L[i]? = some p) :
    ∃ gm cm a c, vm = .slice (some ⟨gm, 0, none⟩) L.length cm ∧ wr.cell? ⟨gm, i, none⟩ = some (.slice a p.2.length c) ∧ OwnInts wr W1 (.slice a p.2.length c) (p.2.map Int.ofNat) ∧ (∀ b, (Value.slice a p.2.length c).ownBlock = some b → vl.ownBlock ≠ some b) ∧ L.length ≤ cm ∧ cm ≤ maxLen ∧ gm < wr.heap.size := by
  obtain ⟨us, h1, h2, h3⟩ := h.rows
  have hlt := (List.getElem?_eq_some_iff.1 hp).1
  obtain ⟨u, hu⟩ : ∃ u, us[i]? = some u := ⟨_, List.getElem?_eq_getElem (by omega)⟩
  obtain ⟨ho, ha⟩ := h3 i u p hu hp
  obtain ⟨a, c, rfl⟩ := ho.shape
  rw [List.length_map] at ho ha hu
  rcases h1 with ⟨_, ⟨_, h0⟩ | ⟨g', cap, cur, rfl, hB, hg, q1, q2, q3, q4⟩⟩
  · omega
  · refine ⟨g', cap, a, c, rfl, ?_, ho, ha, q1, q2, heap_lt hg⟩
    rw [cell_at hg]
    rw [← q4, List.getElem?_take] at hu
    split at hu
    · simpa using hu
    · cases hu

theorem WdSt.push {W1 : Nat} {w1 wr : World} {vl vm vs vx : Value} {L : List (Nat × List Nat)} {o o2 : List Int} {i s c : Nat} {p : Nat × List Nat} {gm cm cc : Nat} {a : Option Addr} (h : WdSt W1 w1 wr vl vm vs L o) (hl : L.length ≤ 1000) (hpl : p.2.length ≤ 1000)
    (hvm : vm = .slice (some ⟨gm, 0, none⟩) L.length cm) (hcell : wr.cell? ⟨gm, i, none⟩ = some (.slice a p.2.length cc)) (ho : OwnInts wr W1 (.slice a p.2.length cc) (p.2.map Int.ofNat)) (hoa : ∀ b, (Value.slice a p.2.length cc).ownBlock = some b → vl.ownBlock ≠ some b) (hpb : ∀ x ∈ p.2, x ≤ 1000)
    (hx : IntsAt wr vx o2) (hap : ∀ b, live vx = some b → vl.ownBlock ≠ some b ∧ vm.ownBlock ≠ some b) (hr : o2.Pairwise (· < ·)) (hm : ∀ y, y ∈ o2 ↔ y = (s : Int) ∨ y ∈ o) :
    ∃ g1 cap1 w2 v3 w3 g4 cap4 w4 g5 cap5 w5,
      (Builtin.append_ #[37, 37] 37 #[vl, .slice (some ⟨wr.heap.size, 0, none⟩) 1 1]).run Try.prog (wr.alloc (.cells #[.int .i64 (s : Int)] 3)) = .ok (.slice (some ⟨g1, 0, none⟩) (L.length + 1) cap1) w2 ∧
      (w2.alloc (.cells #[] 3)).cell? ⟨gm, i, none⟩ = some (.slice a p.2.length cc) ∧
      (Builtin.append_ #[37, 37] 37 #[.slice (some ⟨w2.heap.size, 0, none⟩) 0 0, .slice a p.2.length cc]).run Try.prog (w2.alloc (.cells #[] 3)) = .ok v3 w3 ∧
      (Builtin.append_ #[37, 37] 37 #[v3, .slice (some ⟨w3.heap.size, 0, none⟩) 1 1]).run Try.prog (w3.alloc (.cells #[.int .i64 (c : Int)] 3)) = .ok (.slice (some ⟨g4, 0, none⟩) (p.2.length + 1) cap4) w4 ∧
      (Builtin.append_ #[23, 23] 23 #[vm, .slice (some ⟨w4.heap.size, 0, none⟩) 1 1]).run Try.prog (w4.alloc (.cells #[.slice (some ⟨g4, 0, none⟩) (p.2.length + 1) cap4] 37)) = .ok (.slice (some ⟨g5, 0, none⟩) (L.length + 1) cap5) w5 ∧
      WdSt W1 w1 w5 (.slice (some ⟨g1, 0, none⟩) (L.length + 1) cap1) (.slice (some ⟨g5, 0, none⟩) (L.length + 1) cap5) vx (L ++ [(s, p.2 ++ [c])]) o2 := by
  have hW := h.low
  have hWr : W1 ≤ wr.heap.size := by rw [hW]; exact h.keep.size
  obtain ⟨us, m1, m2, m3⟩ := h.rows
  -- the states
  obtain ⟨g1, cap1, w2, r1, o1, k1, e1, l1⟩ := append_one (P := Try.prog) wr 37 37 3 Try.underlying37 int_info rfl h.own hWr (.int .i64 (s : Int)) rfl (by simp; omega) (by decide)
  rw [List.length_map] at r1 o1
  have hlive : ∀ b, live vx = some b → b < wr.heap.size := hx.lt
  have ho2 : OwnInts w2 W1 (.slice a p.2.length cc) (p.2.map Int.ofNat) := ho.keep k1 fun b hb => hoa b hb
  have hpi : ∀ x ∈ p.2.map Int.ofNat, InI64 x := fun x hx => by
    obtain ⟨y, hy, rfl⟩ := List.mem_map.1 hx
    have := hpb y hy
    unfold InI64; simp only [Int.ofNat_eq_natCast]; omega
  have hmb : ∀ b, vm.ownBlock = some b → ∃ cur, wr.heap[b]? = some (.cells cur 37 (0, 0)) := fun b hb => (ownsRow_block m1 hb).2
  have hvlm : ∀ b, vm.ownBlock = some b → vl.ownBlock ≠ some b := fun b hb => by
    obtain ⟨cur, hcu⟩ := hmb b hb
    exact h.own.ne_block hcu (by decide)
  have hgm : vm.ownBlock = some gm := by rw [hvm]; rfl
  have hcell2 : w2.cell? ⟨gm, i, none⟩ = some (.slice a p.2.length cc) := Keeps.cell k1 hcell (hvlm gm hgm)
  -- the word, copied
  have ka : Same w2 (w2.alloc (.cells #[] 3)) := (Keeps.refl _ w2).alloc _
  obtain ⟨v3, w3, r3, o3, k3, e3⟩ := append_all (own_none w2 (Nat.le_refl _)) ((ho2.ints hpi).same ka) ka.size (by simp; omega)
  rw [List.nil_append] at o3
  have s23 : Same w2 w3 := ka.trans k3 fun b hb _ => ⟨trivial, by simp [Value.ownBlock]; omega⟩
  -- with a letter more
  obtain ⟨g4, cap4, w4, r4, o4, k4, e4, l4⟩ := append_one (P := Try.prog) w3 37 37 3 Try.underlying37 int_info rfl o3 s23.size (.int .i64 (c : Int)) rfl (by simp; omega) (by decide)
  rw [List.length_map] at r4 o4
  have s24 : Same w2 w4 := s23.trans k4 fun b hb _ => ⟨trivial, fun e => by have := (OwnInts.low (l := p.2.map Int.ofNat) o3 e).1; omega⟩
  have hg4 : w2.heap.size ≤ g4 := by
    rcases e4 with e | e
    · exact (OwnInts.low (l := p.2.map Int.ofNat) o3 e).1
    · have := s23.size; omega
  have o4' : OwnInts w4 W1 (.slice (some ⟨g4, 0, none⟩) (p.2.length + 1) cap4) ((p.2 ++ [c]).map Int.ofNat) := by
    have := ownsRow_below o4 (show W1 ≤ w2.heap.size from Nat.le_trans hWr k1.size)
    unfold OwnInts
    simpa using this
  -- the words
  have m1' : w4.ownsRow W1 37 1 vm L.length us := ownsRow_keep (ownsRow_keep m1 k1 fun b hb => hvlm b hb) s24 fun _ _ => trivial
  obtain ⟨g5, cap5, w5, r5, o5, k5, e5, l5⟩ := append_wide (P := Try.prog) w4 23 23 37 Try.underlying23 ints_info rfl m1' (by have := s24.size; have := k1.size; omega) (.slice (some ⟨g4, 0, none⟩) (p.2.length + 1) cap4) rfl (by omega) (by decide)
  refine ⟨g1, cap1, w2, v3, w3, g4, cap4, w4, g5, cap5, w5, r1, Keeps.cell ka hcell2 trivial, r3, r4, r5, ?_⟩
  have hmb4 : ∀ b, vm.ownBlock = some b → ∃ cur, w4.heap[b]? = some (.cells cur 37 (0, 0)) := fun b hb => (ownsRow_block m1' hb).2
  have hty : ∀ {z : Value} {l : List Int}, OwnInts w4 W1 z l → OwnInts w5 W1 z l := fun hz => hz.keep k5 fun b hb e => by
    obtain ⟨cur, hcu⟩ := hmb4 b e
    exact hz.ne_block hcu (by decide) hb
  have hown2 : OwnInts w2 W1 (.slice (some ⟨g1, 0, none⟩) (L.length + 1) cap1) ((L ++ [(s, p.2 ++ [c])]).map fun p => (p.1 : Int)) := by
    unfold OwnInts; simpa using o1
  refine ⟨hty (hown2.same s24), ⟨us ++ [.slice (some ⟨g4, 0, none⟩) (p.2.length + 1) cap4], by simpa using o5, by simp [m2], fun j u q hu hq => ?_⟩, ?_, fun b hb => ⟨fun e => ?_, fun e => ?_⟩, ?_, hW, hr, fun y => ?_⟩
  · by_cases hj : j < L.length
    · rw [List.getElem?_append_left (by omega)] at hu
      rw [List.getElem?_append_left hj] at hq
      obtain ⟨n1, n2⟩ := m3 j u q hu hq
      refine ⟨hty ((n1.keep k1 fun b hb => n2 b hb).same s24), fun b hb e => ?_⟩
      simp [Value.ownBlock] at e
      subst e
      rcases e1 with e | e
      · exact n2 _ hb e
      · have := (n1.low hb).2; omega
    · have hj2 : j = L.length := by
        have := (List.getElem?_eq_some_iff.1 hq).1
        simp at this; omega
      subst hj2
      rw [List.getElem?_append_right (by omega)] at hu hq
      simp [m2] at hu hq
      subst hu; subst hq
      refine ⟨hty o4', fun b hb e => ?_⟩
      simp [Value.ownBlock] at hb e
      omega
  · exact ((hx.keep k1 fun b hb => (hap b hb).1).same s24).keep k5 fun b hb => (hap b hb).2
  · simp [Value.ownBlock] at e
    subst e
    rcases e1 with e | e
    · exact (hap _ hb).1 e
    · have := hlive _ hb; omega
  · simp [Value.ownBlock] at e
    subst e
    rcases e5 with e | e
    · exact (hap _ hb).2 e
    · have := hlive _ hb; have := k1.size; have := s24.size; omega
  · refine ((h.keep.trans k1 fun b hb _ => ⟨trivial, fun e => ?_⟩).tr s24).trans k5 fun b hb _ => ⟨trivial, fun e => ?_⟩
    · have := (h.own.low e).1; omega
    · have := (ownsRow_block m1 e).1; omega
  · rw [hm, h.mem]
    constructor
    · rintro (e | ⟨q, hq, e⟩)
      · exact ⟨_, List.mem_append_right _ (List.mem_singleton.2 rfl), e⟩
      · exact ⟨q, List.mem_append_left _ hq, e⟩
    · rintro ⟨q, hq, e⟩
      rcases List.mem_append.1 hq with hq | hq
      · exact .inr ⟨q, hq, e⟩
      · simp at hq; subst hq; exact .inl e

/-- Rising numbers below n are at most n. -/
theorem rise_len1 {n : Nat} {o : List Int} (ho : o.Pairwise (· < ·)) (hb : ∀ y ∈ o, 0 ≤ y ∧ y < (n : Int)) : o.length ≤ n := by
  have := nodup_lt n (o.map Int.toNat) (by
    rw [List.nodup_iff_pairwise_ne, List.pairwise_map]
    refine List.Pairwise.imp_of_mem ?_ ho
    intro a b ha hb' hab e
    have := hb a ha
    have := hb b hb'
    omega) (by
    intro x hx
    obtain ⟨y, hy, rfl⟩ := List.mem_map.1 hx
    have := hb y hy
    omega)
  simpa using this

set_option maxRecDepth 10000 in
set_option maxHeartbeats 8000000 in
theorem refShortest {v : Value} (hA : AutoAt w v A) (hok : AuOk A)
    (hR : ∀ e w' u x, e = .returned (.tuple #[u, .bool true]) → LeastW A x → IntsAt w' u (x.map Int.ofNat) → Same w w' → R e w')
    (hN : ∀ e w', e = .returned (.tuple #[.slice none 0 0, .bool false]) → (∀ v, InR A v → ac A (runN A 0 v) = false) → Same w w' → R e w') :
    Calls Try.prog 16 #[v] w R := by
  have HR := hide hR
  have HNN := hide hN
  clear hR hN
  have HOK := hide hok
  obtain ⟨va, vn, rfl, hacc, hnext, hT⟩ := hA
  obtain ⟨aa, ac', rfl, _, ha2, hacell⟩ := hacc.open
  obtain ⟨na, nc, rfl, _, hn2, hnc⟩ := hnext.open
  have hn1 : 0 < A.acc.length := hok.1.2.2.1
  have hn4 : A.acc.length ≤ 400 := hok.1.2.2.2.1
  have HNL := hide hok.1.2.2.2.2
  have HP64 := hide (two_le (show A.T.toNat ≤ 6 by have := hok.1.1; have := hok.1.2.1; omega))
  obtain ⟨nb, noff, rfl, _, _⟩ := hnc 0 (by rw [HNL.out]; exact hn1)
  obtain ⟨ab, aoff, rfl, _, _⟩ := hacell 0 hn1
  have HNC := hide hnc
  have HAC := hide hacell
  have hbx := heap_new w (.cells #[.int .i64 A.T, .slice (some ⟨ab, aoff, none⟩) A.acc.length ac', .slice (some ⟨nb, noff, none⟩) A.next.length nc] 25)
  have hk1 : Same w (w.alloc (.cells #[.int .i64 A.T, .slice (some ⟨ab, aoff, none⟩) A.acc.length ac', .slice (some ⟨nb, noff, none⟩) A.next.length nc] 25)) := (Keeps.refl _ w).alloc _
  unfold maxLen at hn2 ha2
  clear hok hacc hnext hT hnc hacell
  go_enter Try.func16, Try.ntmps16
  go_wp2_with fail
  obtain ⟨W1, hW1⟩ : ∃ W1, W1 = (w.alloc (.cells #[.int .i64 A.T, .slice (some ⟨ab, aoff, none⟩) A.acc.length ac', .slice (some ⟨nb, noff, none⟩) A.next.length nc] 25)).heap.size := ⟨_, rfl⟩
  have hx1 : W1 = w.heap.size + 1 := by rw [hW1]; simp
  generalize w.alloc (.cells #[.int .i64 A.T, .slice (some ⟨ab, aoff, none⟩) A.acc.length ac', .slice (some ⟨nb, noff, none⟩) A.next.length nc] 25) = w1 at hbx hk1 hW1 ⊢
  generalize w.heap.size = x1 at hbx hx1 ⊢
  rw [← hx1]
  have b1 := cell_at hbx 1
  have b2 := cell_at hbx 2
  simp only [List.getElem?_toArray, List.getElem?_cons_zero, List.getElem?_cons_succ] at b1 b2
  have HB1 := hide b1
  have HB2 := hide b2
  have HK1 := hide hk1
  clear hk1 b1 b2 hbx hx1
  have ka : Same w1 (((w1.alloc (.cells #[.int .i64 0] 3)).alloc (.cells #[] 3)).alloc (.cells #[.slice (some ⟨W1 + 1, 0, none⟩) 0 0] 37)) := (((Keeps.refl _ w1).alloc _).alloc _).alloc _
  have h1 := heap_new w1 (.cells #[.int .i64 0] 3)
  rw [← hW1] at h1
  have e1 : (w1.alloc (.cells #[.int .i64 0] 3)).heap.size = W1 + 1 := by simp [hW1]
  have h2 := own_none (w1.alloc (.cells #[.int .i64 0] 3)) (B := W1) (by omega)
  rw [e1] at h2
  have e2 : ((w1.alloc (.cells #[.int .i64 0] 3)).alloc (.cells #[] 3)).heap.size = W1 + 1 + 1 := by simp [e1]
  have h3 := heap_new ((w1.alloc (.cells #[.int .i64 0] 3)).alloc (.cells #[] 3)) (.cells #[.slice (some ⟨W1 + 1, 0, none⟩) 0 0] 37)
  rw [e2] at h3
  have h1' := heap_old (heap_old h1 (.cells #[] 3)) (.cells #[.slice (some ⟨W1 + 1, 0, none⟩) 0 0] 37)
  have h2' : OwnInts (((w1.alloc (.cells #[.int .i64 0] 3)).alloc (.cells #[] 3)).alloc (.cells #[.slice (some ⟨W1 + 1, 0, none⟩) 0 0] 37)) W1 (.slice (some ⟨W1 + 1, 0, none⟩) 0 0) [] := h2.same ((Keeps.refl _ _).alloc _)
  have e3 : (((w1.alloc (.cells #[.int .i64 0] 3)).alloc (.cells #[] 3)).alloc (.cells #[.slice (some ⟨W1 + 1, 0, none⟩) 0 0] 37)).heap.size = W1 + 1 + 1 + 1 := by simp [e2]
  generalize ((w1.alloc (.cells #[.int .i64 0] 3)).alloc (.cells #[] 3)).alloc (.cells #[.slice (some ⟨W1 + 1, 0, none⟩) 0 0] 37) = w2 at ka h1' h2' h3 e3 ⊢
  have H1 := hide h1'
  have H2 := hide h2'
  have H3 := hide h3
  have KA := hide ka
  have E3 := hide e3
  have HW1 := hide hW1
  clear h1 h2 h3 h1' h2' e1 e2 e3 ka hW1
  refine refAdd (v := .slice none 0 0) (l := []) (OwnInts.ints (B := 0) (World.ownsRow_nil _ _ _ _) (by simp)) (by simp) (by simp) ⟨by decide, by decide⟩ ?_; rintro e w3 vs o bb hbb rfl hi3 hr3 hm3 _ hb3 k3
  have hst : WdSt W1 w1 w3 (.slice (some ⟨W1, 0, none⟩) 1 1) (.slice (some ⟨W1 + 1 + 1, 0, none⟩) 1 1) vs [(0, [])] o := by
    refine ⟨RowIn.own (l := [0]) (k3.at H1.out trivial) (Nat.le_refl _) rfl (by decide), ⟨[.slice (some ⟨W1 + 1, 0, none⟩) 0 0], ⟨by simp, .inr ⟨_, 1, _, rfl, by omega, k3.at H3.out trivial, Nat.le_refl _, by decide, by simp, by simp⟩⟩, rfl, fun i u p hu hp => ?_⟩, hi3, fun b hb => ?_, KA.out.tr k3, HW1.out, hr3, fun y => by rw [hm3]; simp⟩
    · match i with
      | 0 =>
        simp at hu hp; subst hu; subst hp
        exact ⟨H2.out.same k3, fun b hb => by simp [Value.ownBlock] at hb ⊢; omega⟩
      | n + 1 => simp at hu
    · rcases hb3 b hb with h | h
      · simp [live] at h
      · have := E3.out
        simp [Value.ownBlock]; omega
  have HST := hide hst
  clear hst hbb hi3 hr3 hm3 hb3 k3
  go_wp2_with fail
  go_loopw [4, 5, 6, 7] (fun vl vm vs i wr => ∃ (k : Nat) (L : List (Nat × List Nat)) (o : List Int), i = .int .i64 k ∧ k ≤ L.length ∧ L.length ≤ A.acc.length ∧ Hid (RefI A k 0 L) ∧ Hid (WdSt W1 w1 wr vl vm vs L o)) (fun _ _ _ i _ => A.acc.length - (intOf i).toNat)
  case atStart => exact ⟨0, [(0, [])], o, rfl, Nat.zero_le _, hn1, RefI.start A, HST.out⟩
  case round =>
    obtain ⟨k, L, o, rfl, hk, hln, hri, hst⟩ := hrel
    by_cases hlt : k < L.length
    · obtain ⟨p, hp⟩ : ∃ p, L[k]? = some p := ⟨_, List.getElem?_eq_getElem hlt⟩
      obtain ⟨s, wd⟩ := p
      have hsn : s < A.acc.length := hri.out.states_lt HOK.out _ (List.mem_of_getElem? hp)
      have hsl : s < A.next.length := by rw [HNL.out]; exact hsn
      obtain ⟨gm, cm, wa, wc, rfl, hw1, hw2, hw3, hw4, hw5, _⟩ := hst.out.word hp
      have hwb : ∀ x ∈ wd.map Int.ofNat, InI64 x := fun x hx => by
        obtain ⟨y, hy, rfl⟩ := List.mem_map.1 hx
        have h1 := (hri.out.run _ (List.mem_of_getElem? hp)).2 y hy
        have h2 := HP64.out
        unfold InI64; simp only [Int.ofNat_eq_natCast]; omega
      unfold maxLen at hw5
      obtain ⟨la, lc, rfl⟩ : ∃ la lc, u4 = .slice la L.length lc := by simpa using hst.out.own.shape
      have hlb : ∀ y ∈ L.map (fun p => (p.1 : Int)), InI64 y := fun y hy => by
        obtain ⟨q, hq, rfl⟩ := List.mem_map.1 hy
        have := hri.out.states_lt HOK.out q hq
        unfold InI64; omega
      obtain ⟨_, _, e1, _, hc2, hcell⟩ := (hst.out.own.ints hlb).open
      simp only [Value.slice.injEq, List.length_map] at e1
      obtain ⟨rfl, _, rfl⟩ := e1
      have hkm : k < (L.map fun p => (p.1 : Int)).length := by simpa using hlt
      obtain ⟨lb, loff, rfl, _, hcl⟩ := hcell k hkm
      have hck := hcl k hkm
      have hlk : (L.map fun p => (p.1 : Int))[k] = (s : Int) := by
        simp only [List.getElem_map]
        rw [(List.getElem?_eq_some_iff.1 hp).2]
      rw [hlk] at hck
      obtain ⟨_, _, e2, _, hacl⟩ := HAC.out s hsn
      simp only [Option.some.injEq, Addr.mk.injEq, and_true] at e2
      obtain ⟨rfl, rfl⟩ := e2
      have hacl := hacl s hsn
      have HACS := hide (show ac A s = A.acc[s] by unfold ac; rw [List.getD_eq_getElem?_getD, List.getElem?_eq_getElem hsn]; rfl)
      have hak := Keeps.cell (HK1.out.tr hst.out.keep) hacl trivial
      have hbx := Keeps.cell hst.out.keep HB1.out trivial
      rw [← HACS.out] at hak
      have HP := hide hp
      have HRI := hide hri.out
      have HS := hide hst.out
      have HWI := hide (hw2.ints hwb)
      cases hac : ac A s with
      | true =>
        have HLW := hide (hri.out.found hp hac)
        rw [hac] at hak
        clear hri hst hp hcell hcl hkm hlk hacl hlb hwb hw2 hw3 HACS hac
        unfold maxLen at hc2
        go_wp2_with fail
        refine wp_region_same (by kernel_rfl) (by kernel_rfl) ?_
        iterate 8
          (apply wpQuiet_step
           intro K hK
           first
             | (apply quiet_skip
                case hw => rfl
                go_simp
                refine hK _ ?_; clear hK K)
             | (apply quiet_do
                case hw => rfl
                case h =>
                  intro w' hw'
                  (have z0 := Keeps.cell hw' hbx trivial; have z1 := Keeps.cell hw' hck trivial; have z2 := Keeps.cell hw' hak trivial)
                  go_simp
                  first | exact rfl | (fail)
                go_simp
                refine hK _ ?_; clear hK K))
        apply wpQuiet_nil
        intro w4 k4
        have hw1 := Keeps.cell k4 hw1 trivial
        have HI4 := hide (HWI.out.same k4)
        have HK4 := hide (HK1.out.tr (HS.out.keep.tr k4))
        clear k4 hbx hck hak
        go_wp2_with fail
        exact HR.out _ _ _ _ rfl HLW.out HI4.out HK4.out
      | false =>
        rw [hac] at hak
        have HACF := hide hac
        obtain ⟨_, _, e3, _, hncl⟩ := HNC.out s hsl
        simp only [Option.some.injEq, Addr.mk.injEq, and_true] at e3
        obtain ⟨rfl, rfl⟩ := e3
        obtain ⟨ru, hru, hri2⟩ := hncl s hsl
        have hrow : rowI A s = A.next[s] := by unfold rowI; rw [List.getD_eq_getElem?_getD, List.getElem?_eq_getElem hsl]; rfl
        have hro := HOK.out.2 _ (List.getElem_mem hsl)
        generalize A.next[s] = row at hri2 hrow hro
        obtain ⟨ra, rc, rfl, _, hr2, hrcl⟩ := hri2.open
        unfold maxLen at hr2
        have HRL := hide hro.1
        have HRU := hide (Keeps.cell HK1.out hru trivial)
        have HRC := hide hrcl
        have HROW := hide hrow
        have hrl : row.length ≤ 64 := by rw [hro.1]; exact HP64.out
        clear hri hst hp hcell hcl hkm hlk hacl hlb hwb hw1 hw2 hw3 hw4 HACS hac hncl hru hri2 hrow hro hrcl HWI
        unfold maxLen at hc2
        go_wp2_with fail
        refine wp_region_same (by kernel_rfl) (by kernel_rfl) ?_
        iterate 8
          (apply wpQuiet_step
           intro K hK
           first
             | (apply quiet_skip
                case hw => rfl
                go_simp
                refine hK _ ?_; clear hK K)
             | (apply quiet_do
                case hw => rfl
                case h =>
                  intro w' hw'
                  (have z0 := Keeps.cell hw' hbx trivial; have z1 := Keeps.cell hw' hck trivial; have z2 := Keeps.cell hw' hak trivial)
                  go_simp
                  first | exact rfl | (fail)
                go_simp
                refine hK _ ?_; clear hK K))
        apply wpQuiet_nil
        intro w4 k4
        have HS4 := hide (HS.out.same k4)
        clear k4 hbx hck hak
        go_wp2_with fail
        go_loopw [4, 5, 6, 8] (fun vl vm vs i wr => ∃ (c : Nat) (L : List (Nat × List Nat)) (o : List Int), i = .int .i64 c ∧ c ≤ row.length ∧ k < L.length ∧ L.length ≤ A.acc.length ∧ Hid (RefI A k c L ∧ L[k]? = some (s, wd)) ∧ Hid (WdSt W1 w1 wr vl vm vs L o)) (fun _ _ _ i _ => row.length - (intOf i).toNat)
        case atStart => exact ⟨0, L, o, rfl, Nat.zero_le _, hlt, hln, hide ⟨HRI.out, HP.out⟩, HS4.out⟩
        case round =>
          obtain ⟨c, L2, o2, rfl, hc, hkl2, hln2, hri, hst⟩ := hrel
          obtain ⟨gm, cm, wa, wc, rfl, hw1, hw2, hw3, hw4, hw5, _⟩ := hst.out.word hri.out.2
          unfold maxLen at hw5
          obtain ⟨la, lc, rfl⟩ : ∃ la lc, u4 = .slice la L2.length lc := by simpa using hst.out.own.shape
          have hlb : ∀ y ∈ L2.map (fun p => (p.1 : Int)), InI64 y := fun y hy => by
            obtain ⟨q, hq, rfl⟩ := List.mem_map.1 hy
            have := hri.out.1.states_lt HOK.out q hq
            unfold InI64; omega
          obtain ⟨_, _, e1, _, hc2, hcell⟩ := (hst.out.own.ints hlb).open
          simp only [Value.slice.injEq, List.length_map] at e1
          obtain ⟨rfl, _, rfl⟩ := e1
          have hkm : k < (L2.map fun p => (p.1 : Int)).length := by simpa using hkl2
          obtain ⟨lb, loff, rfl, _, hcl⟩ := hcell k hkm
          have hck := hcl k hkm
          have hlk : (L2.map fun p => (p.1 : Int))[k] = (s : Int) := by
            simp only [List.getElem_map]
            rw [(List.getElem?_eq_some_iff.1 hri.out.2).2]
          rw [hlk] at hck
          have hbx := Keeps.cell hst.out.keep HB2.out trivial
          have hru := Keeps.cell hst.out.keep HRU.out trivial
          have HRI2 := hide hri.out
          have HS2 := hide hst.out
          have HW := hide (And.intro hw2 hw3)
          have HW1 := hide hw1
          clear hri hst hcell hcl hkm hlk hlb hw1 hw2 hw3
          unfold maxLen at hc2
          by_cases hcr : c < row.length
          · go_wp2_with fail
            refine wp_region_same (by kernel_rfl) (by kernel_rfl) ?_
            iterate 11
              (apply wpQuiet_step
               intro K hK
               first
                 | (apply quiet_skip
                    case hw => rfl
                    go_simp
                    refine hK _ ?_; clear hK K)
                 | (apply quiet_do
                    case hw => rfl
                    case h =>
                      intro w' hw'
                      (have z0 := Keeps.cell hw' hbx trivial; have z1 := Keeps.cell hw' hck trivial; have z2 := Keeps.cell hw' hru trivial)
                      go_simp
                      first | exact rfl | (fail)
                    go_simp
                    refine hK _ ?_; clear hK K))
            apply wpQuiet_nil
            intro w5 k5
            have HS5 := hide (HS2.out.same k5)
            have hck5 := Keeps.cell k5 hck trivial
            have hbx5 := Keeps.cell k5 hbx trivial
            have hru5 := Keeps.cell k5 hru trivial
            obtain ⟨y, hy⟩ : ∃ y, y = row[c] := ⟨_, rfl⟩
            have hcp : c < 2 ^ A.T.toNat := by rw [← HRL.out]; exact hcr
            have hyn : row[c]? = some (nx A s c : Int) := by rw [← HROW.out, rowI_eq HOK.out hsn, List.getElem?_map, rowN_get hcp]; rfl
            have hnx := nx_lt HOK.out s c
            obtain ⟨rb, roff, rfl, _, hrm⟩ := HRC.out c hcr
            have hrm := hrm c hcr
            rw [(List.getElem?_eq_some_iff.1 hyn).2] at hrm
            have hrm5 := Keeps.cell (HK1.out.tr HS5.out.keep) hrm trivial
            have HOLD : Hid (nx A s c ∈ L2.map Prod.fst → RefI A k (c + 1) L2) := hide (fun h => HRI2.out.1.old HRI2.out.2 h)
            have HNEW : Hid (nx A s c ∉ L2.map Prod.fst → RefI A k (c + 1) (L2 ++ [(nx A s c, wd ++ [c])])) := hide (fun h => HRI2.out.1.new HRI2.out.2 hcp h)
            generalize nx A s c = t at hyn hnx hrm hrm5 HOLD HNEW
            have HW5 := hide (Keeps.cell k5 HW1.out trivial)
            have HOB : Hid (o2.length ≤ 400) := hide (Nat.le_trans (rise_len1 (n := A.acc.length) HS2.out.rise fun y hy => by
              obtain ⟨q, hq, rfl⟩ := (HS2.out.mem y).1 hy
              have := HRI2.out.1.states_lt HOK.out q hq
              omega) hn4)
            have HTB : Hid ((0 : Int) ≤ (t : Int) ∧ (t : Int) ≤ 100000) := hide ⟨by omega, by omega⟩
            have HKA := hide k5
            clear hy hyn hrm k5 hck hbx hru
            go_wp2_with fail
            refine wp_region_same (by kernel_rfl) (by kernel_rfl) ?_
            iterate 12
              (apply wpQuiet_step
               intro K hK
               first
                 | (apply quiet_skip
                    case hw => rfl
                    go_simp
                    refine hK _ ?_; clear hK K)
                 | (apply quiet_do
                    case hw => rfl
                    case h =>
                      intro w' hw'
                      (have z0 := Keeps.cell hw' hbx5 trivial; have z1 := Keeps.cell hw' hck5 trivial; have z2 := Keeps.cell hw' hru5 trivial; have z3 := Keeps.cell hw' hrm5 trivial)
                      go_simp
                      first | exact rfl | (fail)
                    go_simp
                    refine hK _ ?_; clear hK K))
            apply wpQuiet_nil
            intro w6 k6
            have HS6 := hide (HS5.out.same k6)
            have HW6 := hide (Keeps.cell k6 HW5.out trivial)
            have HKB := hide (HKA.out.tr k6)
            clear k6 hck5 hbx5 hru5 hrm5
            go_wp2_with fail
            refine refAdd HS6.out.seen (by have := HOB.out; omega) HS6.out.rise HTB.out ?_; rintro e w7 vx o7 bb hbb rfl hi7 hr7 hm7 _ hb7 k7
            have hap : ∀ b, live vx = some b → (Value.slice (some ⟨lb, loff, none⟩) L2.length lc).ownBlock ≠ some b ∧ (Value.slice (some ⟨gm, 0, none⟩) L2.length cm).ownBlock ≠ some b := fun b hb => by
              rcases hb7 b hb with h | h
              · exact HS6.out.apart b h
              · refine ⟨fun e => ?_, fun e => ?_⟩
                · have := (HS6.out.own.low e).2; omega
                · obtain ⟨us, h1, _⟩ := HS6.out.rows
                  obtain ⟨_, cur, hcur⟩ := ownsRow_block h1 e
                  have := heap_lt hcur; omega
            have HS7 := hide (HS6.out.same k7)
            have HW7 := hide (Keeps.cell k7 HW6.out trivial)
            have HO7 := hide (HW.out.1.same (HKB.out.tr k7))
            have HBB := hide hbb
            have HI7 := hide hi7
            have HR7 := hide hr7
            have HM7 := hide hm7
            have HAP := hide hap
            clear hbb hi7 hr7 hm7 hb7 hap k7
            by_cases hin : t ∈ L2.map Prod.fst
            · have hin2 : (t : Int) ∈ o2 := by
                obtain ⟨q, hq, hqe⟩ := List.mem_map.1 hin
                exact (HS2.out.mem _).2 ⟨q, hq, by rw [hqe]⟩
              obtain rfl : bb = false := by rw [HBB.out]; simpa using hin2
              have HRI3 := hide (HOLD.out hin)
              have HS8 := hide (HS7.out.swap HI7.out HAP.out HR7.out fun y => by
                rw [HM7.out, ← HS2.out.mem]
                exact ⟨fun h => h.elim (fun e => e ▸ hin2) id, .inr⟩)
              clear hin hin2
              go_wp2_with fail
              go_roundw
              case rel => exact ⟨c + 1, L2, o7, by go_num, by omega, hkl2, hln2, hide ⟨HRI3.out, HRI2.out.2⟩, HS8.out⟩
              case measure => simp [intOf]; omega
            · have hin2 : (t : Int) ∉ o2 := fun h => by
                obtain ⟨q, hq, hqe⟩ := (HS2.out.mem _).1 h
                exact hin (List.mem_map.2 ⟨q, hq, by omega⟩)
              obtain rfl : bb = true := by rw [HBB.out]; simpa using hin2
              have hri3 := HNEW.out hin
              have hwl := HRI2.out.1.len _ (List.mem_of_getElem? HRI2.out.2)
              have hwr := (HRI2.out.1.run _ (List.mem_of_getElem? HRI2.out.2)).2
              have hl3 := hri3.length_le HOK.out
              obtain ⟨g1, cap1, x2, v3, x3, g4, cap4, x4, g5, cap5, x5, r1, rc1, r3, r4, r5, hst9⟩ := HS7.out.push (s := t) (c := c) (p := (s, wd)) (i := k) (by omega) (by simp only at hwl ⊢; omega) rfl HW7.out HO7.out HW.out.2 (fun x hx => by
                have h1 := hwr x hx
                have h2 := HP64.out
                omega) HI7.out HAP.out HR7.out HM7.out
              simp only at rc1 r3 r4 r5 hst9
              have HRI3 := hide (And.intro hri3 (show (L2 ++ [(t, wd ++ [c])])[k]? = some (s, wd) by rw [List.getElem?_append_left hkl2]; exact HRI2.out.2))
              have HS9 := hide hst9
              have hcell7 := HW7.out
              clear hin hin2 hri3 hwl hwr hst9
              go_wp2_with (at_builtin; first | (refine wpList_append_run rfl _ _ _ rfl rfl rfl r1 ?_; clear r1) | (refine wpList_append_run rfl _ _ _ rfl rfl rfl r3 ?_; clear r3) | (refine wpList_append_run rfl _ _ _ rfl rfl rfl r4 ?_; clear r4) | (refine wpList_append_run rfl _ _ _ rfl rfl rfl r5 ?_; clear r5))
              go_roundw
              case rel => exact ⟨c + 1, L2 ++ [(t, wd ++ [c])], o7, by go_num, by omega, by simp; omega, hl3, HRI3.out, HS9.out⟩
              case measure => simp [intOf]; omega
          · obtain rfl : c = row.length := by omega
            have HNX : Hid (RefI A (k + 1) 0 L2) := hide (RefI.next (by have := HRI2.out.1; rw [HRL.out] at this; exact this) HRI2.out.2 HACF.out)
            go_wp2_with fail
            refine wp_region_same (by kernel_rfl) (by kernel_rfl) ?_
            iterate 11
              (apply wpQuiet_step
               intro K hK
               first
                 | (apply quiet_skip
                    case hw => rfl
                    go_simp
                    refine hK _ ?_; clear hK K)
                 | (apply quiet_do
                    case hw => rfl
                    case h =>
                      intro w' hw'
                      (have z0 := Keeps.cell hw' hbx trivial; have z1 := Keeps.cell hw' hck trivial; have z2 := Keeps.cell hw' hru trivial)
                      go_simp
                      first | exact rfl | (fail)
                    go_simp
                    refine hK _ ?_; clear hK K))
            apply wpQuiet_nil
            intro w5 k5
            have HS5 := hide (HS2.out.same k5)
            clear k5 hck hbx hru
            go_wp2_with fail
            go_roundw
            case rel => exact ⟨k + 1, L2, o2, by go_num, by omega, hln2, HNX.out, HS5.out⟩
            case measure => simp [intOf]; omega
    · obtain rfl : k = L.length := by omega
      have HNO := hide (hri.out.none rfl)
      have HKF := hide (HK1.out.tr hst.out.keep)
      obtain ⟨la, lc, rfl⟩ : ∃ la lc, u4 = .slice la L.length lc := by simpa using hst.out.own.shape
      clear hri hst
      go_wp2_with fail
      exact HNN.out _ _ rfl HNO.out HKF.out

end Go.Proofs.Ytbmpnfibebiaeaa
