/- The walks of BddOnce, BddMakes. -/
import Derived.Test.YtonddhepndhgbaaLaw16
namespace Go.Proofs.Ytonddhepndhgbaa
open Go.RowKit

variable {R : Ending → World → Prop} {w : World} {a T : Nat} {L : List Nd}

theorem StoreAt.foot {w' : World} (h : StoreAt w a T L) (k : Same w w') {B : Nat} (hf : ∀ x, Foot w a x → B ≤ x) : ∀ x, Foot w' a x → B ≤ x := by
  obtain ⟨v, m, e, _⟩ := h.st
  exact fun x hx => hf x ((foot_same ((k.at e trivial).trans e.symm) x).1 hx)

theorem OfA_wf (h : WF T L) (row : List Int) : WF T (OfA T L row).1 := by
  by_cases hc : row.length = 2 ^ T ∧ row.all isVal = true
  · obtain ⟨k, hk, _⟩ := OfA_made h hc.1 hc.2; exact hk.wf
  · rw [OfA_none hc]; exact h

theorem OfA_pre (h : WF T L) (row : List Int) : L <+: (OfA T L row).1 := by
  by_cases hc : row.length = 2 ^ T ∧ row.all isVal = true
  · obtain ⟨k, hk, _⟩ := OfA_made h hc.1 hc.2; exact hk.pre
  · rw [OfA_none hc]; exact List.prefix_rfl

theorem OfA_len (T : Nat) (L : List Nd) (row : List Int) (h6 : T ≤ 6) : (OfA T L row).1.length ≤ L.length + 127 := by
  unfold OfA
  split
  · have := ofA_len T row T L 0
    have : 2 ^ (T + 1) ≤ 128 := Nat.pow_le_pow_right (by decide) (show T + 1 ≤ 7 by omega)
    omega
  · simp

/-- Of again, in a store that has grown: nothing is made. -/
theorem OfA_again {L' : List Nd} (h : WF T L) (row : List Int) (h' : WF T L') (hp : (OfA T L row).1 <+: L') : OfA T L' row = (L', (OfA T L row).2) := by
  by_cases hc : row.length = 2 ^ T ∧ row.all isVal = true
  · obtain ⟨k, hk, hv⟩ := OfA_made h hc.1 hc.2
    rw [hk.num]
    exact OfA_have h' hc.1 hc.2 (Nat.lt_of_lt_of_le hk.lt hp.length_le) fun x hx => by rw [val_prefix hk.wf h' hp x k hk.lt, hv x hx]
  · rw [OfA_none hc, OfA_none hc]

theorem row_ext {a b : List Int} (hl : a.length = b.length) (h : ∀ x, x < a.length → a.getD x 0 = b.getD x 0) : a = b := same_prefix hl h (Nat.le_refl _)

/-- Two rows are one id just if they are the same. -/
theorem once_law (h : WF T L) {a b : List Int} (hab : b.length = a.length) : (OfA T L a).2 < 0 ∨ (OfA T (OfA T L a).1 b).2 < 0 ∨ ((OfA T L a).2 = (OfA T (OfA T L a).1 b).2 ↔ a = b) := by
  by_cases ha : a.length = 2 ^ T ∧ a.all isVal = true
  · by_cases hb : b.length = 2 ^ T ∧ b.all isVal = true
    · obtain ⟨k, hk, hv⟩ := OfA_made h ha.1 ha.2
      obtain ⟨j, hj, hu⟩ := OfA_made hk.wf hb.1 hb.2
      right; right
      rw [hk.num, hj.num]
      constructor
      · intro e
        have e : k = j := Int.ofNat_inj.1 e
        subst e
        refine row_ext hab.symm fun x hx => ?_
        rw [ha.1] at hx
        rw [← hv x hx, ← hu x hx, val_prefix hk.wf hj.wf hj.pre x k hk.lt]
      · intro e
        subst e
        have := OfA_again h a hk.wf List.prefix_rfl
        have e2 := hj.num
        rw [this, hk.num] at e2
        exact e2
    · right; left; rw [OfA_none hb]; show (-1 : Int) < 0; decide
  · left; rw [OfA_none ha]; show (-1 : Int) < 0; decide

set_option maxHeartbeats 2000000 in
theorem bddOnceWalk (t : Int) (va : Value) (a : List Int) (vb : Value) (b : List Int) (w : World) (ht : InI64 t) (hva : IntsAt w va a) (hvb : IntsAt w vb b) :
    Calls Try.prog 9 #[.int .i64 t, va, vb] w fun e w' => e = .returned (.bool true) ∧ Below w.heap.size w w' := by
  refine law_of fun R HR => ?_
  have HA := hide hva
  have HB := hide hvb
  have HLA := hide hva.lt
  have HLB := hide hvb.lt
  obtain ⟨aa, ac, rfl, ha1, ha2, _⟩ := hva.open
  obtain ⟨ba, bc, rfl, hb1, hb2, _⟩ := hvb.open
  unfold maxLen at ha2 hb2
  unfold InI64 at ht
  clear hva hvb
  by_cases h1 : t < 0 ∨ 6 < t
  · go_enter Try.func9, Try.ntmps9
    go_wp2_with fail
    all_goals first | exact HR.out _ _ rfl (Keeps.refl _ _) | (exfalso; omega)
  · obtain ⟨T, rfl⟩ := Int.eq_ofNat_of_zero_le (show 0 ≤ t by omega)
    have h6 : T ≤ 6 := by omega
    have hw2 := wrap_two h6
    clear h1 ht
    by_cases h2 : a.length = 2 ^ T
    · have hne : (((a.length : Nat) : Int) != ((2 ^ T : Nat) : Int)) = false := by rw [h2]; simp
      have H2 := hide h2
      clear h2
      by_cases h3 : b.length = a.length
      · have hne3 : (((b.length : Nat) : Int) != ((a.length : Nat) : Int)) = false := by rw [h3]; simp
        have HO := hide (once_law (WF.nil h6) h3)
        have H3 := hide h3
        clear h3
        generalize hpp : 2 ^ T = p at hw2 hne
        clear hpp
        have hw0 := WF.nil h6
        have hw1 := OfA_wf hw0 a
        have hwB := OfA_wf hw1 b
        have HG := hide (OfA_again hw0 a hwB (OfA_pre hw1 b))
        have hl1 := OfA_len T [] a h6
        have hl2 := OfA_len T (OfA T [] a).1 b h6
        simp only [List.length_nil] at hl1
        have HL := hide (And.intro hl1 hl2)
        clear hw0 hw1 hwB hl1 hl2
        generalize hr1 : OfA T [] a = r1 at HO HG HL
        generalize hr2 : OfA T r1.1 b = r2 at HO HG HL
        obtain ⟨L1, i⟩ := r1
        obtain ⟨L2, j⟩ := r2
        simp only [] at HO HG HL
        have E1 := hide hr1
        have E2 := hide hr2
        clear hr1 hr2
        have hii : (i == i) = true := by simp
        have hll : (((L2.length : Nat) : Int) == ((L2.length : Nat) : Int)) = true := by simp
        go_enter Try.func9, Try.ntmps9
        go_wp2_with fail
        refine storeNew (T : Int) (by omega) (by omega) ?_; rintro e w1 s rfl s1 k1 f1
        rw [Int.toNat_natCast] at s1
        have F1 := hide f1
        clear f1
        go_wp2_with fail
        refine storeOfC s1 (HA.out.same k1) (Apart.old F1.out HLA.out k1.size) (by decide) ?_; rw [E1.out]; rintro e w2 rfl s2 g2
        have kB : Keeps (· < w.heap.size) w w2 := k1.trans (g2.below F1.out) fun x _ hx => ⟨trivial, hx⟩
        have F2 := hide (g2.footB F1.out k1.size)
        go_wp2_with fail
        refine storeOfC s2 (HB.out.keep kB HLB.out) (Apart.old F2.out HLB.out kB.size) (by have := HL.out; omega) ?_; rw [E2.out]; rintro e w3 rfl s3 g3
        have kC := kB.tr (g3.below F2.out)
        have F3 := hide (g3.footB F2.out kB.size)
        simp only []
        go_wp2_with fail
        refine storeLen s3 ?_; rintro e rfl
        by_cases hi : i < 0
        · go_wp2_with fail
          refine storeOfC s3 (HA.out.keep kC HLA.out) (Apart.old F3.out HLA.out kC.size) (by have := HL.out; omega) ?_; rw [HG.out]; rintro e w4 rfl s4 g4
          simp only []
          go_wp2_with fail
          refine storeLen s4 ?_; rintro e rfl
          go_wp2_with fail
          refine known16 ?_; rintro e w5 rfl k5
          go_wp2_with fail
          exact HR.out _ _ rfl (((kC).tr (g4.below F3.out)).tr_same k5)
        · by_cases hj : j < 0
          · go_wp2_with fail
            refine storeOfC s3 (HA.out.keep kC HLA.out) (Apart.old F3.out HLA.out kC.size) (by have := HL.out; omega) ?_; rw [HG.out]; rintro e w4 rfl s4 g4
            simp only []
            go_wp2_with fail
            refine storeLen s4 ?_; rintro e rfl
            go_wp2_with fail
            refine known16 ?_; rintro e w5 rfl k5
            go_wp2_with fail
            exact HR.out _ _ rfl (((kC).tr (g4.below F3.out)).tr_same k5)
          · have heq : ((i == j) == decide (a = b)) = true := by
              have := HO.out
              rcases this with h | h | h
              · omega
              · omega
              · by_cases e : i = j
                · have h1 : (i == j) = true := by simpa using e
                  rw [h1, decide_eq_true (h.1 e)]; rfl
                · have hn : ¬ a = b := fun e' => e (h.2 e')
                  have h1 : (i == j) = false := by simpa using e
                  rw [h1, decide_eq_false hn]; rfl
            have HE := hide heq
            clear heq
            go_wp2_with fail
            refine sameInts (HA.out.keep kC HLA.out) (HB.out.keep kC HLB.out) ?_; rintro e w4 rfl k4
            have heq := HE.out
            generalize decide (a = b) = ab at heq
            go_wp2_with fail
            refine storeOfC (s3.same k4) (HA.out.keep (kC.tr_same k4) HLA.out) (Apart.old (s3.foot k4 F3.out) HLA.out (kC.tr_same k4).size) (by have := HL.out; omega) ?_; rw [HG.out]; rintro e w4 rfl s4 g4
            simp only []
            go_wp2_with fail
            refine storeLen s4 ?_; rintro e rfl
            go_wp2_with fail
            refine known16 ?_; rintro e w5 rfl k5
            go_wp2_with fail
            exact HR.out _ _ rfl (((kC.tr_same k4).tr (g4.below (s3.foot k4 F3.out))).tr_same k5)
      · have hne3 : (((b.length : Nat) : Int) != ((a.length : Nat) : Int)) = true := by rw [bne_iff_ne]; intro e; exact h3 (by exact_mod_cast e)
        clear h3
        generalize hpp : 2 ^ T = p at hw2 hne
        clear hpp
        go_enter Try.func9, Try.ntmps9
        go_wp2_with fail
        all_goals first | exact HR.out _ _ rfl (Keeps.refl _ _) | (exfalso; omega)
    · have hne : (((a.length : Nat) : Int) != ((2 ^ T : Nat) : Int)) = true := by rw [bne_iff_ne]; intro e; exact h2 (by exact_mod_cast e)
      clear h2
      generalize hpp : 2 ^ T = p at hw2 hne
      clear hpp
      go_enter Try.func9, Try.ntmps9
      go_wp2_with fail
      all_goals first | exact HR.out _ _ rfl (Keeps.refl _ _) | (exfalso; omega)

end Go.Proofs.Ytonddhepndhgbaa
