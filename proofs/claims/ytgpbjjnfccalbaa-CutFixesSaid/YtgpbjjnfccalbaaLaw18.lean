/- The walks of sibyllaw18.of, known, CutAsks, CutOrder. -/
import Derived.Test.YtgpbjjnfccalbaaRef18
namespace Go.Proofs.Ytgpbjjnfccalbaa
open Go.RowKit

variable {R : Ending → World → Prop} {w : World} {a T : Nat} {L : List Nd}

/-- 'of', where it is none. -/
theorem of18Not {t : Int} {v : Value} {f : List Int} (hv : IntsAt w v f) (ht : InI64 t) (h : t < 0 ∨ 6 < t ∨ f.length ≠ 2 ^ t.toNat) (hR : ∀ e, e = .returned (.tuple #[.pointer none, .int .i64 0, .bool false]) → R e w) :
    Calls Try.prog 43 #[.int .i64 t, v] w R := by
  have HR := hide hR
  clear hR
  obtain ⟨va, vc, rfl, hc1, hc2, _⟩ := hv.open
  unfold maxLen at hc2
  unfold InI64 at ht
  clear hv
  by_cases h1 : t < 0 ∨ 6 < t
  · clear h
    rcases h1 with h1 | h1
    all_goals
      go_enter Try.func43, Try.ntmps43
      go_wp2_with fail
      go_ret3
      exact HR.out _ rfl
  · obtain ⟨T, rfl⟩ := Int.eq_ofNat_of_zero_le (show 0 ≤ t by omega)
    have h6 : T ≤ 6 := by omega
    have hw2 := wrap_two h6
    have h2 : f.length ≠ 2 ^ T := by
      rcases h with h | h | h
      · omega
      · omega
      · simpa using h
    have hne : (((f.length : Nat) : Int) != ((2 ^ T : Nat) : Int)) = true := by rw [bne_iff_ne]; intro e; exact h2 (by exact_mod_cast e)
    clear h h1 h2 ht
    generalize hpp : 2 ^ T = p at hw2 hne
    clear hpp
    go_enter Try.func43, Try.ntmps43
    go_wp2_with fail
    go_ret3
    exact HR.out _ rfl

/-- 'of', where it is one. -/
theorem of18 {v : Value} {f : List Int} (hv : IntsAt w v f) (h6 : T ≤ 6) (hl : f.length = 2 ^ T) (hR : ∀ e w' s, e = .returned (.tuple #[.pointer (some ⟨s, 0, none⟩), .int .i64 (OfA T [] f).2, .bool true]) → StoreAt w' s T (OfA T [] f).1 →
      Keeps (· < w.heap.size) w w' → (∀ x, Foot w' s x → w.heap.size ≤ x) → R e w') :
    Calls Try.prog 43 #[.int .i64 T, v] w R := by
  have HR := hide hR
  clear hR
  have HV := hide hv
  have HLV := hide hv.lt
  obtain ⟨va, vc, rfl, hc1, hc2, _⟩ := hv.open
  unfold maxLen at hc2
  clear hv
  have hw2 := wrap_two h6
  have hne : (((f.length : Nat) : Int) != ((2 ^ T : Nat) : Int)) = false := by rw [hl]; simp
  clear hl
  generalize hpp : 2 ^ T = p at hw2 hne
  clear hpp
  go_enter Try.func43, Try.ntmps43
  go_wp2_with fail
  refine storeNew (T : Int) (by omega) (by omega) ?_; rintro e w1 s rfl s1 k1 f1
  rw [Int.toNat_natCast] at s1
  have F1 := hide f1
  clear f1
  go_wp2_with fail
  refine storeOfC s1 (HV.out.same k1) (Apart.old F1.out HLV.out k1.size) (by decide) ?_; rintro e w2 rfl s2 g2
  have kB : Keeps (· < w.heap.size) w w2 := k1.trans (g2.below F1.out) fun x _ hx => ⟨trivial, hx⟩
  have F2 := hide (g2.footB F1.out k1.size)
  go_wp2_with fail
  go_ret3
  exact HR.out _ _ s rfl s2 kB F2.out

theorem FixAns.yes {L' : List Nd} {f t : Nat} {up : Bool} {r : Int} (h : FixAns L L' T f t up r) (hf : f < L.length) (ht : t < T) : ∃ k : Nat, r = k ∧ FixOk L' f t up k := by
  rcases h.2.2 with ⟨_, _, _, _, k, hr, hk⟩ | ⟨hn, _⟩
  · exact ⟨k, hr, by simpa using hk⟩
  · exact absurd ⟨by omega, by omega, by omega, by omega⟩ hn

theorem FixAns.no {L' : List Nd} {f t : Int} {up : Bool} {r : Int} (h : FixAns L L' T f t up r) (hn : ¬ (0 ≤ f ∧ f < L.length ∧ 0 ≤ t ∧ t < T)) : r = -1 ∧ L' = L := by
  rcases h.2.2 with ⟨a, b, c, d, _⟩ | ⟨_, h1⟩
  · exact absurd ⟨a, b, c, d⟩ hn
  · exact h1

theorem known18 (hR : ∀ e w', e = .returned (.bool true) → Same w w' → R e w') : Calls Try.prog 45 #[] w R := by
  have HR := hide hR
  clear hR
  obtain ⟨B, hB⟩ : ∃ B, B = w.heap.size := ⟨_, rfl⟩
  have HB := hide hB
  clear hB
  go_enter Try.func45, Try.ntmps45
  go_wp2_with fail
  refine storeNew 2 (by decide) (by decide) ?_; rintro e w1 a rfl s1 k1 f1
  rw [← HB.out] at f1
  rw [show Int.toNat 2 = 2 from rfl] at s1
  have F1 := hide f1
  clear f1
  go_wp2_with fail
  refine storeLeaf s1 4 (by decide) ?_; rintro e w2 rfl s2 g2
  rw [show (leafA [] 4).2 = 0 by decide]
  rw [show (leafA [] 4).1 = [.leaf 4] by decide] at s2
  have wf2 := s2.wf
  have hgfix : ∀ (L' : List Nd) (t : Nat) (up : Bool) (r : Int), WF 2 L' → FixAns [.leaf 4] L' 2 (0 : Nat) t up r → t < 2 → r = 0 := by
    intro L' t up r hw ha ht
    obtain ⟨k, rfl, hk⟩ := ha.yes (by decide) ht
    have h0 : FixOk L' 0 t up 0 := (fixOk_self wf2 (f := 0) (by decide) (fun u lo hi e => by simp at e) up).prefx wf2 hw ha.1 (by decide)
    have := fix_unique hw hw List.prefix_rfl (Nat.lt_of_lt_of_le (by decide) ha.1.length_le) hk h0
    subst this; rfl
  have HG := hide hgfix
  clear hgfix
  go_wp2_with fail
  refine cutFix s2 0 1 true (by decide) ?_; rintro e w3 r3 L3 rfl s3 g3 a3
  have e3 := HG.out L3 1 true r3 s3.wf a3 (by decide)
  subst e3
  have A3 := hide a3
  have l3 := a3.1.length_le
  have l3' := a3.2.1
  simp only [List.length_cons, List.length_nil] at l3 l3'
  clear a3
  go_wp2_with fail
  refine cutAsks s3 0 0 (by omega) ?_; rintro e w4 r4 r5 L4 L5 rfl s5 g5 wf4 a4 a5
  have hr : r4 = r5 := by
    obtain ⟨k4, rfl, hk4⟩ := a4.yes (f := 0) (t := 0) (by omega) (by decide)
    obtain ⟨k5, rfl, hk5⟩ := a5.yes (f := 0) (t := 0) (Nat.lt_of_lt_of_le (by omega) a4.1.length_le) (by decide)
    have h0 := fixOk_self wf2 (f := 0) (t := 0) (by decide) (fun u lo hi e => by simp at e)
    have e4 := fix_unique wf4 wf4 List.prefix_rfl (Nat.lt_of_lt_of_le (by omega) a4.1.length_le) hk4 ((h0 false).prefx wf2 wf4 (A3.out.1.trans a4.1) (by decide))
    have e5 := fix_unique s5.wf s5.wf List.prefix_rfl (Nat.lt_of_lt_of_le (by omega) (a4.1.trans a5.1).length_le) hk5 ((h0 true).prefx wf2 s5.wf ((A3.out.1.trans a4.1).trans a5.1) (by decide))
    rw [e4, e5]
  subst hr
  have l5 := a5.1.length_le
  have l5' := a5.2.1
  have l4' := a4.2.1
  have hrr : (r4 != r4) = false := by simp
  rw [hrr]
  clear a4 a5 hrr
  go_wp2_with fail
  refine cutFix s5 0 2 true (by omega) ?_; rintro e w6 r6 L6 rfl s6 g6 a6
  obtain ⟨rfl, _⟩ := a6.no (by rintro ⟨_, _, _, h⟩; exact absurd h (by decide))
  go_wp2_with fail
  have gg := ((g2.trans g3).trans g5).trans g6
  exact HR.out _ _ rfl (k1.trans (gg.below F1.out) fun x hx _ => ⟨trivial, by rw [HB.out]; exact hx⟩)

end Go.Proofs.Ytgpbjjnfccalbaa
