/- The walks of cut.Fix, cut.Asks. -/
import Derived.Test.YtgpbjjnfccalbaaCut
namespace Go.Proofs.Ytgpbjjnfccalbaa
open Go.RowKit

variable {R : Ending → World → Prop} {w : World} {a T : Nat} {L : List Nd}

/-- What Fix answers: a node, or none. -/
def FixAns (L L' : List Nd) (T : Nat) (f t : Int) (up : Bool) (r : Int) : Prop :=
  L <+: L' ∧ L'.length ≤ L.length + 64 ∧
  ((0 ≤ f ∧ f < L.length ∧ 0 ≤ t ∧ t < T ∧ ∃ k : Nat, r = k ∧ FixOk L' f.toNat t.toNat up k) ∨ (¬ (0 ≤ f ∧ f < L.length ∧ 0 ≤ t ∧ t < T) ∧ r = -1 ∧ L' = L))

theorem cutFix (h : StoreAt w a T L) (f t : Int) (up : Bool) (hb : L.length + 64 ≤ 1099511627776)
    (hR : ∀ e w' r L', e = .returned (.int .i64 r) → StoreAt w' a T L' → Grew a w w' → FixAns L L' T f t up r → R e w') :
    Calls Try.prog 44 #[.pointer (some ⟨a, 0, none⟩), .int .i64 f, .int .i64 t, .bool up] w R := by
  have HR := hide hR
  clear hR
  by_cases hc : 0 ≤ f ∧ f < L.length ∧ 0 ≤ t ∧ t < T
  · obtain ⟨f, rfl⟩ := Int.eq_ofNat_of_zero_le hc.1
    obtain ⟨t, rfl⟩ := Int.eq_ofNat_of_zero_le hc.2.2.1
    have h6 := h.wf.six
    have hmm := @run_makeMap Try.prog
    have hB : decide (0 ≤ (f : Int) ∧ (f : Int) < L.length ∧ 0 ≤ (t : Int) ∧ (t : Int) < T) = true := decide_eq_true hc
    have ka := (Keeps.refl (fun _ => True) w).alloc (.map #[] 0)
    have sa := h.same ka
    have h64 : 2 ^ (T - 0) ≤ 64 := Nat.pow_le_pow_right (by decide) (show T - 0 ≤ 6 by omega)
    have HF := hide (cutFix0 (a := a) t up w.heap.size (show t < T by omega) f 0 L [] (w.alloc (.map #[] 0)))
    have HC := hide hc
    have ff : ∀ b, Foot (w.alloc (.map #[] 0)) a b ↔ Foot w a b := by
      obtain ⟨v, m', e1, _⟩ := h.st
      exact foot_same ((ka.at e1 trivial).trans e1.symm)
    have FF := hide ff
    clear hc ff
    go_enter Try.func44, Try.ntmps44
    go_wp2_with fail
    refine cutIs h f t ?_; rw [hB]; rintro e rfl
    go_wp2_with fail
    refine HF.out _ sa (by have := HC.out; omega) (fun _ _ _ _ => Nat.zero_le _) (Nat.zero_le _) ⟨#[], 0, heap_new _ _, rfl⟩ (fun hh => by have := foot_old h ((FF.out _).1 hh); omega) (fun p hp => by cases hp) (by omega) ?_
    rintro e w1 k L1 A1 rfl s1 p1 x1 m1 n1 o1 b1 t1 q1
    have HX := hide x1
    have HG : Hid (Grew a w w1) := hide ⟨ka.trans q1 (fun x hx hn => ⟨trivial, fun hh => hn ((FF.out x).1 hh), by omega⟩), fun b hb => by
      rcases t1 b hb with h1 | h1
      · exact .inl ((FF.out b).1 h1)
      · exact .inr (by have := ka.size; omega)⟩
    have HL := hide (And.intro p1 b1)
    clear p1 x1 m1 n1 o1 b1 t1 q1
    go_wp2_with fail
    refine HR.out _ _ k L1 rfl s1 HG.out ⟨HL.out.1, by have := HL.out.2; omega, .inl ⟨HC.out.1, HC.out.2.1, HC.out.2.2.1, HC.out.2.2.2, k, rfl, ?_⟩⟩
    simpa using HX.out
  · have hB : decide (0 ≤ f ∧ f < L.length ∧ 0 ≤ t ∧ t < T) = false := decide_eq_false hc
    have HC := hide hc
    clear hc
    go_enter Try.func44, Try.ntmps44
    go_wp2_with fail
    refine cutIs h f t ?_; rw [hB]; rintro e rfl
    go_wp2_with fail
    exact HR.out _ _ _ L rfl h (Grew.refl _ _) ⟨List.prefix_rfl, by omega, .inr ⟨HC.out, rfl, rfl⟩⟩

theorem cutAsks (h : StoreAt w a T L) (f t : Int) (hb : L.length + 128 ≤ 1099511627776)
    (hR : ∀ e w' r1 r2 L1 L2, e = .returned (.bool (r1 != r2)) → StoreAt w' a T L2 → Grew a w w' → WF T L1 → FixAns L L1 T f t false r1 → FixAns L1 L2 T f t true r2 → R e w') :
    Calls Try.prog 77 #[.pointer (some ⟨a, 0, none⟩), .int .i64 f, .int .i64 t] w R := by
  have HR := hide hR
  clear hR
  go_enter Try.func77, Try.ntmps77
  go_wp2_with fail
  refine cutFix h f t false (by omega) ?_; rintro e w1 r1 L1 rfl s1 g1 a1
  have A1 := hide a1
  have wf1 := s1.wf
  clear a1
  go_wp2_with fail
  refine cutFix s1 f t true (by have := A1.out.2.1; omega) ?_; rintro e w2 r2 L2 rfl s2 g2 a2
  have A2 := hide a2
  clear a2
  go_wp2_with fail
  exact HR.out _ _ r1 r2 L1 L2 rfl s2 (g1.trans g2) wf1 A1.out A2.out

/-- In a store that is right, Fix answers one node. -/
theorem fix_unique {L1 L2 : List Nd} {f t k j : Nat} {up : Bool} (h1 : WF T L1) (h2 : WF T L2) (hp : L1 <+: L2) (hf : f < L1.length) (hk : FixOk L1 f t up k) (hj : FixOk L2 f t up j) : k = j :=
  canon h2 _ k j (Nat.le_refl _) (Nat.lt_of_lt_of_le hk.lt hp.length_le) hj.lt fun c => by
    rw [val_prefix h1 h2 hp c k hk.lt, hk.val, hj.val, val_prefix h1 h2 hp _ f hf]

end Go.Proofs.Ytgpbjjnfccalbaa
