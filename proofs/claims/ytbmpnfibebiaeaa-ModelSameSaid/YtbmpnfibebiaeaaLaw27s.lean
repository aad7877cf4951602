/- The walk of ModelSame. -/
import Derived.Test.YtbmpnfibebiaeaaKnown27
import Derived.Test.YtbmpnfibebiaeaaModSame
namespace Go.Proofs.Ytbmpnfibebiaeaa
open Go.RowKit

attribute [local irreducible] wpQuiet wpPlan wpPlanZ wpUp

variable {R : Ending → World → Prop} {w : World}

/-- One value in one block. -/
theorem val_one {b : Nat} {e : TypeId} {fr : Nat × Nat} {nm : ByteArray} {od : Int} {v : Value} {l : List Int} (h : w.heap[b]? = some (.cells #[.string nm, .int .i64 od, v] e fr)) (hv : IntsAt w v l) (ho : InI64 od) (hn : nm.size ≤ maxLen) : ValsAt w (.slice (some ⟨b, 0, none⟩) 1 1) [⟨nm, od, l⟩] := by
  refine ⟨_, tri_one h, rfl, fun i x m hx hm => ?_⟩
  match i with
  | 0 =>
    simp at hx hm
    subst hx; subst hm
    exact ⟨rfl, rfl, hv, ho, hn⟩
  | n + 1 => simp at hx

theorem ints_nil0 (w : World) : IntsAt w (.slice none 0 0) [] := ⟨⟨none, 0, rfl, Nat.le_refl _, Nat.zero_le _, .inl rfl⟩, by simp⟩
theorem ints_nil1 (w : World) (a : Addr) : IntsAt w (.slice (some a) 0 0) [] := ⟨⟨some a, 0, rfl, Nat.le_refl _, Nat.zero_le _, .inl rfl⟩, by simp⟩

set_option maxRecDepth 10000 in
set_option maxHeartbeats 4000000 in
theorem modelSameWalk (va : Value) (a : List Vl) (vb : Value) (b : List Vl) (w : World) (hA : ValsAt w va a) (hB : ValsAt w vb b) :
    Calls Try.prog 4 #[va, vb] w fun e w' => e = .returned (.bool true) ∧ Below w.heap.size w w' := by
  refine law_of fun R HR => ?_
  have HA := hide hA
  have HB := hide hB
  obtain ⟨aa, ac, _, rfl, _, hac, _⟩ := hA.open
  obtain ⟨ba, bc, _, rfl, _, hbc, _⟩ := hB.open
  unfold maxLen at hac hbc
  clear hA hB
  by_cases h1 : 20 < a.length
  · go_enter Try.func4, Try.ntmps4
    go_wp2_with fail
    exact HR.out _ _ rfl (Keeps.refl _ _)
  by_cases h2 : 20 < b.length
  · go_enter Try.func4, Try.ntmps4
    go_wp2_with fail
    exact HR.out _ _ rfl (Keeps.refl _ _)
  go_enter Try.func4, Try.ntmps4
  go_wp2_with fail
  refine modelSame HA.out HB.out ?_; rintro e w1 rfl k1
  have HK1 := hide k1
  clear k1
  generalize hd : decide (a = b) = dd
  have HDD := hide hd
  clear hd
  go_wp2_with fail
  refine refSame27 (HA.out.same HK1.out) (HB.out.same HK1.out) ?_; rintro e w2 he k2
  rw [HDD.out] at he
  subst he
  have HK2 := hide (HK1.out.tr k2)
  clear k2
  cases dd <;>
  · go_wp2_with fail
    refine modelSame (HA.out.same HK2.out) (HA.out.same HK2.out) ?_; rintro e w3 rfl k3
    rw [decide_eq_true rfl]
    have HK3 := hide (HK2.out.tr k3)
    clear k3
    have hv1 : ValsAt (((w3.alloc (.cells #[.string ⟨#[120]⟩, .int .i64 0, .slice none 0 0] 39)).alloc (.cells #[] 3)).alloc (.cells #[.string ⟨#[120]⟩, .int .i64 0, .slice (some ⟨w3.heap.size + 1, 0, none⟩) 0 0] 39)) (.slice (some ⟨w3.heap.size, 0, none⟩) 1 1) [⟨⟨#[120]⟩, 0, []⟩] :=
      val_one (heap_old (heap_old (heap_new w3 _) _) _) (ints_nil0 _) (by unfold InI64; decide) (by decide)
    have hv2 : ValsAt (((w3.alloc (.cells #[.string ⟨#[120]⟩, .int .i64 0, .slice none 0 0] 39)).alloc (.cells #[] 3)).alloc (.cells #[.string ⟨#[120]⟩, .int .i64 0, .slice (some ⟨w3.heap.size + 1, 0, none⟩) 0 0] 39)) (.slice (some ⟨w3.heap.size + 1 + 1, 0, none⟩) 1 1) [⟨⟨#[120]⟩, 0, []⟩] := by
      have := heap_new ((w3.alloc (.cells #[.string ⟨#[120]⟩, .int .i64 0, .slice none 0 0] 39)).alloc (.cells #[] 3)) (.cells #[.string ⟨#[120]⟩, .int .i64 0, .slice (some ⟨w3.heap.size + 1, 0, none⟩) 0 0] 39)
      rw [show ((w3.alloc (.cells #[.string ⟨#[120]⟩, .int .i64 0, .slice none 0 0] 39)).alloc (.cells #[] 3)).heap.size = w3.heap.size + 1 + 1 by simp] at this
      exact val_one this (ints_nil1 _ _) (by unfold InI64; decide) (by decide)
    have HV1 := hide hv1
    have HV2 := hide hv2
    have HK4 := hide (HK3.out.tr ((((Keeps.refl (fun _ => True) w3).alloc (.cells #[.string ⟨#[120]⟩, .int .i64 0, .slice none 0 0] 39)).alloc (.cells #[] 3)).alloc (.cells #[.string ⟨#[120]⟩, .int .i64 0, .slice (some ⟨w3.heap.size + 1, 0, none⟩) 0 0] 39)))
    clear hv1 hv2
    go_wp2_with fail
    refine modelSame HV1.out HV2.out ?_; rintro e w5 rfl k5
    rw [decide_eq_true rfl]
    have HK5 := hide (HK4.out.tr k5)
    clear k5
    go_wp2_with fail
    refine known27 ?_; rintro e w6 rfl k6
    have HK6 := hide (HK5.out.tr k6)
    clear k6
    go_wp2_with fail
    exact HR.out _ _ rfl (HK6.out.mono fun _ _ _ => trivial)

end Go.Proofs.Ytbmpnfibebiaeaa
