/- The walk of sibyllaw27.known. -/
import Derived.Test.YtbmpnfibebiaeaaLaw27
import Derived.Test.YtbmpnfibebiaeaaModOf
import Derived.Test.YtbmpnfibebiaeaaRefSame27
namespace Go.Proofs.Ytbmpnfibebiaeaa
open Go.RowKit

attribute [local irreducible] wpQuiet wpPlan wpPlanZ wpUp

variable {R : Ending → World → Prop} {w : World} {A : Au} {B d : Nat}

theorem three_dst : Dst threeC 1 0 := by
  refine ⟨?_, fun j hj => ?_⟩
  · exact ⟨1, by decide, show ac threeC (nx threeC 0 1) = true by decide⟩
  · obtain rfl : j = 0 := by omega
    show ¬ ac threeC 0 = true
    decide

theorem three_vals : valsOf [⟨⟨#[120]⟩, 1, 0⟩] (greedy threeC 1 0) = [⟨⟨#[120]⟩, 1, [0]⟩] := by decide

/-- One block that holds one element of three cells. -/
theorem tri_one {b : Nat} {e : TypeId} {fr : Nat × Nat} {x y z : Value} (h : w.heap[b]? = some (.cells #[x, y, z] e fr)) : TriAt w (.slice (some ⟨b, 0, none⟩) 1 1) [(x, y, z)] := by
  refine ⟨_, 1, rfl, Nat.le_refl _, by decide, .inr ⟨b, 0, _, _, _, rfl, h, fun i p hp => ?_⟩⟩
  match i with
  | 0 => simp at hp; subst hp; simp
  | n + 1 => simp at hp

set_option maxRecDepth 10000 in
set_option maxHeartbeats 1000000 in
theorem known27 (hR : ∀ e w', e = .returned (.bool true) → Same w w' → R e w') : Calls Try.prog 12 #[] w R := by
  have HR := hide hR
  clear hR
  obtain ⟨ha, hk⟩ := three_at w _ rfl
  have HA := hide ha
  have HK := hide hk
  clear ha hk
  go_enter Try.func12, Try.ntmps12
  go_wp2_with fail
  refine of27 HA.out threeC_ok ?_; rintro e w1 d rfl d1 k1
  have HD := hide d1
  have HK1 := hide (HK.out.tr k1)
  clear d1 k1 HA HK
  have hka : Same w1 (w1.alloc (.cells #[.string ⟨#[120]⟩, .int .i64 1, .int .i64 0] 55)) := (Keeps.refl _ w1).alloc _
  have hdc : DeclsAt (w1.alloc (.cells #[.string ⟨#[120]⟩, .int .i64 1, .int .i64 0] 55)) (.slice (some ⟨w1.heap.size, 0, none⟩) 1 1) [⟨⟨#[120]⟩, 1, 0⟩] :=
    ⟨tri_one (heap_new w1 _), fun d hd => by simp at hd; subst hd; exact ⟨by unfold InI64; decide, by unfold InI64; decide, by decide⟩⟩
  have HDC := hide hdc
  have HKA := hide hka
  clear hdc hka
  go_wp2_with fail
  refine modelOf (HD.out.same HKA.out) HDC.out three_dst rfl ?_; rintro e w2 u rfl v2 k2
  rw [three_vals] at v2
  have HV2 := hide v2
  have HK2 := hide ((HK1.out.tr HKA.out).tr k2)
  obtain ⟨a, c, _, rfl, _, _, _⟩ := v2.open
  clear v2 k2
  have hkb : Same w2 ((w2.alloc (.cells #[.int .i64 0] 3)).alloc (.cells #[.string ⟨#[120]⟩, .int .i64 1, .slice (some ⟨w2.heap.size, 0, none⟩) 1 1] 39)) := ((Keeps.refl _ w2).alloc _).alloc _
  have hvb : ValsAt ((w2.alloc (.cells #[.int .i64 0] 3)).alloc (.cells #[.string ⟨#[120]⟩, .int .i64 1, .slice (some ⟨w2.heap.size, 0, none⟩) 1 1] 39)) (.slice (some ⟨w2.heap.size + 1, 0, none⟩) 1 1) [⟨⟨#[120]⟩, 1, [0]⟩] := by
    have h1 := heap_new (w2.alloc (.cells #[.int .i64 0] 3)) (.cells #[.string ⟨#[120]⟩, .int .i64 1, .slice (some ⟨w2.heap.size, 0, none⟩) 1 1] 39)
    have h0 := heap_old (heap_new w2 (.cells #[.int .i64 0] 3)) (.cells #[.string ⟨#[120]⟩, .int .i64 1, .slice (some ⟨w2.heap.size, 0, none⟩) 1 1] 39)
    rw [show (w2.alloc (.cells #[.int .i64 0] 3)).heap.size = w2.heap.size + 1 by simp] at h1
    refine ⟨_, tri_one h1, rfl, fun i x l hx hl => ?_⟩
    match i with
    | 0 =>
      simp at hx hl
      subst hx; subst hl
      exact ⟨rfl, rfl, ints_of_block h0 [0] rfl (by simp [InI64]) rfl (Nat.le_refl _) (by decide), by unfold InI64; decide, by decide⟩
    | n + 1 => simp at hx
  have HVB := hide hvb
  have HKB := hide hkb
  clear hvb hkb
  go_wp2_with fail
  refine refSame27 (HV2.out.same HKB.out) HVB.out ?_; rintro e w3 rfl k3
  rw [show decide ((([⟨⟨#[120]⟩, 1, [0]⟩] : List Vl)) = [⟨⟨#[120]⟩, 1, [0]⟩]) = true by decide]
  have HK3 := hide ((HK2.out.tr HKB.out).tr k3)
  clear k3
  go_wp2_with fail
  exact HR.out _ _ rfl HK3.out

end Go.Proofs.Ytbmpnfibebiaeaa
