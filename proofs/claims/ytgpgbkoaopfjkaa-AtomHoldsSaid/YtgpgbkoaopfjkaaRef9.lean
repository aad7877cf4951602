/- The walks of sibylref9.field, sibylref9.Has. -/
import Derived.Test.YtgpgbkoaopfjkaaCore
import Derived.Test.YtgpgbkoaopfjkaaPkA
import Derived.Lib.SlicesS
namespace Go.Proofs.Ytgpgbkoaopfjkaa
open Go.RowKit

attribute [local irreducible] wpQuiet wpPlan wpPlanZ wpUp

variable {R : Ending → World → Prop} {w : World}

/-- Does the field stand as it is asked? -/
def fieldB (has : ByteArray) (k : UInt8) (v n : Int) : Bool := if k ∈ has.data.toList then decide (0 ≤ v ∧ v < n) else decide (v = 0)

set_option maxRecDepth 10000 in
set_option maxHeartbeats 1000000 in
theorem refField {has : ByteArray} {k : UInt8} {v n : Int} (hl : has.size ≤ 10) (hR : ∀ e w', e = .returned (.bool (fieldB has k v n)) → Same w w' → R e w') :
    Calls Try.prog 67 #[.string has, .int .u8 (k.toNat : Int), .int .i64 v, .int .i64 n] w R := by
  have HR := hide hR
  clear hR
  go_enter Try.func67, Try.ntmps67
  go_wp2_with fail
  go_loopw [9] (fun i wr => ∃ m : Nat, i = .int .i64 m ∧ m ≤ has.size ∧ Hid (∀ i (h : i < has.size), i < m → has.data[i] ≠ k) ∧ wr = w) (fun i _ => has.size - (intOf i).toNat)
  case atStart => exact ⟨0, rfl, Nat.zero_le _, hide (fun i _ hi => absurd hi (Nat.not_lt_zero _)), rfl⟩
  case round =>
    obtain ⟨m, rfl, hm, hall, rfl⟩ := hrel
    by_cases hlt : m < has.size
    · by_cases hk : has[m] = k
      · have HMM : Hid (fieldB has k v n = decide (0 ≤ v ∧ v < n)) := hide (by
          unfold fieldB
          rw [if_pos (by rw [← hk]; exact List.getElem_mem (l := has.data.toList) _)])
        subst hk
        by_cases h1 : 0 ≤ v <;> by_cases h2 : v < n <;>
        · have HV : Hid (fieldB has has[m] v n = (decide (0 ≤ v) && decide (v < n))) := hide (by rw [HMM.out]; simp)
          clear HMM
          have e1 : decide (0 ≤ v) = decide (0 ≤ v) := rfl
          clear e1
          go_wp2_with fail
          refine HR.out _ _ (ret_bool ?_) (Keeps.refl _ _)
          rw [HV.out]; simp [h1, h2]
      · have hne : ((has[m].toNat : Int) == (k.toNat : Int)) = false := by
          rw [beq_eq_false_iff_ne]
          intro e
          exact hk (UInt8.toNat_inj.1 (by exact_mod_cast e))
        have HALL : Hid (∀ i (h : i < has.size), i < m + 1 → has.data[i] ≠ k) := hide (fun i h hi => by
          by_cases e : i = m
          · subst e; exact hk
          · exact hall.out i h (by omega))
        clear hk
        go_wp2_with fail
        go_roundw
        case rel => exact ⟨m + 1, by go_num, by omega, HALL, by first | rfl | trivial⟩
        case measure => simp [intOf]; omega
    · have HMM : Hid (fieldB has k v n = decide (v = 0)) := hide (by
        unfold fieldB
        rw [if_neg]
        intro hm2
        obtain ⟨i, hi, e⟩ := List.getElem_of_mem hm2
        exact hall.out i (by simpa using hi) (by have : i < has.size := by simpa using hi
                                                 omega) (by simpa using e))
      by_cases h1 : v = 0
      · subst h1
        go_wp2_with fail
        refine HR.out _ _ (ret_bool ?_) (Keeps.refl _ _)
        rw [HMM.out]; simp
      · have hz : (v == 0) = false := by rw [beq_eq_false_iff_ne]; exact h1
        go_wp2_with fail
        refine HR.out _ _ (ret_bool ?_) (Keeps.refl _ _)
        rw [HMM.out]; simp [h1]

/-- The table of sibylref9.Has. -/
def opsL : List ByteArray := [⟨#[116, 114, 117, 101]⟩, ⟨#[115, 117, 98]⟩, ⟨#[115, 105, 110, 103]⟩, ⟨#[102, 108, 97, 103]⟩, ⟨#[110, 111, 110, 101]⟩, ⟨#[108, 101, 115, 115]⟩, ⟨#[112, 108, 117, 115]⟩, ⟨#[110, 117, 109]⟩, ⟨#[117, 110, 105, 111, 110]⟩, ⟨#[105, 110, 116, 101, 114]⟩, ⟨#[109, 105, 110, 117, 115]⟩, ⟨#[110, 111, 116]⟩, ⟨#[97, 110, 100]⟩, ⟨#[101, 120]⟩]
def hasL : List ByteArray := [⟨#[]⟩, ⟨#[65, 66]⟩, ⟨#[65]⟩, ⟨#[65]⟩, ⟨#[65]⟩, ⟨#[65, 66]⟩, ⟨#[65, 66, 78]⟩, ⟨#[65, 78]⟩, ⟨#[65, 66, 67]⟩, ⟨#[65, 66, 67]⟩, ⟨#[65, 66, 67]⟩, ⟨#[]⟩, ⟨#[]⟩, ⟨#[65]⟩]
def kidsL : List Int := [0, 0, 0, 0, 0, 0, 0, 0, 0, 0, 0, 1, 2, 1]

set_option maxRecDepth 10000 in
set_option maxHeartbeats 2000000 in
theorem refHas {op : ByteArray} (hR : ∀ e w' k (hk : k < 14), e = .returned (.tuple #[.string hasL[k], .int .i64 kidsL[k], .bool true]) → opsL[k] = op → Same w w' → R e w')
    (hN : ∀ e w', e = .returned (.tuple #[.string ⟨#[]⟩, .int .i64 0, .bool false]) → (∀ k (hk : k < 14), opsL[k] ≠ op) → Same w w' → R e w') :
    Calls Try.prog 66 #[.string op] w R := by
  have HR := hide hR
  have HN := hide hN
  clear hR hN
  have k3 : Same w (((w.alloc (.cells (opsL.map Value.string).toArray 9)).alloc (.cells (hasL.map Value.string).toArray 9)).alloc (.cells (kidsL.map (Value.int .i64)).toArray 3)) := (((Keeps.refl _ w).alloc _).alloc _).alloc _
  have b0 : (((w.alloc (.cells (opsL.map Value.string).toArray 9)).alloc (.cells (hasL.map Value.string).toArray 9)).alloc (.cells (kidsL.map (Value.int .i64)).toArray 3)).heap[w.heap.size]? = some (.cells (opsL.map Value.string).toArray 9 (0, 0)) := heap_old (heap_old (heap_new w _) _) _
  have b1 : (((w.alloc (.cells (opsL.map Value.string).toArray 9)).alloc (.cells (hasL.map Value.string).toArray 9)).alloc (.cells (kidsL.map (Value.int .i64)).toArray 3)).heap[w.heap.size + 1]? = some (.cells (hasL.map Value.string).toArray 9 (0, 0)) := by
    have := heap_old (heap_new (w.alloc (.cells (opsL.map Value.string).toArray 9)) (.cells (hasL.map Value.string).toArray 9)) (.cells (kidsL.map (Value.int .i64)).toArray 3)
    rwa [show (w.alloc (.cells (opsL.map Value.string).toArray 9)).heap.size = w.heap.size + 1 by simp] at this
  have b2 : (((w.alloc (.cells (opsL.map Value.string).toArray 9)).alloc (.cells (hasL.map Value.string).toArray 9)).alloc (.cells (kidsL.map (Value.int .i64)).toArray 3)).heap[w.heap.size + 1 + 1]? = some (.cells (kidsL.map (Value.int .i64)).toArray 3 (0, 0)) := by
    have := heap_new ((w.alloc (.cells (opsL.map Value.string).toArray 9)).alloc (.cells (hasL.map Value.string).toArray 9)) (.cells (kidsL.map (Value.int .i64)).toArray 3)
    rwa [show ((w.alloc (.cells (opsL.map Value.string).toArray 9)).alloc (.cells (hasL.map Value.string).toArray 9)).heap.size = w.heap.size + 1 + 1 by simp] at this
  have HK3 := hide k3
  have HB0 := hide b0
  have HB1 := hide b1
  have HB2 := hide b2
  clear k3 b0 b1 b2
  go_enter Try.func66, Try.ntmps66
  go_wp2_with fail
  go_loopw [8] (fun i wr => ∃ m : Nat, i = .int .i64 m ∧ m ≤ 14 ∧ Hid (∀ k (h : k < 14), k < m → opsL[k] ≠ op) ∧ Hid (wr.heap[w.heap.size]? = some (.cells (opsL.map Value.string).toArray 9 (0, 0)) ∧ wr.heap[w.heap.size + 1]? = some (.cells (hasL.map Value.string).toArray 9 (0, 0)) ∧ wr.heap[w.heap.size + 1 + 1]? = some (.cells (kidsL.map (Value.int .i64)).toArray 3 (0, 0)) ∧ Same w wr)) (fun i _ => 14 - (intOf i).toNat)
  case atStart => exact ⟨0, rfl, Nat.zero_le _, hide (fun k _ hk => absurd hk (Nat.not_lt_zero _)), hide ⟨HB0.out, HB1.out, HB2.out, HK3.out⟩⟩
  case round =>
    obtain ⟨m, rfl, hm, hall, hb⟩ := hrel
    generalize w.heap.size = x0 at hb ⊢
    by_cases hlt : m < 14
    · have z0 : wr.cell? ⟨x0, m, none⟩ = some (.string opsL[m]) := by rw [cell_at hb.out.1]; simp [List.getElem?_eq_getElem (show m < opsL.length from hlt)]; rfl
      have z1 : wr.cell? ⟨x0 + 1, m, none⟩ = some (.string hasL[m]) := by rw [cell_at hb.out.2.1]; simp [List.getElem?_eq_getElem (show m < hasL.length from hlt)]; rfl
      have z2 : wr.cell? ⟨x0 + 1 + 1, m, none⟩ = some (.int .i64 kidsL[m]) := by rw [cell_at hb.out.2.2.1]; simp [List.getElem?_eq_getElem (show m < kidsL.length from hlt)]; rfl
      have HRK := hide (fun e w' => HR.out e w' m hlt)
      have HKK := hide hb.out.2.2.2
      by_cases heq : opsL[m] = op
      · have HEQ := hide heq
        rw [heq] at z0
        generalize hasL[m] = hs at z1 HRK
        generalize kidsL[m] = kd at z2 HRK
        clear hb heq
        go_wp2_with fail
        refine wp_region_same (by kernel_rfl) (by kernel_rfl) ?_
        iterate 11
          (apply wpQuiet_step
           intro K hK
           first
             | (apply quiet_skip
                case hw => rfl
                go_simp
                refine hK _ ?_; clear hK K)
             | (apply quiet_do
                case hw => rfl
                case h =>
                  intro w' hw'
                  (have y1 := Keeps.cell hw' z1 trivial; have y2 := Keeps.cell hw' z2 trivial)
                  go_simp
                  first | exact rfl | (fail)
                go_simp
                refine hK _ ?_; clear hK K))
        apply wpQuiet_nil
        intro w5 k5
        have HK5 := hide (HKK.out.tr k5)
        clear z0 z1 z2 k5
        go_wp2_with fail
        exact HRK.out _ _ rfl HEQ.out HK5.out
      · have HALL : Hid (∀ k (h : k < 14), k < m + 1 → opsL[k] ≠ op) := hide (fun k h hk => by
          by_cases e : k = m
          · subst e; exact heq
          · exact hall.out k h (by omega))
        have hne : (opsL[m].toList == op.toList) = false := (Go.Lib.bytes_beq_false_iff _ _).2 heq
        generalize opsL[m] = om at z0 hne
        clear heq z1 z2
        go_wp2_with fail
        go_roundw
        case rel => exact ⟨m + 1, by go_num, by omega, HALL, hb⟩
        case measure => simp [intOf]; omega
    · have HKK := hide hb.out.2.2.2
      have HALL : Hid (∀ k (h : k < 14), opsL[k] ≠ op) := hide (fun k h => hall.out k h (by omega))
      clear hb
      go_wp2_with fail
      exact HN.out _ _ rfl HALL.out HKK.out

end Go.Proofs.Ytgpgbkoaopfjkaa
