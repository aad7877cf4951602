/- The walks of track.Widen, Turn, isPerm. -/
import Derived.Test.YtameihkcajceeaaTurned
import Derived.Test.YtameihkcajceeaaPerm
import Derived.Test.YtameihkcajceeaaLaw19e
namespace Go.Proofs.Ytameihkcajceeaa
open Go.RowKit

attribute [local irreducible] wpQuiet wpPlan wpPlanZ wpUp

variable {R : Ending → World → Prop} {w : World} {A : Au} {B d : Nat}

theorem callFunc_widen (args : Array Value) (w : World) : (callFunc 66 args).run Try.prog w = .ok (.enter 66 args) w := by kernel_rfl
theorem callFunc_turn (args : Array Value) (w : World) : (callFunc 91 args).run Try.prog w = .ok (.enter 91 args) w := by kernel_rfl

theorem mask_of {x n : Nat} (hx : x < 64) (hn : n ≤ 6) : bits .and .i64 (x : Int) (((2 ^ n : Nat) : Int) - 1) = ((x % 2 ^ n : Nat) : Int) := by
  have h0 : 0 < 2 ^ n := Nat.pow_pos (by decide)
  have h6 : 2 ^ n ≤ 64 := two_le hn
  rw [show (((2 ^ n : Nat) : Int) - 1) = ((2 ^ n - 1 : Nat) : Int) by omega, i64_and_nat _ _ (by omega) (by omega), Nat.and_two_pow_sub_one_eq_mod]

theorem widen_val {t c : Nat} (ht : t ≤ 5) (hc : c < 64) : bits .or .i64 (bits .and .i64 (c : Int) (wrap64 ((2 : Int) ^ t - 1))) (wrap64 ((c : Int) / 2 ^ (t + 1) * 2 ^ t)) = ((wb t c : Nat) : Int) := by
  have h0 : 0 < 2 ^ t := Nat.pow_pos (by decide)
  have h6 : 2 ^ t ≤ 64 := two_le (by omega)
  have hm := mask_of hc (show t ≤ 6 by omega)
  have e1 : wrap64 ((2 : Int) ^ t - 1) = ((2 ^ t : Nat) : Int) - 1 := by
    rw [show ((2 : Int) ^ t) = ((2 ^ t : Nat) : Int) by simp]
    generalize 2 ^ t = q at h0 h6
    exact IntWalk.wrap64_in _ ⟨by omega, by omega⟩
  have hq : c / 2 ^ (t + 1) * 2 ^ t ≤ 64 := by
    have h1 : c / 2 ^ (t + 1) * 2 ^ t ≤ c / 2 ^ (t + 1) * 2 ^ (t + 1) := Nat.mul_le_mul_left _ (Nat.pow_le_pow_right (by decide) (by omega))
    have h2 := Nat.div_mul_le_self c (2 ^ (t + 1))
    omega
  have e2 : ((c : Int) / 2 ^ (t + 1) * 2 ^ t) = ((c / 2 ^ (t + 1) * 2 ^ t : Nat) : Int) := by simp
  have hr : c % 2 ^ t ≤ c := Nat.mod_le _ _
  rw [e1, hm, e2]
  unfold wb
  generalize c / 2 ^ (t + 1) * 2 ^ t = y at hq
  generalize c % 2 ^ t = x at hr
  rw [IntWalk.wrap64_in _ ⟨by omega, by omega⟩, i64_or_nat _ _ (by omega) (by omega)]

theorem turn_val {s c k p : Nat} (hs : s < 64) (hc : c < 64) (hp : p < 6) : bits .or .i64 (s : Int) (wrap64 (bits .and .i64 ((c : Int) / 2 ^ k) 1 * 2 ^ p)) = ((s ||| (if c.testBit k then 2 ^ p else 0) : Nat) : Int) := by
  have h6 : 2 ^ p ≤ 64 := two_le (by omega)
  rw [bit_and c k (by omega)]
  split
  · rw [show ((1 : Int) * 2 ^ p) = ((2 ^ p : Nat) : Int) by simp]
    generalize 2 ^ p = q at h6
    rw [IntWalk.wrap64_in _ ⟨by omega, by omega⟩, i64_or_nat _ _ (by omega) (by omega)]
  · rw [show ((0 : Int) * 2 ^ p) = ((0 : Nat) : Int) by simp, IntWalk.wrap64_in _ ⟨by omega, by omega⟩, i64_or_nat _ _ (by omega) (by omega)]

set_option maxHeartbeats 1000000 in
theorem byWiden {t c nb : Nat} (ht : t ≤ 5) (hc : c < 64) (hn : w.cell? ⟨nb, 0, none⟩ = some (.int .i64 (t : Int))) (hR : ∀ e w', e = .returned (.int .i64 ((wb t c : Nat) : Int)) → Same w w' → R e w') :
    Calls Try.prog 66 #[.int .i64 (c : Int), .pointer (some ⟨nb, 0, none⟩)] w R := by
  have HR := hide hR
  clear hR
  have HV := hide (widen_val ht hc)
  have hw2 := wrap_two (show t ≤ 6 by omega)
  go_enter Try.func66, Try.ntmps66
  go_wp2_with fail
  go_quiet (fail)
  go_wp2_with fail
  refine HR.out _ _ ?_ ((Keeps.refl _ w).drewN _)
  show Ending.returned (Value.int .i64 _) = _
  rw [HV.out]

set_option maxHeartbeats 1000000 in
theorem byTurn {l : List Nat} {c nb : Nat} {u : Value} (h6 : l.length ≤ 6) (hl : ∀ p ∈ l, p < 6) (hc : c < 64) (hn : w.cell? ⟨nb, 0, none⟩ = some u) (hu : IntsAt w u (l.map Int.ofNat)) (hR : ∀ e w', e = .returned (.int .i64 ((tb l c : Nat) : Int)) → Same w w' → R e w') :
    Calls Try.prog 91 #[.int .i64 (c : Int), .pointer (some ⟨nb, 0, none⟩)] w R := by
  have HR := hide hR
  clear hR
  obtain ⟨a, ca, rfl, hc1, hc2, hcell⟩ := hu.open
  have HC := hide hcell
  have HL := hide hl
  clear hcell hu hl
  unfold maxLen at hc2
  simp only [List.length_map] at *
  go_enter Try.func91, Try.ntmps91
  go_wp2_with fail
  go_loopw [4, 9] (fun u i wr => ∃ k : Nat, i = .int .i64 k ∧ k ≤ l.length ∧ u = .int .i64 ((tb (l.take k) c : Nat) : Int) ∧ Same w wr) (fun _ i _ => l.length - (intOf i).toNat)
  case atStart => exact ⟨0, rfl, Nat.zero_le _, rfl, Keeps.refl _ _⟩
  case round =>
    obtain ⟨k, rfl, hk, rfl, hK⟩ := hrel
    by_cases hlt : k < l.length
    · obtain ⟨bl, off, rfl, _, hcl⟩ := HC.out k hlt
      have hck := Keeps.cell hK (hcl k hlt) trivial
      have hp := HL.out l[k] (List.getElem_mem hlt)
      rw [show (l.map Int.ofNat)[k]'(by simpa using hlt) = (l[k] : Int) by simp] at hck
      have HT := hide (show tb (l.take (k + 1)) c = tb (l.take k) c ||| (if c.testBit k then 2 ^ l[k] else 0) by
        rw [List.take_succ_eq_append_getElem hlt, tb_snoc]
        rw [show (l.take k).length = k by simp; omega])
      have HS : Hid (tb (l.take k) c < 64) := hide (tb_lt (n := 6) (fun p hp => HL.out p (List.mem_of_mem_take hp)) c)
      generalize l[k] = p at hck hp HT
      generalize tb (l.take k) c = s at HT HS ⊢
      have HV := hide (turn_val (k := k) HS.out hc hp)
      clear hcl
      go_wp2_with fail
      go_roundw
      case rel => exact ⟨k + 1, by go_num, by omega, by rw [HT.out, HV.out], hK⟩
      case measure => simp [intOf]; omega
    · obtain rfl : k = l.length := by omega
      rw [List.take_length]
      go_wp2_with fail
      exact HR.out _ _ rfl hK

/-- Widen, where there may be one. -/
theorem trackWiden {t : Nat} (h : DFAAt w B d A) (hT : A.T < 6) (ht : (t : Int) ≤ A.T) (hR : ∀ e w' d', e = .returned (.tuple #[.pointer (some ⟨d', 0, none⟩), .int .i64 0]) → DFAAt w' w.heap.size d' (turnAu A (A.T.toNat + 1) (wb t)) → Same w w' → R e w') :
    Calls Try.prog 26 #[.pointer (some ⟨d, 0, none⟩), .int .i64 (t : Int)] w R := by
  have HR := hide hR
  clear hR
  have h0 := h.ok.1.1
  have H := hide h
  have hn := cell_new w #[.int .i64 (t : Int)] 3 0
  have hk : Same w (w.alloc (.cells #[.int .i64 (t : Int)] 3)) := (Keeps.refl _ w).alloc _
  simp only [List.getElem?_toArray, List.getElem?_cons_zero] at hn
  have HW := hide (show A.T + 1 = ((A.T.toNat + 1 : Nat) : Int) by omega)
  have HT6 := hide (show A.T.toNat + 1 ≤ 6 by omega)
  have HT5 := hide (show t ≤ 5 by omega)
  have HTT := hide (show t ≤ A.T.toNat by omega)
  clear h
  go_enter Try.func26, Try.ntmps26
  go_wp2_with fail
  generalize w.alloc (.cells #[.int .i64 (t : Int)] 3) = w1 at hn hk ⊢
  have HK := hide hk
  clear hk
  have g1 : decide ((6 : Int) ≤ A.T) = false := by simp; omega
  have g2 : decide ((t : Int) < 0) = false := by simp
  have g3 : decide (A.T < (t : Int)) = false := by simp; omega
  refine wp_region_same (by kernel_rfl) (by kernel_rfl) ?_
  iterate 17
    (apply wpQuiet_step
     intro K hK
     first
       | (apply quiet_skip
          case hw => rfl
          go_simp
          refine hK _ ?_; clear hK K)
       | (apply quiet_do
          case hw => rfl
          case h =>
            intro w' hw'
            (have z0 := Keeps.cell hw' hn trivial)
            go_simp
            first | exact rfl | (exact dfaTracks (H.out.same (HK.out.tr hw')) (fun e he => ⟨he, hw'⟩))
          go_simp
          refine hK _ ?_; clear hK K))
  apply wpQuiet_nil
  clear g1 g2 g3
  intro w2 k2
  have hn2 := Keeps.cell k2 hn trivial
  have HK2 := hide (HK.out.tr k2)
  clear hn k2
  go_wp2_with fail
  refine dfaTracks (H.out.same HK2.out) ?_; rintro e rfl
  go_wp2_with fail
  rw [HW.out]
  refine turned (H.out.same HK2.out) HT6.out callFunc_widen (fun c hc => wb_lt HTT.out hc) ?_ ?_
  · intro c hc w' R hw' hR'
    exact byWiden HT5.out (Nat.lt_of_lt_of_le hc (two_le HT6.out)) (Keeps.cell hw' hn2 trivial) hR'
  · rintro e w3 d3 rfl dd3 k3
    have HF := hide (And.intro (dd3.below HK2.out.size) (HK2.out.tr k3))
    clear dd3 k3
    go_wp2_with fail
    exact HR.out _ _ d3 rfl HF.out.1 HF.out.2

/-- Widen, where there may be none. -/
theorem trackWidenNot {t : Int} (h : DFAAt w B d A) (hno : ¬ (A.T < 6 ∧ 0 ≤ t ∧ t ≤ A.T)) (ht : InI64 t) (hR : ∀ e w', e = .returned (.tuple #[.pointer none, .int .i64 1]) → Same w w' → R e w') :
    Calls Try.prog 26 #[.pointer (some ⟨d, 0, none⟩), .int .i64 t] w R := by
  have HR := hide hR
  clear hR
  have h0 := h.ok.1.1
  have H := hide h
  unfold InI64 at ht
  have hn := cell_new w #[.int .i64 t] 3 0
  have hk : Same w (w.alloc (.cells #[.int .i64 t] 3)) := (Keeps.refl _ w).alloc _
  simp only [List.getElem?_toArray, List.getElem?_cons_zero] at hn
  clear h
  go_enter Try.func26, Try.ntmps26
  go_wp2_with fail
  generalize w.alloc (.cells #[.int .i64 t] 3) = w1 at hn hk ⊢
  have HK := hide hk
  clear hk
  by_cases h1 : A.T < 6
  · by_cases h2 : 0 ≤ t
    · have g1 : decide ((6 : Int) ≤ A.T) = false := by simp; omega
      have g2 : decide (t < 0) = false := by simp; omega
      have g3 : decide (A.T < t) = true := by simp; omega
      clear hno
      refine wp_region_same (by kernel_rfl) (by kernel_rfl) ?_
      iterate 17
        (apply wpQuiet_step
         intro K hK
         first
           | (apply quiet_skip
              case hw => rfl
              go_simp
              refine hK _ ?_; clear hK K)
           | (apply quiet_do
              case hw => rfl
              case h =>
                intro w' hw'
                (have z0 := Keeps.cell hw' hn trivial)
                go_simp
                first | exact rfl | (exact dfaTracks (H.out.same (HK.out.tr hw')) (fun e he => ⟨he, hw'⟩))
              go_simp
              refine hK _ ?_; clear hK K))
      apply wpQuiet_nil
      intro w2 k2
      go_wp2_with fail
      exact HR.out _ _ rfl (HK.out.tr k2)
    · have g1 : decide ((6 : Int) ≤ A.T) = false := by simp; omega
      have g2 : decide (t < 0) = true := by simp; omega
      clear hno
      refine wp_region_same (by kernel_rfl) (by kernel_rfl) ?_
      iterate 17
        (apply wpQuiet_step
         intro K hK
         first
           | (apply quiet_skip
              case hw => rfl
              go_simp
              refine hK _ ?_; clear hK K)
           | (apply quiet_do
              case hw => rfl
              case h =>
                intro w' hw'
                (have z0 := Keeps.cell hw' hn trivial)
                go_simp
                first | exact rfl | (exact dfaTracks (H.out.same (HK.out.tr hw')) (fun e he => ⟨he, hw'⟩))
              go_simp
              refine hK _ ?_; clear hK K))
      apply wpQuiet_nil
      intro w2 k2
      go_wp2_with fail
      exact HR.out _ _ rfl (HK.out.tr k2)
  · have g1 : decide ((6 : Int) ≤ A.T) = true := by simp; omega
    clear hno
    refine wp_region_same (by kernel_rfl) (by kernel_rfl) ?_
    iterate 17
      (apply wpQuiet_step
       intro K hK
       first
         | (apply quiet_skip
            case hw => rfl
            go_simp
            refine hK _ ?_; clear hK K)
         | (apply quiet_do
            case hw => rfl
            case h =>
              intro w' hw'
              (have z0 := Keeps.cell hw' hn trivial)
              go_simp
              first | exact rfl | (exact dfaTracks (H.out.same (HK.out.tr hw')) (fun e he => ⟨he, hw'⟩))
            go_simp
            refine hK _ ?_; clear hK K))
    apply wpQuiet_nil
    intro w2 k2
    go_wp2_with fail
    exact HR.out _ _ rfl (HK.out.tr k2)

end Go.Proofs.Ytameihkcajceeaa
