/- The walk of sibylref12.Holds at an atom and a word's sets. -/
import Derived.Test.YtgpgbkoaopfjkaaHolds
namespace Go.Proofs.Ytgpgbkoaopfjkaa
open Go.RowKit

attribute [local irreducible] wpQuiet wpPlan wpPlanZ wpUp

variable {R : Ending → World → Prop} {w : World}

theorem masksI_at {W : List Nat} {n j : Nat} (h : j < n) : (masksI W n)[j]? = some (maskOf W j : Int) := by simp [masksI, h]

theorem var_lt {o : AOp} {n j v : Nat} (h : okVar o n j v) (hn : 0 < n) : v < n := by
  unfold okVar at h
  split at h <;> omega

theorem only_tru {o : AOp} {A B C N : Nat} (h : FieldsOk o A B C N (0 : Nat) 0) : o = .tru := by
  obtain ⟨_, _, _, _, f1, _, _⟩ := h
  unfold okVar at f1
  split at f1
  · omega
  · cases o <;> simp [AOp.vars] at *

set_option maxRecDepth 10000 in
set_option maxHeartbeats 4000000 in
theorem refHolds {o : AOp} {A B C N n h : Nat} {ka : Option Addr} {kc : Nat} {v : Value} {W : List Nat} (hN : N ≤ 20) (hn : n ≤ 6) (hF : FieldsOk o A B C N n 0) (hW : W.length ≤ 16)
    (hv : CoreIn w h (.agg #[.string o.name, .int .i64 (A : Int), .int .i64 (B : Int), .int .i64 (C : Int), .int .i64 (N : Int), .slice ka 0 kc])) (hs : IntsAt w v (masksI W n))
    (hR : ∀ e w', e = .returned (.bool (if n = 0 then true else holdsO o N (maskOf W A) (maskOf W B) (maskOf W C))) → Same w w' → R e w') :
    Calls Try.prog 17 #[.agg #[.string o.name, .int .i64 (A : Int), .int .i64 (B : Int), .int .i64 (C : Int), .int .i64 (N : Int), .slice ka 0 kc], v, .int .i64 0] w R := by
  have HR := hide hR
  clear hR
  obtain ⟨va, vc, rfl, hc1, hc2, hcell⟩ := hs.open
  rw [masksI_len] at hc1 ⊢
  unfold maxLen at hc2
  have HG := hide (show GoodC o.name (A : Int) (B : Int) (C : Int) (N : Int) (n : Int) 0 from ⟨by omega, by omega, o, rfl, hF⟩)
  have HF := hide hF
  have HC : Hid (∀ i, i < n → ∃ b off, va = some ⟨b, off, none⟩ ∧ ∀ j, j < n → w.cell? ⟨b, off + j, none⟩ = some (.int .i64 (maskOf W j : Int))) := hide (fun i hi => by
    obtain ⟨b, off, e, _, hcl⟩ := hcell i (by rw [masksI_len]; exact hi)
    refine ⟨b, off, e, fun j hj => ?_⟩
    have hj2 : j < (masksI W n).length := by rw [masksI_len]; exact hj
    have h2 := hcl j hj2
    have h3 : (masksI W n)[j] = (maskOf W j : Int) := Option.some.inj ((List.getElem?_eq_getElem hj2).symm.trans (masksI_at hj))
    rw [h2, h3])
  have HML : Hid (∀ i, maskOf W i < 65536) := hide (maskOf_lt hW)
  have hk1 : Same w (w.alloc (.cells #[.string o.name, .int .i64 (A : Int), .int .i64 (B : Int), .int .i64 (C : Int), .int .i64 (N : Int), .slice ka 0 kc] 24)) := (Keeps.refl _ w).alloc _
  have HV := hide (CoreIn.same hk1 hv)
  have HK1 := hide hk1
  have HB1 := hide (heap_new w (.cells #[.string o.name, .int .i64 (A : Int), .int .i64 (B : Int), .int .i64 (C : Int), .int .i64 (N : Int), .slice ka 0 kc] 24))
  clear hcell hs hF hv hk1 hW
  go_enter Try.func17, Try.ntmps17
  go_wp2_with fail
  generalize w.alloc (.cells #[.string o.name, .int .i64 (A : Int), .int .i64 (B : Int), .int .i64 (C : Int), .int .i64 (N : Int), .slice ka 0 kc] 24) = w1 at HB1 HK1 HV ⊢
  generalize w.heap.size = xc at HB1 ⊢
  refine refIs9 HV.out ?_; rintro e w2 r rfl _ hr k2
  obtain rfl : r = true := hr HG.out
  have HB2 := hide (k2.at HB1.out trivial)
  have HK2 := hide (HK1.out.tr k2)
  clear hr k2 HG
  go_wp2_with fail
  go_loopw [7] (fun i wr => ∃ k : Nat, i = .int .i64 k ∧ k ≤ n ∧ Same w2 wr) (fun i _ => n - (intOf i).toNat)
  case atStart => exact ⟨0, rfl, Nat.zero_le _, Keeps.refl _ _⟩
  case round =>
    obtain ⟨k, rfl, hk, hK⟩ := hrel
    have HKR := hide hK
    by_cases hlt : k < n
    · obtain ⟨b, off, rfl, hcl⟩ := HC.out k hlt
      have p1 := Keeps.cell (HK2.out.tr hK) (hcl k hlt) trivial
      have hml := HML.out k
      generalize maskOf W k = x at p1 hml
      clear hcl hK
      go_wp2_with fail
      go_roundw
      case rel => exact ⟨k + 1, by go_num, by omega, HKR.out⟩
      case measure => simp [intOf]; omega
    · obtain rfl : k = n := by omega
      have hb := hK.at HB2.out trivial
      have q0 := cell_at hb 0; have q1 := cell_at hb 1; have q2 := cell_at hb 2; have q3 := cell_at hb 3; have q4 := cell_at hb 4; have q5 := cell_at hb 5
      simp only [List.getElem?_toArray, List.getElem?_cons_zero, List.getElem?_cons_succ] at q0 q1 q2 q3 q4 q5
      have HKE := hide (HK2.out.tr hK)
      clear hK hb
      by_cases hk0 : k = 0
      · subst hk0
        obtain rfl := only_tru HF.out
        go_wp2_with fail
        refine holdsNone ?_; rintro e w3 rfl k3
        have HK3 := hide (HKE.out.tr k3)
        clear k3 q0 q1 q2 q3 q4 q5
        go_wp2_with fail
        exact HR.out _ _ rfl HK3.out
      · have hpos : 0 < k := by omega
        have hf := HF.out
        have hA := var_lt hf.2.2.2.2.1 hpos
        have hB := var_lt hf.2.2.2.2.2.1 hpos
        have hC := var_lt hf.2.2.2.2.2.2 hpos
        obtain ⟨b, off, rfl, hcl⟩ := HC.out 0 hpos
        have HCX := hide (Keeps.cell HKE.out (hcl A hA) trivial)
        have HCY := hide (Keeps.cell HKE.out (hcl B hB) trivial)
        have HCZ := hide (Keeps.cell HKE.out (hcl C hC) trivial)
        clear hcl hf
        go_wp2_with fail
        refine holdsIn hN hA hB hC (HML.out A) (HML.out B) (HML.out C) hn HCX.out HCY.out HCZ.out ?_; rintro e w3 rfl k3
        have HK3 := hide (HKE.out.tr k3)
        clear k3 q0 q1 q2 q3 q4 q5
        have HRR : Hid (∀ w', Same w w' → R (.returned (.bool (holdsO o N (maskOf W A) (maskOf W B) (maskOf W C)))) w') := hide (fun w' hk => HR.out _ _ (by rw [if_neg hk0]) hk)
        generalize holdsO o N (maskOf W A) (maskOf W B) (maskOf W C) = z at HRR ⊢
        go_wp2_with fail
        exact HRR.out _ HK3.out

end Go.Proofs.Ytgpgbkoaopfjkaa
