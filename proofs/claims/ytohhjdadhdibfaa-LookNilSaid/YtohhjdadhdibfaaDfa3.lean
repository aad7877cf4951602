/- The walks of Run, To. -/
import Derived.Test.YtohhjdadhdibfaaDfa2
import Derived.BigQuiet
namespace Go.Proofs.Ytohhjdadhdibfaa
open Go.RowKit

attribute [local irreducible] wpPlanZ wpPlan wpUp

variable {R : Ending → World → Prop} {w : World} {A : Au} {B d : Nat}

/-- Where a word leads; -1: nowhere. -/
def runA (A : Au) (l : List Int) : Int := l.foldl (stepA A) 0

theorem step_none (A : Au) {s : Int} (h : s < 0) (c : Int) : stepA A s c = -1 := by
  unfold stepA
  rw [if_neg]
  rintro ⟨h1, _⟩
  simp [inA] at h1
  omega

theorem run_none (A : Au) {s : Int} (h : s < 0) : ∀ l : List Int, l ≠ [] → l.foldl (stepA A) s = -1
  | [], h0 => absurd rfl h0
  | c :: l, _ => by
    rw [List.foldl_cons, step_none A h]
    by_cases hl : l = []
    · subst hl; rfl
    · exact run_none A (by decide) l hl

theorem step_in (h : AuOk A) {s c : Int} (hc : inA A s = true ∧ 0 ≤ c ∧ c < 2 ^ A.T.toNat) : inA A (stepA A s c) = true := by
  unfold stepA
  rw [if_pos hc]
  have hi2 : 0 ≤ s ∧ s < (A.acc.length : Int) := by simpa [inA] using hc.1
  obtain ⟨k, rfl⟩ := Int.eq_ofNat_of_zero_le hi2.1
  obtain ⟨m, rfl⟩ := Int.eq_ofNat_of_zero_le hc.2.1
  have hkn : k < A.next.length := by rw [h.1.2.2.2.2]; omega
  have hr := h.2 _ (List.getElem_mem hkn)
  have hm : m < (A.next[k]).length := by rw [hr.1]; exact_mod_cast hc.2.2
  have := hr.2 _ (List.getElem_mem hm)
  simp only [Int.toNat_natCast, List.getD, List.getElem?_eq_getElem hkn, Option.getD_some, List.getElem?_eq_getElem hm]
  simp [inA]; omega

theorem step_neg (h : AuOk A) {s c : Int} (hn : stepA A s c < 0) : stepA A s c = -1 := by
  by_cases hc : inA A s = true ∧ 0 ≤ c ∧ c < 2 ^ A.T.toNat
  · have := step_in h hc
    simp [inA] at this
    omega
  · unfold stepA; rw [if_neg hc]

theorem step_pos (h : AuOk A) {s c : Int} (hn : 0 ≤ stepA A s c) : inA A (stepA A s c) = true := by
  by_cases hc : inA A s = true ∧ 0 ≤ c ∧ c < 2 ^ A.T.toNat
  · exact step_in h hc
  · unfold stepA at hn; rw [if_neg hc] at hn; omega

/-- Where a walk stops, it has stopped. -/
theorem run_stop (ha : AuOk A) {l : List Int} {k : Nat} (hk : k < l.length) (h : stepA A (runA A (l.take k)) l[k] < 0) : runA A l = -1 := by
  have e : l = (l.take k ++ [l[k]]) ++ l.drop (k + 1) := by
    rw [← List.take_succ_eq_append_getElem hk, List.take_append_drop]
  have h2 : runA A (l.take k ++ [l[k]]) = stepA A (runA A (l.take k)) l[k] := by
    unfold runA; rw [List.foldl_append]; rfl
  have h3 : runA A l = (l.drop (k + 1)).foldl (stepA A) (runA A (l.take k ++ [l[k]])) := by
    conv => lhs; rw [e]
    unfold runA; rw [List.foldl_append]
  rw [h3, h2]
  by_cases hd : l.drop (k + 1) = []
  · rw [hd, List.foldl_nil]; exact step_neg ha h
  · exact run_none A h _ hd

theorem run_snoc {l : List Int} {k : Nat} (hk : k < l.length) : runA A (l.take (k + 1)) = stepA A (runA A (l.take k)) l[k] := by
  rw [List.take_succ_eq_append_getElem hk]
  unfold runA; rw [List.foldl_append]; rfl

theorem acc_none : accA A (-1) = false := by simp [accA, inA]

set_option maxHeartbeats 1000000 in
theorem dfaRun {v : Value} {l : List Int} (h : DFAAt w B d A) (hv : IntsAt w v l) (hR : ∀ e w', e = .returned (.tuple #[.int .i64 (runA A l), .bool (accA A (runA A l))]) → Same w w' → R e w') :
    Calls Try.prog 28 #[.pointer (some ⟨d, 0, none⟩), v] w R := by
  have HR := hide hR
  clear hR
  have H := hide h
  have HOK := hide h.ok
  have h1n : 0 < A.acc.length := h.ok.1.2.2.1
  obtain ⟨va, vc, rfl, hc1, hc2, hcell⟩ := hv.open
  have HC := hide hcell
  unfold maxLen at hc2
  obtain ⟨aa, ra, ac, rc, s, L, roots, c0, _, _, hb, _⟩ := h.open
  have C0 := hide c0
  obtain ⟨aa', ac', e1, hd1, hd2, hacell⟩ := hb.open
  simp only [Value.slice.injEq] at e1
  obtain ⟨rfl, _, rfl⟩ := e1
  have HA := hide hacell
  unfold maxLen at hd2
  clear h hcell hv c0 hb hacell
  go_enter Try.func28, Try.ntmps28
  go_wp2_with fail
  go_loopw [4, 12] (fun u i wr => ∃ k : Nat, i = .int .i64 k ∧ k ≤ l.length ∧ u = .int .i64 (runA A (l.take k)) ∧ Hid (inA A (runA A (l.take k)) = true) ∧ Same w wr) (fun _ i _ => l.length - (intOf i).toNat)
  case atStart => exact ⟨0, rfl, Nat.zero_le _, rfl, hide (by simp [runA, inA]; omega), Keeps.refl _ _⟩
  case round =>
    obtain ⟨k, rfl, hk, rfl, hin, hK⟩ := hrel
    by_cases hlt : k < l.length
    · obtain ⟨bl, off, rfl, hbl, hcl⟩ := HC.out k hlt
      have hck := Keeps.cell hK (hcl k hlt) trivial
      have HSN := hide (run_snoc (A := A) hlt)
      have HSP := hide (fun hh => run_stop HOK.out hlt hh)
      generalize l[k] = c at hck HSN HSP
      generalize runA A (l.take k) = st at hin HSN HSP ⊢
      clear hcl
      go_wp2_with fail
      refine dfaStep (H.out.same hK) st c ?_; rintro e w1 rfl k1
      have HNX := hide (fun hh => step_pos HOK.out (s := st) (c := c) hh)
      generalize stepA A st c = nx at HSN HSP HNX ⊢
      have HK1 := hide (hK.tr k1)
      clear hK k1 hck
      by_cases hn : nx < 0
      · have HE := hide (HSP.out hn)
        have HR2 := hide (show ∀ e w', e = .returned (.tuple #[.int .i64 (-1), .bool false]) → Same w w' → R e w' from fun e w' he hk => HR.out e w' (by rw [HE.out, acc_none]; exact he) hk)
        go_wp2_with fail
        exact HR2.out _ _ rfl HK1.out
      · have HN := hide (HNX.out (by omega))
        go_wp2_with fail
        go_roundw
        case rel => exact ⟨k + 1, by go_num, by omega, by rw [HSN.out], hide (by rw [HSN.out]; exact HN.out), HK1.out⟩
        case measure => simp [intOf]; omega
    · obtain rfl : k = l.length := by omega
      rw [List.take_length] at hin ⊢
      have hi2 : 0 ≤ runA A l ∧ runA A l < (A.acc.length : Int) := by simpa [inA] using hin.out
      have HAE := hide (show accA A (runA A l) = A.acc.getD (runA A l).toNat false by simp [accA, hin.out])
      have c0 := Keeps.cell hK C0.out trivial
      generalize runA A l = st at HR hi2 HAE ⊢
      obtain ⟨m, rfl⟩ := Int.eq_ofNat_of_zero_le hi2.1
      have hml : m < A.acc.length := by omega
      obtain ⟨b2, o2, rfl, _, hcl2⟩ := HA.out m hml
      have hak := Keeps.cell hK (hcl2 m hml) trivial
      have HE : Hid (accA A (m : Int) = A.acc[m]) := hide (by rw [HAE.out, Int.toNat_natCast]; simp [List.getD, List.getElem?_eq_getElem hml])
      generalize A.acc[m] = bb at hak HE
      clear hcl2 hi2
      go_wp2_with fail
      go_quiet (fail)
      go_wp2_with fail
      exact HR.out _ _ (by rw [HE.out]; rfl) (hK.drewN _)

end Go.Proofs.Ytohhjdadhdibfaa
