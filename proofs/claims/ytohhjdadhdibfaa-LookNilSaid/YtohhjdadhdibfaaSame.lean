/- The walk of sibylref11.Same. -/
import Derived.Test.YtohhjdadhdibfaaChecked
import Derived.Test.YtohhjdadhdibfaaOrd
namespace Go.Proofs.Ytohhjdadhdibfaa
open Go.RowKit

variable {R : Ending → World → Prop} {w : World}

theorem same_prefix {a b : List Int} {k : Nat} (hlen : a.length = b.length) (h : ∀ i, i < k → a.getD i 0 = b.getD i 0) (hk : a.length ≤ k) : a = b := by
  apply List.ext_getElem hlen
  intro i h1 h2
  have := h i (by omega)
  simpa [List.getD, List.getElem?_eq_getElem h1, List.getElem?_eq_getElem h2] using this

set_option maxHeartbeats 1000000 in
theorem sameInts {v u : Value} {a b : List Int} (hv : IntsAt w v a) (hu : IntsAt w u b) (hR : ∀ e w', e = .returned (.bool (decide (a = b))) → Same w w' → R e w') :
    Calls Try.prog 48 #[v, u] w R := by
  have HR := hide hR
  clear hR
  obtain ⟨va, vc, rfl, hc1, hc2, hcell⟩ := hv.open
  obtain ⟨ua, uc, rfl, hd1, hd2, hdell⟩ := hu.open
  have HC := hide hcell
  have HD := hide hdell
  clear hcell hdell hv hu
  unfold maxLen at hc2 hd2
  by_cases hlen : a.length = b.length
  · have HL := hide hlen
    have hne : (((a.length : Nat) : Int) != ((b.length : Nat) : Int)) = false := by rw [hlen]; simp
    clear hlen
    go_enter Try.func48, Try.ntmps48
    go_wp2_with fail
    try rw [hne]
    clear hne
    go_loopw [5] (fun i wr => ∃ k : Nat, i = .int .i64 k ∧ k ≤ a.length ∧ Hid (∀ i, i < k → a.getD i 0 = b.getD i 0) ∧ Same w wr) (fun i _ => a.length - (intOf i).toNat)
    case atStart => exact ⟨0, rfl, Nat.zero_le _, hide (fun i hi => absurd hi (Nat.not_lt_zero _)), Keeps.refl _ _⟩
    case round =>
      obtain ⟨k, rfl, hk, hno, hK⟩ := hrel
      by_cases hlt : k < a.length
      · have hltb : k < b.length := by rw [← HL.out]; exact hlt
        obtain ⟨bl, off, rfl, hbl, hcl⟩ := HC.out k hlt
        obtain ⟨ul, uoff, rfl, hul, hdl⟩ := HD.out k hltb
        have hck := Keeps.cell hK (hcl k hlt) trivial
        have hdk := Keeps.cell hK (hdl k hltb) trivial
        clear hcl hdl
        obtain ⟨x, hx⟩ : ∃ x, x = a[k] := ⟨_, rfl⟩
        obtain ⟨y, hy⟩ : ∃ y, y = b[k] := ⟨_, rfl⟩
        rw [← hx] at hck
        rw [← hy] at hdk
        have ea : a.getD k 0 = x := by rw [hx]; simp [List.getD, List.getElem?_eq_getElem hlt]
        have eb : b.getD k 0 = y := by rw [hy]; simp [List.getD, List.getElem?_eq_getElem hltb]
        have EA := hide ea
        have EB := hide eb
        clear hx hy ea eb
        go_wp2_with fail
        go_quiet (fail)
        by_cases hxy : x = y
        · have hbe : (x != y) = false := by simp [hxy]
          have HXY := hide hxy
          clear hxy
          go_wp2_with fail
          go_roundw
          case rel =>
            refine ⟨k + 1, by go_num, by omega, hide (fun i hi => ?_), hK.drewN _⟩
            by_cases e : i = k
            · subst e; rw [EA.out, EB.out, HXY.out]
            · exact hno.out i (by omega)
          case measure => simp [intOf]; omega
        · have hbe : (x != y) = true := by simp [hxy]
          have HXY := hide hxy
          clear hxy
          go_wp2_with fail
          refine HR.out _ _ (ret_bool ?_) (hK.drewN _)
          symm
          rw [decide_eq_false_iff_not]
          intro e
          exact HXY.out (by rw [← EA.out, ← EB.out, e])
      · go_wp2_with fail
        refine HR.out _ _ (ret_bool ?_) hK
        symm
        rw [decide_eq_true_iff]
        exact same_prefix HL.out hno.out (by omega)
  · have hne : (((a.length : Nat) : Int) != ((b.length : Nat) : Int)) = true := by rw [bne_iff_ne]; intro e; exact hlen (by exact_mod_cast e)
    have HL := hide hlen
    clear hlen
    go_enter Try.func48, Try.ntmps48
    go_wp2_with fail
    refine HR.out _ _ (ret_bool ?_) (Keeps.refl _ _)
    symm
    rw [decide_eq_false_iff_not]
    intro e
    exact HL.out (by rw [e])

end Go.Proofs.Ytohhjdadhdibfaa
