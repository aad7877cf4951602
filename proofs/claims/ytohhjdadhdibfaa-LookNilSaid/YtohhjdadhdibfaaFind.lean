/- The walks of slices.IndexFunc and slices.ContainsFunc over ints, whatever the predicate. -/
import Derived.Test.YtohhjdadhdibfaaChecked
import Derived.Test.YtohhjdadhdibfaaBase
namespace Go.Proofs.Ytohhjdadhdibfaa
open Go.RowKit

variable {R : Ending → World → Prop} {w : World}

/-- Function F, called of x beside what it has captured, answers p x and makes memory at most. -/
def Answers (F : Nat) (caps : Array Value) (p : Int → Bool) (l : List Int) (w : World) : Prop :=
  ∀ x ∈ l, ∀ w' R, Same w w' → (∀ e w'', e = .returned (.bool (p x)) → Same w' w'' → R e w'') → Calls Try.prog F (#[.int .i64 x] ++ caps) w' R

def idxI (p : Int → Bool) (l : List Int) : Int := match l.findIdx? p with | some i => (i : Int) | none => -1

theorem idxI_hit {p : Int → Bool} {l : List Int} {k : Nat} (hk : k < l.length) (hp : p l[k] = true) (hn : ∀ i (_ : i < k), p (l.getD i 0) = false) : idxI p l = k := by
  unfold idxI
  have : l.findIdx? p = some k := by
    rw [List.findIdx?_eq_some_iff_getElem]
    refine ⟨hk, hp, fun j hj => ?_⟩
    have := hn j hj
    simpa [List.getD, List.getElem?_eq_getElem (Nat.lt_trans hj hk)] using this
  rw [this]

theorem idxI_none {p : Int → Bool} {l : List Int} (hn : ∀ i (_ : i < l.length), p (l.getD i 0) = false) : idxI p l = -1 := by
  unfold idxI
  have : l.findIdx? p = none := by
    rw [List.findIdx?_eq_none_iff]
    intro x hx
    obtain ⟨i, hi, rfl⟩ := List.getElem_of_mem hx
    simpa [List.getD, List.getElem?_eq_getElem hi] using hn i hi
  rw [this]

theorem idxI_any (p : Int → Bool) (l : List Int) : decide (0 ≤ idxI p l) = l.any p := by
  unfold idxI
  cases h : l.findIdx? p with
  | none =>
    have := List.findIdx?_eq_none_iff.1 h
    simp only []
    rw [show decide ((0 : Int) ≤ -1) = false by decide]
    symm; rw [List.any_eq_false]; intro x hx; simp [this x hx]
  | some i =>
    have := (List.findIdx?_eq_some_iff_getElem.1 h)
    obtain ⟨hi, hp, _⟩ := this
    simp only []
    rw [show decide ((0 : Int) ≤ (i : Int)) = true by simp]
    symm; rw [List.any_eq_true]; exact ⟨_, List.getElem_mem hi, hp⟩

set_option maxHeartbeats 1000000 in
theorem indexFunc {F : Nat} {caps : Array Value} {p : Int → Bool} {l : List Int} {v : Value} (hcf : ∀ args w, (callFunc F args).run Try.prog w = .ok (.enter F args) w) (hv : IntsAt w v l) (hp : Answers F caps p l w)
    (hR : ∀ e w', e = .returned (.int .i64 (idxI p l)) → Same w w' → R e w') :
    Calls Try.prog 79 #[v, .func (.func F) #[] caps] w R := by
  have HR := hide hR
  clear hR
  have HV := hide hv.2
  obtain ⟨a, c, rfl, hc1, hc2, hcell⟩ := hv.open
  have HC := hide hcell
  have HP := hide hp
  clear hcell hv hp
  unfold maxLen at hc2
  go_enter Try.func79, Try.ntmps79
  go_wp2_with fail
  go_loopw [8] (fun i wr => ∃ k : Nat, i = .int .i64 k ∧ k ≤ l.length ∧ Hid (∀ i (_ : i < k), p (l.getD i 0) = false) ∧ Same w wr) (fun i _ => l.length - (intOf i).toNat)
  case atStart => exact ⟨0, rfl, Nat.zero_le _, hide (fun i hi => absurd hi (Nat.not_lt_zero _)), Keeps.refl _ _⟩
  case round =>
    obtain ⟨k, rfl, hk, hno, hK⟩ := hrel
    by_cases hlt : k < l.length
    · obtain ⟨b, off, rfl, hb, hcl⟩ := HC.out k hlt
      have hck := Keeps.cell hK (hcl k hlt) trivial
      clear hcl
      obtain ⟨z, hz⟩ : ∃ z, z = l[k] := ⟨_, rfl⟩
      rw [← hz] at hck
      have HZ := hide hz
      have hm : z ∈ l := by rw [hz]; exact List.getElem_mem _
      clear hz
      go_wp2_with fail
      refine HP.out z hm _ _ hK ?_; rintro e w2 rfl k2
      cases hpz : p z with
      | true =>
        have HZ2 := hide hpz
        clear hpz
        go_wp2_with fail
        refine HR.out _ _ (ret_int ?_) (hK.tr k2)
        exact (idxI_hit hlt (by rw [← HZ.out]; exact HZ2.out) hno.out).symm
      | false =>
        have HZ2 := hide hpz
        clear hpz
        go_wp2_with fail
        go_roundw
        case rel =>
          refine ⟨k + 1, by go_num, by omega, hide (fun i hi => ?_), hK.tr k2⟩
          by_cases e : i = k
          · subst e; simpa [List.getD, List.getElem?_eq_getElem hlt, ← HZ.out] using HZ2.out
          · exact hno.out i (by omega)
        case measure => simp [intOf]; omega
    · go_wp2_with fail
      refine HR.out _ _ (ret_int ?_) hK
      obtain rfl : k = l.length := by omega
      exact (idxI_none hno.out).symm

theorem containsFunc {F : Nat} {caps : Array Value} {p : Int → Bool} {l : List Int} {v : Value} (hcf : ∀ args w, (callFunc F args).run Try.prog w = .ok (.enter F args) w) (hv : IntsAt w v l) (hp : Answers F caps p l w)
    (hR : ∀ e w', e = .returned (.bool (l.any p)) → Same w w' → R e w') :
    Calls Try.prog 69 #[v, .func (.func F) #[] caps] w R := by
  have HR := hide hR
  clear hR
  go_enter Try.func69, Try.ntmps69
  go_wp2_with fail
  refine indexFunc hcf hv hp ?_; rintro e w1 rfl k1
  go_wp2_with fail
  exact HR.out _ _ (ret_bool (idxI_any p l)) k1

end Go.Proofs.Ytohhjdadhdibfaa
