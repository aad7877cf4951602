/- The walks of slices.IndexFunc and slices.ContainsFunc over rows, whatever the predicate. -/
import Derived.Test.YtohhjdadhdibfaaRows2
namespace Go.Proofs.Ytohhjdadhdibfaa
open Go.RowKit

variable {R : Ending → World → Prop} {w : World}

/-- Function F, called of a row beside what it has captured, answers p and makes memory at most. -/
def AnswersR (F : Nat) (caps : Array Value) (p : List Int → Bool) (ls : List (List Int)) (w : World) : Prop :=
  ∀ u l, l ∈ ls → IntsAt w u l → ∀ w' R, Same w w' → (∀ e w'', e = .returned (.bool (p l)) → Same w' w'' → R e w'') → Calls Try.prog F (#[u] ++ caps) w' R

def idxG {α : Type} (p : α → Bool) (l : List α) : Int := match l.findIdx? p with | some i => (i : Int) | none => -1

theorem idxG_hit {α : Type} {p : α → Bool} {l : List α} {k : Nat} (hk : k < l.length) (hp : p l[k] = true) (hn : ∀ i x, i < k → l[i]? = some x → p x = false) : idxG p l = k := by
  unfold idxG
  have : l.findIdx? p = some k := by
    rw [List.findIdx?_eq_some_iff_getElem]
    refine ⟨hk, hp, fun j hj => ?_⟩
    have := hn j _ hj (List.getElem?_eq_getElem (Nat.lt_trans hj hk))
    simpa using this
  rw [this]

theorem idxG_none {α : Type} {p : α → Bool} {l : List α} (hn : ∀ i x, i < l.length → l[i]? = some x → p x = false) : idxG p l = -1 := by
  unfold idxG
  have : l.findIdx? p = none := by
    rw [List.findIdx?_eq_none_iff]
    intro x hx
    obtain ⟨i, hi⟩ := List.getElem?_of_mem hx
    exact hn i x (List.getElem?_eq_some_iff.1 hi).1 hi
  rw [this]

theorem idxG_any {α : Type} (p : α → Bool) (l : List α) : decide (0 ≤ idxG p l) = l.any p := by
  unfold idxG
  cases h : l.findIdx? p with
  | none =>
    have := List.findIdx?_eq_none_iff.1 h
    simp only []
    rw [show decide ((0 : Int) ≤ -1) = false by decide]
    symm; rw [List.any_eq_false]; intro x hx; simp [this x hx]
  | some i =>
    have := (List.findIdx?_eq_some_iff_getElem.1 h)
    obtain ⟨hi, hp, _⟩ := this
    simp only []
    rw [show decide ((0 : Int) ≤ (i : Int)) = true by simp]
    symm; rw [List.any_eq_true]; exact ⟨_, List.getElem_mem hi, hp⟩

set_option maxHeartbeats 1000000 in
theorem indexFuncR {F : Nat} {caps : Array Value} {p : List Int → Bool} {ls : List (List Int)} {v : Value} (hcf : ∀ args w, (callFunc F args).run Try.prog w = .ok (.enter F args) w) (hv : RowsAt w v ls) (hp : AnswersR F caps p ls w)
    (hR : ∀ e w', e = .returned (.int .i64 (idxG p ls)) → Same w w' → R e w') :
    Calls Try.prog 112 #[v, .func (.func F) #[] caps] w R := by
  have HR := hide hR
  clear hR
  obtain ⟨a, c, rfl, hc1, hc2, hcell⟩ := hv.open
  have HC := hide hcell
  have HP := hide hp
  clear hcell hv hp
  unfold maxLen at hc2
  go_enter Try.func112, Try.ntmps112
  go_wp2_with fail
  go_loopw [8] (fun i wr => ∃ k : Nat, i = .int .i64 k ∧ k ≤ ls.length ∧ Hid (∀ i x, i < k → ls[i]? = some x → p x = false) ∧ Same w wr) (fun i _ => ls.length - (intOf i).toNat)
  case atStart => exact ⟨0, rfl, Nat.zero_le _, hide (fun i x hi => absurd hi (Nat.not_lt_zero _)), Keeps.refl _ _⟩
  case round =>
    obtain ⟨k, rfl, hk, hno, hK⟩ := hrel
    by_cases hlt : k < ls.length
    · obtain ⟨b, off, rfl, hb, hcl⟩ := HC.out k hlt
      obtain ⟨u, hu, hiu⟩ := hcl k hlt
      have hck := Keeps.cell hK hu trivial
      obtain ⟨ua, uc, rfl, _⟩ := hiu.open
      have HIU := hide hiu
      have HM := hide (List.getElem_mem hlt)
      have HG := hide (List.getElem?_eq_getElem hlt)
      have HHIT := hide (fun h1 h2 => idxG_hit (p := p) hlt h1 h2)
      clear hcl hiu hu
      generalize ls[k] = row at HM HG HHIT HIU hck
      go_wp2_with fail
      refine HP.out _ row HM.out HIU.out _ _ hK ?_; rintro e w2 rfl k2
      cases hpz : p row with
      | true =>
        have HZ2 := hide hpz
        clear hpz
        go_wp2_with fail
        exact HR.out _ _ (ret_int (HHIT.out HZ2.out hno.out).symm) (hK.tr k2)
      | false =>
        have HZ2 := hide hpz
        clear hpz
        go_wp2_with fail
        go_roundw
        case rel =>
          refine ⟨k + 1, by go_num, by omega, hide (fun i x hi hx => ?_), hK.tr k2⟩
          by_cases e : i = k
          · subst e; rw [HG.out] at hx; obtain rfl := Option.some.inj hx; exact HZ2.out
          · exact hno.out i x (by omega) hx
        case measure => simp [intOf]; omega
    · go_wp2_with fail
      refine HR.out _ _ (ret_int ?_) hK
      obtain rfl : k = ls.length := by omega
      exact (idxG_none hno.out).symm

theorem containsFuncR {F : Nat} {caps : Array Value} {p : List Int → Bool} {ls : List (List Int)} {v : Value} (hcf : ∀ args w, (callFunc F args).run Try.prog w = .ok (.enter F args) w) (hv : RowsAt w v ls) (hp : AnswersR F caps p ls w)
    (hR : ∀ e w', e = .returned (.bool (ls.any p)) → Same w w' → R e w') :
    Calls Try.prog 96 #[v, .func (.func F) #[] caps] w R := by
  have HR := hide hR
  clear hR
  go_enter Try.func96, Try.ntmps96
  go_wp2_with fail
  refine indexFuncR hcf hv hp ?_; rintro e w1 rfl k1
  go_wp2_with fail
  exact HR.out _ _ (ret_bool (idxG_any p ls)) k1

end Go.Proofs.Ytohhjdadhdibfaa
