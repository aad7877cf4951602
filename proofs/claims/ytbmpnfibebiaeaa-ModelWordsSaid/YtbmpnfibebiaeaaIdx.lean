/- The walks of slices.IndexFunc, slices.ContainsFunc at ints with a method's value; look.Empty, given look.Reach. -/
import Derived.Test.YtbmpnfibebiaeaaPkA
import Derived.Test.YtbmpnfibebiaeaaLook2
namespace Go.Proofs.Ytbmpnfibebiaeaa
open Go.RowKit

attribute [local irreducible] wpQuiet wpPlan wpPlanZ wpUp

variable {R : Ending → World → Prop} {w : World} {A : Au} {B d : Nat}

/-- The method's value answers p, for each of l. -/
def AnswersB (F : Nat) (recv : Value) (p : Int → Bool) (l : List Int) (w : World) : Prop :=
  ∀ x ∈ l, ∀ w' R, Same w w' → (∀ e w'', e = .returned (.bool (p x)) → Same w' w'' → R e w'') → Calls Try.prog F #[recv, .int .i64 x] w' R

set_option maxHeartbeats 1000000 in
theorem indexFuncB {F : Nat} {recv : Value} {p : Int → Bool} {l : List Int} {v : Value} (hcf : ∀ args w, (callFunc F args).run Try.prog w = .ok (.enter F args) w) (hv : IntsAt w v l) (hp : AnswersB F recv p l w)
    (hR : ∀ e w', e = .returned (.int .i64 (idxI p l)) → Same w w' → R e w') :
    Calls Try.prog 35 #[v, .func (.func F) #[recv] #[]] w R := by
  have HR := hide hR
  clear hR
  have HV := hide hv.2
  obtain ⟨a, c, rfl, hc1, hc2, hcell⟩ := hv.open
  have HC := hide hcell
  have HP := hide hp
  clear hcell hv hp
  unfold maxLen at hc2
  go_enter Try.func35, Try.ntmps35
  go_wp2_with fail
  go_loopw [8] (fun i wr => ∃ k : Nat, i = .int .i64 k ∧ k ≤ l.length ∧ Hid (∀ i (_ : i < k), p (l.getD i 0) = false) ∧ Same w wr) (fun i _ => l.length - (intOf i).toNat)
  case atStart => exact ⟨0, rfl, Nat.zero_le _, hide (fun i hi => absurd hi (Nat.not_lt_zero _)), Keeps.refl _ _⟩
  case round =>
    obtain ⟨k, rfl, hk, hno, hK⟩ := hrel
    by_cases hlt : k < l.length
    · obtain ⟨b, off, rfl, hb, hcl⟩ := HC.out k hlt
      have hck := Keeps.cell hK (hcl k hlt) trivial
      clear hcl
      obtain ⟨z, hz⟩ : ∃ z, z = l[k] := ⟨_, rfl⟩
      rw [← hz] at hck
      have HZ := hide hz
      have hm : z ∈ l := by rw [hz]; exact List.getElem_mem _
      clear hz
      go_wp2_with fail
      refine HP.out z hm _ _ hK ?_; rintro e w2 rfl k2
      cases hpz : p z with
      | true =>
        have HZ2 := hide hpz
        clear hpz
        go_wp2_with fail
        refine HR.out _ _ (ret_int ?_) (hK.tr k2)
        exact (idxI_hit hlt (by rw [← HZ.out]; exact HZ2.out) hno.out).symm
      | false =>
        have HZ2 := hide hpz
        clear hpz
        go_wp2_with fail
        go_roundw
        case rel =>
          refine ⟨k + 1, by go_num, by omega, hide (fun i hi => ?_), hK.tr k2⟩
          by_cases e : i = k
          · subst e; simpa [List.getD, List.getElem?_eq_getElem hlt, ← HZ.out] using HZ2.out
          · exact hno.out i (by omega)
        case measure => simp [intOf]; omega
    · go_wp2_with fail
      refine HR.out _ _ (ret_int ?_) hK
      obtain rfl : k = l.length := by omega
      exact (idxI_none hno.out).symm

theorem containsFuncB {F : Nat} {recv : Value} {p : Int → Bool} {l : List Int} {v : Value} (hcf : ∀ args w, (callFunc F args).run Try.prog w = .ok (.enter F args) w) (hv : IntsAt w v l) (hp : AnswersB F recv p l w)
    (hR : ∀ e w', e = .returned (.bool (l.any p)) → Same w w' → R e w') :
    Calls Try.prog 45 #[v, .func (.func F) #[recv] #[]] w R := by
  have HR := hide hR
  clear hR
  go_enter Try.func45, Try.ntmps45
  go_wp2_with fail
  refine indexFuncB hcf hv hp ?_; rintro e w1 rfl k1
  go_wp2_with fail
  exact HR.out _ _ (ret_bool (idxI_any p l)) k1

theorem callFunc_accepts (args : Array Value) (w : World) : (callFunc 47 args).run Try.prog w = .ok (.enter 47 args) w := by kernel_rfl

/-- look.Empty, given what look.Reach answers. -/
theorem lookEmpty {l : List Int} (hreach : ∀ (w : World) (R : Ending → World → Prop), DFAAt w B d A → (∀ e w' v, e = .returned v → IntsAt w' v l → Same w w' → R e w') → Calls Try.prog 46 #[.pointer (some ⟨d, 0, none⟩)] w R) (h : DFAAt w B d A)
    (hR : ∀ e w', e = .returned (.bool (!l.any (accA A))) → Same w w' → R e w') :
    Calls Try.prog 32 #[.pointer (some ⟨d, 0, none⟩)] w R := by
  have HR := hide hR
  clear hR
  have H := hide h
  have HRE := hide hreach
  clear h hreach
  go_enter Try.func32, Try.ntmps32
  go_wp2_with fail
  refine HRE.out _ _ H.out ?_; rintro e w1 v rfl hv k1
  obtain ⟨a, c, rfl, _, _, _⟩ := hv.open
  have HV := hide hv
  have HK := hide k1
  clear hv k1
  go_wp2_with fail
  refine containsFuncB (p := accA A) (l := l) callFunc_accepts HV.out (fun x _ w' R k hR => dfaAccepts (H.out.same (HK.out.tr k)) x fun e he => hR e w' he (Keeps.refl _ w')) ?_; rintro e w2 rfl k2
  go_wp2_with fail
  exact HR.out _ _ rfl (HK.out.tr k2)

end Go.Proofs.Ytbmpnfibebiaeaa
