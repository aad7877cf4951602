/- The walk of model.Word. -/
import Derived.Test.YtbmpnfibebiaeaaVals
import Derived.Test.YtbmpnfibebiaeaaMat
namespace Go.Proofs.Ytbmpnfibebiaeaa
open Go.RowKit

attribute [local irreducible] wpQuiet wpPlan wpPlanZ wpUp

variable {R : Ending → World → Prop} {w : World}

/-- What the call owns reads as rows, if each element reads. -/
theorem rows_of_owns {B : Nat} {v : Value} {us : List Value} {ls : List (List Int)} (h : w.ownsRow B 37 1 v us.length us) (hl : us.length = ls.length) (hi : ∀ (i : Nat) (u : Value) (l : List Int), us[i]? = some u → ls[i]? = some l → IntsAt w u l) : RowsAt w v ls := by
  refine ⟨us, ?_, hl, hi⟩
  rcases h.2 with ⟨rfl, h0⟩ | ⟨g, cap, cur, rfl, hB, hg, q1, q2, q3, q4⟩
  · have : us = [] := List.eq_nil_of_length_eq_zero h0
    subst this
    exact ⟨none, 0, rfl, Nat.le_refl _, Nat.zero_le _, .inl rfl⟩
  · refine ⟨_, cap, rfl, q1, q2, .inr ⟨g, 0, cur, _, _, rfl, hg, fun i x hx => ?_⟩⟩
    rw [← q4] at hx
    rw [List.getElem?_take] at hx
    split at hx
    · simpa using hx
    · cases hx

set_option maxRecDepth 10000 in
set_option maxHeartbeats 1000000 in
theorem modelWordG {P1 : Value → Value → World → Prop} {v : Value} {L : List Vl} (hv : ValsAt w v L) (hn : L.length ≤ 1000)
    (hE : ∀ w1 u (R1 : Ending → World → Prop), RowsAt w1 u (L.map (·.set)) → Same w w1 → (∀ e w2 x y, e = .returned (.tuple #[x, y]) → P1 x y w2 → R1 e w2) → Calls Try.prog 29 #[u] w1 R1)
    (hR : ∀ e w2 x y, e = .returned (.tuple #[x, y]) → P1 x y w2 → R e w2) : Calls Try.prog 15 #[v] w R := by
  have HR := hide hR
  have HE := hide hE
  clear hR hE
  obtain ⟨a, c, us, rfl, hc1, hc2, hul, hui, hcell⟩ := hv.open
  have HC := hide hcell
  have HUI := hide hui
  have HUL := hide hul
  clear hcell hv hui hul
  unfold maxLen at hc2
  obtain ⟨B, hBs⟩ : ∃ B, B = w.heap.size := ⟨_, rfl⟩
  have HBS := hide hBs
  clear hBs
  go_enter Try.func15, Try.ntmps15
  go_wp2_with fail
  go_loopw [4, 6, 9] (fun u _ i wr => ∃ k : Nat, i = .int .i64 k ∧ k ≤ L.length ∧ Hid (wr.ownsRow B 37 1 u k (us.take k)) ∧ Same w wr) (fun _ _ i _ => L.length - (intOf i).toNat)
  case atStart => exact ⟨0, rfl, Nat.zero_le _, hide (World.ownsRow_nil _ _ _ _), Keeps.refl _ _⟩
  case round =>
    obtain ⟨k, rfl, hk, hown, hK⟩ := hrel
    by_cases hlt : k < L.length
    · obtain ⟨bl, off, rfl, hbl, hcl⟩ := HC.out k hlt
      obtain ⟨y, hux⟩ : ∃ y, us[k]? = some y := ⟨_, List.getElem?_eq_getElem (show k < us.length by rw [HUL.out]; exact hlt)⟩
      obtain ⟨z0, z1, z2⟩ := hcl k _ _ hux (List.getElem?_eq_getElem hlt)
      obtain ⟨hi, _⟩ := HUI.out k _ _ hux (List.getElem?_eq_getElem hlt)
      obtain ⟨ua, uc, rfl, _, _, _⟩ := hi.open
      have z0 := Keeps.cell hK z0 trivial
      have z1 := Keeps.cell hK z1 trivial
      have z2 := Keeps.cell hK z2 trivial
      have HT : Hid (us.take (k + 1) = us.take k ++ [.slice ua L[k].set.length uc]) := hide (by rw [List.take_add_one, hux]; rfl)
      generalize L[k].set.length = sl at z2 HT
      generalize L[k].name = nm at z0
      generalize L[k].ord = od at z1
      clear hcl hi hux
      have hk1 : Same wr (wr.alloc (.cells #[.string nm, .int .i64 od, .slice ua sl uc] 39)) := (Keeps.refl _ wr).alloc _
      have hsz : (wr.alloc (.cells #[.string nm, .int .i64 od, .slice ua sl uc] 39)).heap.size = wr.heap.size + 1 := by simp
      have hB : B ≤ (wr.alloc (.cells #[.string nm, .int .i64 od, .slice ua sl uc] 39)).heap.size := by have := hK.size; rw [HBS.out, hsz]; omega
      have hown1 := ownsRow_keep hown.out hk1 fun _ _ => trivial
      obtain ⟨g, cap1, w2, hr, hown2, hk2, hg, _⟩ := append_wide (P := Try.prog) _ 23 23 37 Try.underlying23 ints_info rfl hown1 hB (.slice ua sl uc) rfl (by omega) (by decide)
      rw [hsz] at hr
      have HK2 : Hid (Same w w2) := hide ((hK.tr hk1).trans hk2 fun x hx _ => ⟨trivial, fun e => by
        have := (ownsRow_block hown1 e).1
        rw [HBS.out] at this; omega⟩)
      rw [← HT.out] at hown2
      have HO := hide hown2
      obtain ⟨s4, c4, rfl⟩ := ownsRow_shape hown.out
      clear hk1 hsz hB hown1 hown2 hown hk2 hg hK
      go_wp2_with (at_builtin; refine wpList_append_run rfl _ _ _ rfl rfl rfl hr ?_; clear hr)
      go_roundw
      case rel => exact ⟨k + 1, by go_num, by omega, HO.out, HK2.out⟩
      case measure => simp [intOf]; omega
    · obtain rfl : k = L.length := by omega
      have HRW : Hid (RowsAt wr u4 (L.map (·.set))) := hide (rows_of_owns (us := us) (by have := hown.out; rwa [List.take_of_length_le (by rw [HUL.out]; exact Nat.le_refl _), ← HUL.out] at this) (by simpa using HUL.out) fun i u l hu hl => by
        simp only [List.getElem?_map, Option.map_eq_some_iff] at hl
        obtain ⟨x, hx, rfl⟩ := hl
        exact (HUI.out i u x hu hx).1.same hK)
      have HK := hide hK
      clear hown hK
      go_wp2_with fail
      refine HE.out _ _ _ HRW.out HK.out ?_; rintro e w2 x y rfl p2
      have HP := hide p2
      clear p2
      go_wp2_with fail
      exact HR.out _ _ _ _ rfl HP.out

end Go.Proofs.Ytbmpnfibebiaeaa
