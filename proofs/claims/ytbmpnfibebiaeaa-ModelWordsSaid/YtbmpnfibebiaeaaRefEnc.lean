/- The walks of sibylref27.Sets, sibylref11.Bound, sibylref11.Encode. -/
import Derived.Test.YtbmpnfibebiaeaaEncNot
import Derived.Test.YtbmpnfibebiaeaaModWord
namespace Go.Proofs.Ytbmpnfibebiaeaa
open Go.RowKit

attribute [local irreducible] wpQuiet wpPlan wpPlanZ wpUp

variable {R : Ending → World → Prop} {w : World}

set_option maxRecDepth 10000 in
set_option maxHeartbeats 1000000 in
theorem refSets {v : Value} {L : List Vl} (hv : ValsAt w v L) (hn : L.length ≤ 1000)
    (hR : ∀ e w2 u, e = .returned u → RowsAt w2 u (L.map (·.set)) → Same w w2 → R e w2) : Calls Try.prog 20 #[v] w R := by
  have HR := hide hR
  clear hR
  obtain ⟨a, c, us, rfl, hc1, hc2, hul, hui, hcell⟩ := hv.open
  have HC := hide hcell
  have HUI := hide hui
  have HUL := hide hul
  clear hcell hv hui hul
  unfold maxLen at hc2
  obtain ⟨B, hBs⟩ : ∃ B, B = w.heap.size := ⟨_, rfl⟩
  have HBS := hide hBs
  clear hBs
  go_enter Try.func20, Try.ntmps20
  go_wp2_with fail
  go_loopw [3, 4] (fun u i wr => ∃ k : Nat, i = .int .i64 k ∧ k ≤ L.length ∧ Hid (wr.ownsRow B 37 1 u k (us.take k)) ∧ Same w wr) (fun _ i _ => L.length - (intOf i).toNat)
  case atStart => exact ⟨0, rfl, Nat.zero_le _, hide (World.ownsRow_nil _ _ _ _), Keeps.refl _ _⟩
  case round =>
    obtain ⟨k, rfl, hk, hown, hK⟩ := hrel
    by_cases hlt : k < L.length
    · obtain ⟨bl, off, rfl, hbl, hcl⟩ := HC.out k hlt
      obtain ⟨y, hux⟩ : ∃ y, us[k]? = some y := ⟨_, List.getElem?_eq_getElem (show k < us.length by rw [HUL.out]; exact hlt)⟩
      obtain ⟨_, _, z2⟩ := hcl k _ _ hux (List.getElem?_eq_getElem hlt)
      obtain ⟨hi, _⟩ := HUI.out k _ _ hux (List.getElem?_eq_getElem hlt)
      obtain ⟨ua, uc, rfl, _, _, _⟩ := hi.open
      have z2 := Keeps.cell hK z2 trivial
      have HT : Hid (us.take (k + 1) = us.take k ++ [.slice ua L[k].set.length uc]) := hide (by rw [List.take_add_one, hux]; rfl)
      generalize L[k].set.length = sl at z2 HT
      clear hcl hi hux
      have hB : B ≤ wr.heap.size := by have := hK.size; rw [HBS.out]; omega
      have hown1 := hown.out
      obtain ⟨g, cap1, w2, hr, hown2, hk2, hg, _⟩ := append_wide (P := Try.prog) wr 23 23 37 Try.underlying23 ints_info rfl hown1 hB (.slice ua sl uc) rfl (by omega) (by decide)
      have HK2 : Hid (Same w w2) := hide (hK.trans hk2 fun x hx _ => ⟨trivial, fun e => by
        have := (ownsRow_block hown1 e).1
        rw [HBS.out] at this; omega⟩)
      rw [← HT.out] at hown2
      have HO := hide hown2
      obtain ⟨s4, c4, rfl⟩ := ownsRow_shape hown.out
      clear hB hown1 hown2 hown hk2 hg hK
      go_wp2_with (at_builtin; refine wpList_append_run rfl _ _ _ rfl rfl rfl hr ?_; clear hr)
      go_roundw
      case rel => exact ⟨k + 1, by go_num, by omega, HO.out, HK2.out⟩
      case measure => simp [intOf]; omega
    · obtain rfl : k = L.length := by omega
      have HRW : Hid (RowsAt wr u3 (L.map (·.set))) := hide (rows_of_owns (us := us) (by have := hown.out; rwa [List.take_of_length_le (by rw [HUL.out]; exact Nat.le_refl _), ← HUL.out] at this) (by simpa using HUL.out) fun i u l hu hl => by
        simp only [List.getElem?_map, Option.map_eq_some_iff] at hl
        obtain ⟨x, hx, rfl⟩ := hl
        exact (HUI.out i u x hu hx).1.same hK)
      have HK := hide hK
      clear hown hK
      go_wp2_with fail
      exact HR.out _ _ _ rfl HRW.out HK.out

set_option maxRecDepth 10000 in
set_option maxHeartbeats 1000000 in
theorem refBound {v : Value} {ls : List (List Int)} (hv : RowsAt w v ls) (hs : Small ls) (hR : ∀ e w', e = .returned (.int .i64 (bnd ls.flatten)) → Same w w' → R e w') :
    Calls Try.prog 31 #[v] w R := by
  have HR := hide hR
  clear hR
  obtain ⟨a, c, rfl, hc1, hc2, hcell⟩ := hv.open
  have HC := hide hcell
  have HS := hide hs
  clear hcell hv hs
  unfold maxLen at hc2
  go_enter Try.func31, Try.ntmps31
  go_wp2_with fail
  go_loopw [3, 4] (fun n i wr => ∃ k : Nat, i = .int .i64 k ∧ k ≤ ls.length ∧ n = .int .i64 (bnd (upTo ls k 0)) ∧ Same w wr) (fun _ i _ => ls.length - (intOf i).toNat)
  case atStart => exact ⟨0, rfl, Nat.zero_le _, by simp [upTo, bnd], Keeps.refl _ _⟩
  case round =>
    obtain ⟨k, rfl, hk, rfl, hK⟩ := hrel
    by_cases hlt : k < ls.length
    · obtain ⟨bl, off, rfl, hbl, hcl⟩ := HC.out k hlt
      obtain ⟨u, hu, hiu⟩ := hcl k hlt
      obtain ⟨ua, uc, rfl, hd1, hd2, hdell⟩ := hiu.open
      have HU := hide hu
      have hrow : ls[k]? = some ls[k] := List.getElem?_eq_getElem hlt
      generalize ls[k] = row at hrow HU hd1 hdell
      have HD := hide hdell
      have HROW := hide hrow
      unfold maxLen at hd2
      clear hcl hu hiu hdell hrow
      have HST := hide hK
      go_wp2_with fail
      go_loopw [3, 5] (fun n i wr => ∃ m : Nat, i = .int .i64 m ∧ m ≤ row.length ∧ n = .int .i64 (bnd (upTo ls k m)) ∧ Same w wr) (fun _ i _ => row.length - (intOf i).toNat)
      case atStart => exact ⟨0, rfl, Nat.zero_le _, rfl, HST.out⟩
      case round =>
        clear hK
        obtain ⟨m, rfl, hm, rfl, hK2⟩ := hrel
        have hck := Keeps.cell hK2 HU.out trivial
        have hb := bnd_bounds (upTo_small HS.out k m)
        by_cases hlt2 : m < row.length
        · obtain ⟨rl, roff, rfl, hrl, hdl⟩ := HD.out m hlt2
          have hdk := Keeps.cell hK2 (hdl m hlt2) trivial
          have hx : row[m]? = some row[m] := List.getElem?_eq_getElem hlt2
          have hxs := HS.out row (List.mem_of_getElem? HROW.out) row[m] (List.getElem_mem hlt2)
          generalize row[m] = x at hx hdk hxs
          have HN := hide (show bnd (upTo ls k (m + 1)) = max (bnd (upTo ls k m)) (x + 1) by rw [upTo_snoc HROW.out hx, bnd_snoc])
          obtain ⟨hx0, hx1⟩ := hxs
          obtain ⟨hb0, hb1⟩ := hb
          clear hdl hx
          generalize bnd (upTo ls k m) = n at HN hb0 hb1
          go_wp2_with fail
          all_goals
            go_roundw
            case rel => exact ⟨m + 1, by go_num, by omega, by rw [HN.out]; congr 1; omega, hK2⟩
            case measure => simp [intOf]; omega
        · go_wp2_with fail
          go_roundw
          case rel => exact ⟨k + 1, by go_num, by omega, by rw [upTo_row HROW.out (show row.length ≤ m by omega)], hK2⟩
          case measure => simp [intOf]; omega
    · go_wp2_with fail
      exact HR.out _ _ (ret_int (by rw [upTo_all ls (by omega)])) hK

end Go.Proofs.Ytbmpnfibebiaeaa
