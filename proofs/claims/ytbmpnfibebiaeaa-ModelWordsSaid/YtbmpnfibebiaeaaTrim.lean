/- An append of a whole slice; the walks of word.Trim, sibylref11.Trim. -/
import Derived.Deep.Upon
import Derived.Laws.OwnMore
import Derived.Maps.AppendAt
import Derived.Test.YtbmpnfibebiaeaaDec
namespace Go.Proofs.Ytbmpnfibebiaeaa
open Go.RowKit

variable {R : Ending → World → Prop} {w : World}

theorem IntsAt.take {v : Value} {l : List Int} (h : IntsAt w v l) (k : Nat) (hk : k ≤ l.length) : ∃ a c, v = .slice a l.length c ∧ IntsAt w (.slice a k c) (l.take k) := by
  obtain ⟨⟨a, c, rfl, h1, h2, h3⟩, h4⟩ := h
  simp only [List.length_map] at *
  refine ⟨a, c, rfl, ⟨a, c, by simp [Nat.min_eq_left hk], by simp; omega, h2, ?_⟩, fun x hx => h4 x (List.mem_of_mem_take hx)⟩
  rcases h3 with h3 | ⟨b, off, cur, e, fr, rfl, h5, h6⟩
  · left; simp at h3; simp [h3]
  · refine .inr ⟨b, off, cur, e, fr, rfl, h5, fun i x hx => h6 i x ?_⟩
    rw [List.map_take, List.getElem?_take] at hx
    split at hx
    · exact hx
    · cases hx

/-- 'append(s, u...)', s the call's own. -/
theorem append_more {B : Nat} {v u : Value} {l m : List Int} (hown : OwnInts w B v l) (hu : IntsAt w u m) (hB : B ≤ w.heap.size) (hn : l.length + m.length ≤ 2199023255552) :
    ∃ v' w', (Builtin.append_ #[37, 37] 37 #[v, u]).run Try.prog w = .ok v' w' ∧ OwnInts w' B v' (l ++ m) ∧ Keeps (fun b => v.ownBlock ≠ some b) w w' ∧ (v'.ownBlock = v.ownBlock ∨ v'.ownBlock = some w.heap.size) := by
  obtain ⟨i0, hi0, hz0, hz1, hz2⟩ := info_parts int_info
  obtain ⟨⟨a, c, rfl, h1, h2, h3⟩, h4⟩ := hu
  simp only [List.length_map] at *
  rcases m with _ | ⟨x, m⟩
  · refine ⟨v, w, ?_, by simpa using hown, Keeps.refl _ _, .inl rfl⟩
    rcases hown.2 with ⟨rfl, h0⟩ | ⟨g, cap, cur, rfl, _, _, hnc, _⟩
    · cases a <;> simp [Builtin.append_, run_underlying Try.underlying37, sizeOf, typeInfo, hi0, Builtin.lenOf, Builtin.firstCells, loadCells, loadCellsFrom]
    · cases a <;> simp [Builtin.append_, run_underlying Try.underlying37, sizeOf, typeInfo, hi0, Builtin.lenOf, Builtin.firstCells, loadCells, loadCellsFrom, hnc, storeCells]
  · rcases h3 with h3 | ⟨b, off, cur, e, fr, rfl, h5, h6⟩
    · simp at h3
    · obtain ⟨v', w', hr, ho, hg, _, hat⟩ := run_append_own_at (P := Try.prog) w B 37 37 3 i0 _ 1 8 Try.underlying37 hi0 hz0 hz1 hz2 rfl (by decide) v l.length (l.map (Value.int .i64)) hown ⟨b, off, none⟩ (x :: m).length c ((x :: m).map (Value.int .i64))
        (by simp) (fun j u hj => by
          have := h6 j u hj
          unfold Addr.add
          split
          · rename_i e0; subst e0; rw [cell_at h5]; exact this
          · show w.cell? ⟨b, off + j, none⟩ = _; rw [cell_at h5]; exact this) (by intro u hu; obtain ⟨y, _, rfl⟩ := List.mem_map.1 hu; rfl) (by unfold maxLen; omega) (by omega) hB
      refine ⟨v', w', hr, ?_, (Keeps.refl _ w).grown hg (fun k hk hh => hh.2 hk), hat⟩
      unfold OwnInts
      simpa using ho

/-- A new slice of no ints. -/
theorem own_empty (w : World) {B : Nat} (hB : B ≤ w.heap.size) : OwnInts (w.alloc (.cells #[] 3)) B (.slice (some ⟨w.heap.size, 0, none⟩) 0 0) [] := by
  have := World.ownsRow_lit (base := B) (e := 3) (size := 1) w #[] 0 hB (Nat.zero_le _) rfl
  exact this

/-- Without the noughts at the end. -/
def trim (l : List Int) : List Int := (l.reverse.dropWhile (· == 0)).reverse

theorem trim_zero (l : List Int) : trim (l ++ [0]) = trim l := by simp [trim]
theorem trim_end (l : List Int) {x : Int} (h : x ≠ 0) : trim (l ++ [x]) = l ++ [x] := by simp [trim, h]

/-- 'append([]int{}, u...)'. -/
theorem copied {wr : World} {u : Value} {m : List Int} (hu : IntsAt w u m) (hK : Same w wr) (hn : m.length ≤ 2199023255552) :
    ∃ v' w', (Builtin.append_ #[37, 37] 37 #[.slice (some ⟨wr.heap.size, 0, none⟩) 0 0, u]).run Try.prog (wr.alloc (.cells #[] 3)) = .ok v' w' ∧ Hid (OwnInts w' w.heap.size v' m ∧ Same w w') := by
  obtain ⟨v', w', hr, ho, hk, _⟩ := append_more (own_empty wr hK.size) (hu.same (hK.alloc (.cells #[] 3))) (hK.alloc (.cells #[] 3)).size (by simpa using hn)
  refine ⟨v', w', hr, ⟨by simpa using ho, (hK.alloc (.cells #[] 3)).trans hk fun x hx _ => ⟨trivial, ?_⟩⟩⟩
  have := hK.size
  simp [Value.ownBlock]; omega

set_option maxRecDepth 10000 in
set_option maxHeartbeats 2000000 in
theorem refTrim {v : Value} {l : List Int} (hv : IntsAt w v l) (hl : l.length ≤ 1000)
    (hR : ∀ e w' u, e = .returned u → OwnInts w' w.heap.size u (trim l) → Same w w' → R e w') :
    Calls Try.prog 18 #[v] w R := by
  have HR := hide hR
  clear hR
  have HV := hide hv
  obtain ⟨a, c, rfl, hc1, hc2, hcell⟩ := hv.open
  have HC := hide hcell
  clear hcell hv
  unfold maxLen at hc2
  go_enter Try.func18, Try.ntmps18
  go_wp2_with fail
  go_loopw [3] (fun i wr => ∃ k : Nat, i = .int .i64 k ∧ k ≤ l.length ∧ trim l = trim (l.take k) ∧ Same w wr) (fun i _ => (intOf i).toNat)
  case atStart => exact ⟨l.length, rfl, Nat.le_refl _, by simp, Keeps.refl _ _⟩
  case round =>
    obtain ⟨k, rfl, hk, ht, hK⟩ := hrel
    obtain ⟨a', c', e1, hT⟩ := HV.out.take k hk
    simp only [Value.slice.injEq] at e1
    obtain ⟨rfl, _, rfl⟩ := e1
    obtain ⟨v', w', hr, HO⟩ := copied hT hK (by simp; omega)
    have HT := hide hT
    have HTR := hide ht
    have HK := hide hK
    clear hT ht hK
    by_cases h0 : k = 0
    · subst h0
      have H0 := hide (show trim l = l.take 0 by rw [HTR.out]; rfl)
      cases a with
      | none =>
        go_wp2_with (at_builtin; refine wpList_append_run rfl _ _ _ rfl rfl rfl hr ?_; clear hr)
        exact HR.out _ _ _ rfl (by rw [H0.out]; exact HO.out.1) HO.out.2
      | some ad =>
        go_wp2_with (at_builtin; refine wpList_append_run rfl _ _ _ rfl rfl rfl hr ?_; clear hr)
        exact HR.out _ _ _ rfl (by rw [H0.out]; exact HO.out.1) HO.out.2
    · obtain ⟨bl, off, rfl, hbl, hcl⟩ := HC.out (k - 1) (by omega)
      have hck := Keeps.cell HK.out (hcl (k - 1) (by omega)) trivial
      have htk : l.take k = l.take (k - 1) ++ [l[k - 1]] := by
        rw [← List.take_succ_eq_append_getElem (show k - 1 < l.length by omega)]
        congr 1; omega
      generalize l[k - 1] = x at hck htk
      obtain ⟨m, rfl⟩ : ∃ m, k = m + 1 := ⟨k - 1, by omega⟩
      rw [Nat.add_sub_cancel] at hck htk
      have HTK := hide htk
      clear hcl htk
      by_cases hx : x = 0
      · subst hx
        clear hr
        go_wp2_with fail
        go_roundw
        case rel => exact ⟨m, by go_num, by omega, by rw [HTR.out, HTK.out, trim_zero], HK.out⟩
        case measure => simp [intOf]
      · have H0 := hide (show trim l = l.take (m + 1) by rw [HTR.out, HTK.out, trim_end _ hx])
        go_wp2_with (at_builtin; refine wpList_append_run rfl _ _ _ rfl rfl rfl hr ?_; clear hr)
        exact HR.out _ _ _ rfl (by rw [H0.out]; exact HO.out.1) HO.out.2

end Go.Proofs.Ytbmpnfibebiaeaa
