/- An append of a whole slice, whatever the elements; the walk of slices.Clone over bools. -/
import Derived.Deep.Upon
import Derived.Laws.OwnMore
import Derived.Maps.AppendAt
import Derived.Laws.Cover3
import Derived.Test.YtohhjdadhdibfaaBools
import Derived.Test.YtohhjdadhdibfaaOwnMat
namespace Go.Proofs.Ytohhjdadhdibfaa
open Go.RowKit

variable {R : Ending → World → Prop} {w : World}

/-- 'append(s, u...)', s the call's own, elements of one cell. -/
theorem append_slice {P : Program} {t e : TypeId} {z : Value} {bytes : Nat} (ht : P.underlying t = some (.slice e)) (hi : (P.info? e).map (fun i => (i.zero, i.size, i.bytes)) = some (some z, 1, bytes)) (hzs : z.cells.size = 1) (hby : bytes ≤ 16)
    {B : Nat} {v u : Value} {l m : List Value} (hown : w.ownsRow B e 1 v l.length l) (hu : SliceAt w u m) (hone : ∀ x ∈ m, x.oneCell' = true) (hB : B ≤ w.heap.size) (hn : l.length + m.length ≤ 2199023255552) :
    ∃ v' w', (Builtin.append_ #[t, t] t #[v, u]).run P w = .ok v' w' ∧ w'.ownsRow B e 1 v' (l.length + m.length) (l ++ m) ∧ Keeps (fun b => v.ownBlock ≠ some b) w w' ∧ (v'.ownBlock = v.ownBlock ∨ v'.ownBlock = some w.heap.size) := by
  obtain ⟨i0, hi0, hz0, hz1, hz2⟩ := info_parts hi
  obtain ⟨a, c, rfl, h1, h2, h3⟩ := hu
  have hb : (l.length + m.length) * bytes ≤ 140737488355328 := Nat.le_trans (Nat.mul_le_mul hn hby) (by omega)
  rcases m with _ | ⟨x, m⟩
  · refine ⟨v, w, ?_, by simpa using hown, Keeps.refl _ _, .inl rfl⟩
    rcases hown.2 with ⟨rfl, h0⟩ | ⟨g, cap, cur, rfl, _, _, hnc, _⟩
    · cases a <;> simp [Builtin.append_, run_underlying ht, sizeOf, typeInfo, hi0, Builtin.lenOf, Builtin.firstCells, loadCells, loadCellsFrom]
    · cases a <;> simp [Builtin.append_, run_underlying ht, sizeOf, typeInfo, hi0, Builtin.lenOf, Builtin.firstCells, loadCells, loadCellsFrom, hnc, storeCells]
  · rcases h3 with h3 | ⟨b, off, cur, e', fr, rfl, h5, h6⟩
    · simp at h3
    · obtain ⟨v', w', hr, ho, hg, _, hat⟩ := run_append_own_at (P := P) w B t t e i0 z 1 bytes ht hi0 hz0 hz1 hz2 hzs (by decide) v l.length l hown ⟨b, off, none⟩ (x :: m).length c (x :: m)
        (by simp) (fun j u hj => by
          have := h6 j u hj
          unfold Addr.add
          split
          · rename_i e0; subst e0; rw [cell_at h5]; exact this
          · show w.cell? ⟨b, off + j, none⟩ = _; rw [cell_at h5]; exact this) hone (by unfold maxLen; omega) hb hB
      exact ⟨v', w', hr, ho, (Keeps.refl _ w).grown hg (fun k hk hh => hh.2 hk), hat⟩

theorem bool_info : (Try.prog.info? 4).map (fun i => (i.zero, i.size, i.bytes)) = some (some (.bool false), 1, 1) := by kernel_rfl

/-- The slice v is the call's own, and reads as the bools l. -/
def OwnBools (w : World) (B : Nat) (v : Value) (l : List Bool) : Prop := w.ownsRow B 4 1 v l.length (l.map Value.bool)

theorem slice_of_own {e : TypeId} {B n : Nat} {v : Value} {xs : List Value} (h : w.ownsRow B e 1 v n xs) (hn : n = xs.length) : SliceAt w v xs := by
  subst hn
  rcases h.2 with ⟨rfl, h0⟩ | ⟨g, cap, cur, rfl, hB, hg, q1, q2, q3, q4⟩
  · have : xs = [] := List.eq_nil_of_length_eq_zero (by omega)
    subst this
    exact ⟨none, 0, rfl, Nat.le_refl _, Nat.zero_le _, .inl rfl⟩
  · refine ⟨_, cap, rfl, by omega, q2, .inr ⟨g, 0, cur, _, _, rfl, hg, fun i x hx => ?_⟩⟩
    rw [← q4] at hx
    rw [List.getElem?_take] at hx
    split at hx
    · simpa using hx
    · cases hx

theorem OwnBools.bools {B : Nat} {v : Value} {l : List Bool} (h : OwnBools w B v l) : BoolsAt w v l := slice_of_own h (by simp)

theorem own_nil (w : World) (e : TypeId) {B : Nat} (hB : B ≤ w.heap.size) : (w.alloc (.cells #[] e)).ownsRow B e 1 (.slice (some ⟨w.heap.size, 0, none⟩) 0 0) 0 [] :=
  World.ownsRow_lit (base := B) (e := e) (size := 1) w #[] 0 hB (Nat.zero_le _) rfl

set_option maxRecDepth 10000 in
set_option maxHeartbeats 1000000 in
theorem cloneBools {v : Value} {l : List Bool} (hv : BoolsAt w v l) (h0 : 0 < l.length) (hl : l.length ≤ 1000)
    (hR : ∀ e w' u, e = .returned u → OwnBools w' w.heap.size u l → Same w w' → R e w') :
    Calls Try.prog 60 #[v] w R := by
  have HR := hide hR
  clear hR
  have HV := hide hv
  obtain ⟨a, c, rfl, hc1, hc2, hcell⟩ := hv.open
  obtain ⟨b, off, rfl, _, _⟩ := hcell 0 h0
  obtain ⟨v', w', hr, ho, hk, _⟩ := append_slice (t := 22) Try.underlying22 bool_info rfl (by decide) (own_nil w 4 (Nat.le_refl _)) (SliceAt.same HV.out ((Keeps.refl _ w).alloc _)) (by intro x hx; obtain ⟨y, _, rfl⟩ := List.mem_map.1 hx; rfl) (by simp) (by simp; omega)
  have HO := hide ho
  have HK : Hid (Same w w') := hide (((Keeps.refl _ w).alloc _).trans hk fun x hx _ => ⟨trivial, by simp [Value.ownBlock]; omega⟩)
  clear hcell hv ho hk
  unfold maxLen at hc2
  go_enter Try.func60, Try.ntmps60
  have hq : (binOp .eql 22 (.slice (some ⟨b, off, none⟩) l.length c) (.slice none 0 0)).run Try.prog w = .ok (.bool false) w := by
    simp [binOp, run_equal_slice_nil w 22 4 _ _ _ Try.underlying22]
  go_wp2_with (at_builtin; refine wpList_append_run rfl _ _ _ rfl rfl rfl hr ?_; clear hr)
  exact HR.out _ _ _ rfl (by simpa [OwnBools] using HO.out) HK.out

end Go.Proofs.Ytohhjdadhdibfaa
