/- The walk of minim.Min. -/
import Derived.Test.YtgpgbkoaopfjkaaMin4
namespace Go.Proofs.Ytgpgbkoaopfjkaa
open Go.RowKit

attribute [local irreducible] wpQuiet wpPlan wpPlanZ wpUp
attribute [local go_sem] field_next3

variable {R : Ending → World → Prop} {w : World} {A : Au} {B d : Nat}

/-- A state's class. -/
def keyS (A : Au) (s : Nat) : Nat := (stab A).getD s 0

/-- The classes of the states listed. -/
def keysL (A : Au) (l : List Nat) : List Int := l.map fun s => (keyS A s : Int)

theorem keysL_eq (A : Au) (l : List Nat) : keysL A l = (l.map (keyS A)).map Int.ofNat := by simp [keysL]
theorem keysL_snoc (A : Au) (l : List Nat) (t : Nat) : keysL A (l ++ [t]) = keysL A l ++ [(keyS A t : Int)] := by simp [keysL]
theorem keysL_len (A : Au) (l : List Nat) : (keysL A l).length = l.length := by simp [keysL]
theorem mem_keysL {l : List Nat} {t : Nat} : ((keyS A t : Nat) : Int) ∈ keysL A l ↔ keyS A t ∈ l.map (keyS A) := by
  rw [keysL_eq, List.mem_map]
  constructor
  · rintro ⟨y, hy, e⟩; rwa [show keyS A t = y by simp only [Int.ofNat_eq_natCast] at e; omega]
  · intro h; exact ⟨_, h, rfl⟩
theorem idx_keysL {l : List Nat} {t : Nat} : (keysL A l).idxOf ((keyS A t : Nat) : Int) = (l.map (keyS A)).idxOf (keyS A t) := by
  rw [keysL_eq]
  exact idxOf_map Int.ofNat fun y _ e => by simp only [Int.ofNat_eq_natCast] at e; omega

theorem rowRun_take (l : List Nat) (ts : List Nat) (j : Nat) : (rowRun (keyS A) l (ts.take j)).1 <+: (rowRun (keyS A) l ts).1 := by
  conv => rhs; rw [← List.take_append_drop j ts]
  unfold rowRun
  rw [List.foldl_append]
  exact fold_pre _ _ _

theorem bfs_key (A : Au) (k : Nat) : bfs (rowN A) (keyS A) 0 k = bfs (rowN A) (fun s => (stab A).getD s 0) 0 k := rfl

theorem bfs_next {k s : Nat} {l : List Nat} {outs : List (List Nat)} (hb : bfs (rowN A) (keyS A) 0 k = (l, outs)) (ho : outs.length = k) (hs : l[k]? = some s) :
    bfs (rowN A) (keyS A) 0 (k + 1) = ((rowRun (keyS A) l (rowN A s)).1, outs ++ [(rowRun (keyS A) l (rowN A s)).2]) := by
  show bfsStep (rowN A) (keyS A) (bfs (rowN A) (keyS A) 0 k) = _
  rw [hb]
  unfold bfsStep
  simp only [ho, hs]

theorem rowRun_yes {l ts : List Nat} {t : Nat} (h : keyS A t ∈ (rowRun (keyS A) l ts).1.map (keyS A)) : rowRun (keyS A) l (ts ++ [t]) = ((rowRun (keyS A) l ts).1, (rowRun (keyS A) l ts).2 ++ [((rowRun (keyS A) l ts).1.map (keyS A)).idxOf (keyS A t)]) := by
  rw [rowRun_snoc]; unfold rowStep; rw [if_pos h]

theorem rowRun_no {l ts : List Nat} {t : Nat} (h : keyS A t ∉ (rowRun (keyS A) l ts).1.map (keyS A)) : rowRun (keyS A) l (ts ++ [t]) = ((rowRun (keyS A) l ts).1 ++ [t], (rowRun (keyS A) l ts).2 ++ [(rowRun (keyS A) l ts).1.length]) := by
  rw [rowRun_snoc]; unfold rowStep; rw [if_neg h, List.idxOf_eq_length h, List.length_map]

theorem stab_len (A : Au) : (stab A).length = A.acc.length := clsK_length A _

theorem MnSt.auto {W m x : Nat} {w3 wr : World} {vl vr ua vn : Value} {K l r : List Int} (h : MnSt W m x w3 wr vl vr ua vn A.T K l r A.acc A.next) (hok : AuOk A) : AutoAt wr (.agg #[.int .i64 A.T, ua, vn]) A := by
  obtain ⟨vs, h1, h2, h3⟩ := h.mat
  exact ⟨ua, vn, rfl, OwnBools.bools h.accs, OwnMat.rows ⟨vs, h1, h2, fun i u q hu hq => (h3 i u q hu hq).1⟩ hok.bounds.2, hok.bounds.1⟩

set_option maxRecDepth 10000 in
set_option maxHeartbeats 8000000 in
theorem minMin (h : DFAAt w B d A) (hR : ∀ e w' d', e = .returned (.tuple #[.pointer (some ⟨d', 0, none⟩), .int .i64 0]) → DFAAt w' w.heap.size d' (minAu A) → Same w w' → R e w') :
    Calls Try.prog 24 #[.pointer (some ⟨d, 0, none⟩)] w R := by
  have HR := hide hR
  clear hR
  have HOK := hide h.ok
  have hn1 : 0 < A.acc.length := h.ok.1.2.2.1
  have hn4 : A.acc.length ≤ 400 := h.ok.1.2.2.2.1
  have HNL := hide h.ok.1.2.2.2.2
  have HP64 := hide (two_le (show A.T.toNat ≤ 6 by have := h.ok.1.1; have := h.ok.1.2.1; omega))
  have H := hide h
  have HSL := hide (stab_len A)
  have HSI : Hid (∀ y ∈ (stab A).map Int.ofNat, InI64 y) := hide (nat_ints fun y hy => by have := clsK_lt A _ y hy; omega)
  have hmm := @run_makeMap Try.prog
  have HMM := hide hmm
  clear h hmm
  go_enter Try.func24, Try.ntmps24
  go_wp2_with fail
  refine minClasses H.out ?_; rintro e w1 uc rfl o1 k1
  have hi1 := o1.ints HSI.out
  obtain ⟨ca, cc, rfl, hcc1, hcc2, hccell⟩ := hi1.open
  rw [List.length_map, HSL.out] at hcc1 ⊢
  unfold maxLen at hcc2
  have HK1 := hide k1
  have HCC : Hid (∀ s, s < A.acc.length → ∃ b off, ca = some ⟨b, off, none⟩ ∧ ∀ t, t < A.acc.length → w1.cell? ⟨b, off + t, none⟩ = some (.int .i64 (keyS A t : Int))) := hide fun s hs => by
    obtain ⟨b, off, e, _, hcl⟩ := hccell s (by rw [List.length_map, HSL.out]; exact hs)
    refine ⟨b, off, e, fun t ht => ?_⟩
    have ht2 : t < ((stab A).map Int.ofNat).length := by rw [List.length_map, HSL.out]; exact ht
    have h2 := hcl t ht2
    rw [List.getElem_map] at h2
    rw [h2]
    unfold keyS
    rw [List.getD_eq_getElem?_getD, List.getElem?_eq_getElem (show t < (stab A).length by rw [HSL.out]; exact ht)]
    rfl
  clear o1 k1 hi1 hccell
  go_wp2_with fail
  refine dfaTo (H.out.same HK1.out) ?_; rintro e w2 v2 rfl o2 k2
  obtain ⟨va, vn, rfl, _, om⟩ := o2
  obtain ⟨na, nc, rfl⟩ := om.shape
  have HRW := hide (om.rows HOK.out.bounds.2)
  have HK2 := hide (HK1.out.tr k2)
  have HK12 := hide k2
  obtain ⟨cb, coff, rfl, hc0⟩ := HCC.out 0 hn1
  have hz := Keeps.cell k2 (hc0 0 hn1) trivial
  rw [Nat.add_zero] at hz
  have hz1 := cell_alloc hz (.map #[] 0)
  have hmm := HMM.out
  clear om k2 hc0 hz
  -- the map with one key
  obtain ⟨w4, hr4, m4, k4⟩ := run_update_new keysI Try.underlying75 (A := ([] : List (Int × Value))) (w := w2.alloc (.map #[] 0)) (m := w2.heap.size) ⟨#[], 0, heap_new w2 _, rfl⟩ (keyS A 0 : Int) (.int .i64 0) rfl
  go_wp2_with fail
  have s24 : Same w2 w4 := ((Keeps.refl (fun _ => True) w2).alloc (.map #[] 0)).trans k4 fun b hb _ => ⟨trivial, by omega⟩
  have m4b : w2.heap.size + 1 ≤ w4.heap.size := by
    have := k4.size
    simp at this; omega
  refine dfaTracks (H.out.same (HK2.out.tr (s24.alloc (.cells #[.int .i64 0] 3)))) ?_; rintro e rfl
  go_wp2_with fail
  have s25 : Same w4 ((w4.alloc (.cells #[.int .i64 0] 3)).alloc (.cells #[.int .i64 A.T, .slice none 0 0, .slice none 0 0] 33)) := ((Keeps.refl _ w4).alloc _).alloc _
  have hst : MnSt w2.heap.size w2.heap.size (w4.heap.size + 1) w2 ((w4.alloc (.cells #[.int .i64 0] 3)).alloc (.cells #[.int .i64 A.T, .slice none 0 0, .slice none 0 0] 33)) (.slice (some ⟨w4.heap.size, 0, none⟩) 1 1) (.slice none 0 0) (.slice none 0 0) (.slice none 0 0) A.T (keysL A [0]) ([0] : List Int) [] [] [] := by
    have h1 := heap_old (heap_new w4 (.cells #[.int .i64 0] 3)) (.cells #[.int .i64 A.T, .slice none 0 0, .slice none 0 0] 33)
    have h2 := heap_new (w4.alloc (.cells #[.int .i64 0] 3)) (.cells #[.int .i64 A.T, .slice none 0 0, .slice none 0 0] 33)
    rw [show (w4.alloc (.cells #[.int .i64 0] 3)).heap.size = w4.heap.size + 1 by simp] at h2
    exact ⟨m4.keep s25 trivial, RowIn.own (l := [0]) h1 (by omega) rfl (by decide), World.ownsRow_nil _ _ _ _, fun b hb => by simp [Value.ownBlock] at hb, h2, World.ownsRow_nil _ _ _ _, ⟨[], World.ownsRow_nil _ _ _ _, rfl, fun i u q hu => by simp at hu⟩, s24.tr s25, rfl, Nat.le_refl _, by omega⟩
  generalize (w4.alloc (.cells #[.int .i64 0] 3)).alloc (.cells #[.int .i64 A.T, .slice none 0 0, .slice none 0 0] 33) = w6 at hst ⊢
  generalize w4.heap.size + 1 = x at hst ⊢
  generalize w4.heap.size = g0 at hst ⊢
  obtain ⟨W, hW⟩ : ∃ W, W = w2.heap.size := ⟨_, rfl⟩
  rw [← hW] at hst ⊢
  have HW := hide hW
  generalize hmW : W = m at hst ⊢
  have HMW := hide hmW
  have HST : Hid (MnSt W m x w2 w6 (.slice (some ⟨g0, 0, none⟩) 1 1) (.slice none 0 0) (.slice none 0 0) (.slice none 0 0) A.T (keysL A [0]) [0] [] [] []) := hide (by rw [hmW]; exact hst)
  clear hst s24 s25 m4b k4 m4 hW hmW hmm hz1
  go_loopw [7, 9] (fun u i wr => ∃ (k : Nat) (l : List Nat) (outs : List (List Nat)) (ua vn : Value), i = .int .i64 k ∧ k ≤ l.length ∧ l.length ≤ A.acc.length ∧ outs.length = k ∧ Hid (bfs (rowN A) (keyS A) 0 k = (l, outs)) ∧ Hid (MnSt W m x w2 wr u (.slice none 0 0) ua vn A.T (keysL A l) (l.map Int.ofNat) [] ((l.take k).map (ac A)) (outs.map fun r => r.map Int.ofNat))) (fun _ i _ => A.acc.length - (intOf i).toNat)
  case atStart => exact ⟨0, [0], [], _, _, rfl, Nat.zero_le _, hn1, rfl, rfl, HST.out⟩
  case round =>
    obtain ⟨k, l, outs, ua, vn', rfl, hk, hln, hol, hbf, hst⟩ := hrel
    obtain ⟨la, lc, rfl⟩ : ∃ la lc, u7 = .slice la l.length lc := by simpa using hst.out.lown.shape
    have hlN : ∀ s ∈ l, s < A.acc.length := fun s hs => by
      have := minK_lt HOK.out k s
      rw [← bfs_key, hbf.out] at this
      exact this hs
    have hlb : ∀ y ∈ l.map Int.ofNat, InI64 y := nat_ints fun y hy => by have := hlN y hy; omega
    by_cases hlt : k < l.length
    · obtain ⟨s, hs⟩ : ∃ s, l[k]? = some s := ⟨_, List.getElem?_eq_getElem hlt⟩
      have hsn := hlN s (List.mem_of_getElem? hs)
      have hsl : s < A.next.length := by rw [HNL.out]; exact hsn
      obtain ⟨_, _, e1, _, hc2, hcell⟩ := (hst.out.lown.ints hlb).open
      simp only [Value.slice.injEq, List.length_map] at e1
      obtain ⟨rfl, _, rfl⟩ := e1
      have hkm : k < (l.map Int.ofNat).length := by simpa using hlt
      obtain ⟨lb, loff, rfl, _, hcl⟩ := hcell k hkm
      have hck := hcl k hkm
      have hlk : (l.map Int.ofNat)[k] = (s : Int) := by
        simp only [List.getElem_map]
        rw [(List.getElem?_eq_some_iff.1 hs).2]
        rfl
      rw [hlk] at hck
      obtain ⟨_, _, e2, _, hv2, hncl⟩ := HRW.out.open
      simp only [Value.slice.injEq, true_and] at e2
      obtain ⟨rfl, rfl⟩ := e2
      unfold maxLen at hv2
      obtain ⟨nb, noff, rfl, _, hnc⟩ := hncl s hsl
      obtain ⟨ru, hru, hri⟩ := hnc s hsl
      have hro := HOK.out.2 _ (List.getElem_mem hsl)
      have hnx : ∀ c, c < 2 ^ A.T.toNat → (A.next[s])[c]? = some (nx A s c : Int) := fun c hc => by
        have hcl : c < (A.next[s]).length := by rw [hro.1]; exact hc
        have hb := hro.2 _ (List.getElem_mem hcl)
        rw [List.getElem?_eq_getElem hcl]
        unfold nx
        simp only [List.getD_eq_getElem?_getD, List.getElem?_eq_getElem hsl, Option.getD_some, List.getElem?_eq_getElem hcl]
        rw [Int.toNat_of_nonneg hb.1]
      generalize A.next[s] = row at hri hro hnx
      obtain ⟨ra, rc, rfl, _, hr2, hrcl⟩ := hri.open
      unfold maxLen at hr2 hc2
      have hrl : row.length ≤ 64 := by rw [hro.1]; exact HP64.out
      have hru2 := Keeps.cell hst.out.keep hru trivial
      have HRC := hide hrcl
      have HRL := hide hro.1
      have HNX := hide hnx
      have HBF := hide hbf.out
      have HS := hide hst.out
      have HSK := hide hs
      have HOL := hide hol
      clear hst hbf hs hcell hcl hkm hlk hncl hnc hru hri hro hnx hrcl hlb hlN hol
      go_wp2_with fail
      clear hck hru2
      go_loopw [7, 10, 45] (fun u vr i wr => ∃ (j : Nat), i = .int .i64 j ∧ j ≤ row.length ∧ Hid (MnSt W m x w2 wr u vr ua vn' A.T (keysL A (rowRun (keyS A) l ((rowN A s).take j)).1) ((rowRun (keyS A) l ((rowN A s).take j)).1.map Int.ofNat) ((rowRun (keyS A) l ((rowN A s).take j)).2.map Int.ofNat) ((l.take k).map (ac A)) (outs.map fun r => r.map Int.ofNat))) (fun _ _ i _ => row.length - (intOf i).toNat)
      case atStart => exact ⟨0, rfl, Nat.zero_le _, HS.out⟩
      case round =>
        obtain ⟨j, rfl, hj, hst⟩ := hrel
        obtain ⟨l2, hl2⟩ : ∃ l2, l2 = (rowRun (keyS A) l ((rowN A s).take j)).1 := ⟨_, rfl⟩
        obtain ⟨r2, hr2'⟩ : ∃ r2, r2 = (rowRun (keyS A) l ((rowN A s).take j)).2 := ⟨_, rfl⟩
        rw [← hl2, ← hr2'] at hst
        have hpre : l <+: l2 := by rw [hl2]; exact rowRun_pre _ _ _
        have hbn := bfs_next HBF.out HOL.out HSK.out
        have hl2n : l2.length ≤ A.acc.length := by
          have h1 := minK_le HOK.out (k + 1)
          rw [← bfs_key, hbn] at h1
          have h2 := (rowRun_take (A := A) l (rowN A s) j).length_le
          rw [← hl2] at h2
          exact Nat.le_trans h2 h1
        have hr2n : r2.length ≤ 64 := by
          have hrn : ∀ (l ts : List Nat), (rowRun (keyS A) l ts).2.length = ts.length := fun l ts => by
            induction ts using snoc_ind with
            | h0 => rfl
            | h1 ts t ih => rw [rowRun_snoc]; unfold rowStep; simp [ih]
          rw [hr2', hrn, List.length_take]
          omega
        obtain ⟨la2, lc2, rfl⟩ : ∃ la2 lc2, u7 = .slice la2 l2.length lc2 := by simpa using hst.out.lown.shape
        obtain ⟨ra2, rc2, rfl⟩ : ∃ ra2 rc2, u10 = .slice ra2 r2.length rc2 := by simpa using hst.out.rown.shape
        have HS2 := hide hst.out
        have HL2 := hide hl2
        have HR2 := hide hr2'
        have HPRE := hide hpre
        have HBN := hide hbn
        by_cases hjr : j < row.length
        · have hjp : j < 2 ^ A.T.toNat := by rw [← HRL.out]; exact hjr
          have hyn := HNX.out j hjp
          have HTJ : Hid ((rowN A s).take (j + 1) = (rowN A s).take j ++ [nx A s j]) := hide (by
            have hjl : j < (rowN A s).length := by rw [rowN_length]; exact hjp
            rw [List.take_succ_eq_append_getElem hjl]
            have := rowN_get (A := A) (s := s) hjp
            rw [List.getElem?_eq_getElem hjl] at this
            rw [Option.some.inj this])
          have htn := nx_lt HOK.out s j
          obtain ⟨rb, roff, rfl, _, hrm⟩ := HRC.out j hjr
          have hrm := hrm j hjr
          rw [(List.getElem?_eq_some_iff.1 hyn).2] at hrm
          have hrbm : rb ≠ m := fun e => by
            have h2 := World.block_lt_of_cell? w2 _ hrm
            have h1 := HMW.out
            have h4 := HW.out
            simp only at h2; omega
          have hrm := Keeps.cell hst.out.keep hrm trivial
          generalize nx A s j = t at hyn HTJ htn hrm
          obtain ⟨_, _, e3, hct⟩ := HCC.out t htn
          simp only [Option.some.injEq, Addr.mk.injEq, and_true] at e3
          obtain ⟨rfl, rfl⟩ := e3
          have hcm := Keeps.cell (HK12.out.tr hst.out.keep) (hct t htn) trivial
          have hcbm : cb ≠ m := fun e => by
            have h1 := HMW.out
            have h2 := World.block_lt_of_cell? w1 _ (hct t htn)
            have h3 := HK12.out.size
            have h4 := HW.out
            simp only at h2; omega
          have hlook := hst.out.look ((keyS A t : Nat) : Int)
          have hM := mem_keysL (A := A) (l := l2) (t := t)
          have hX := idx_keysL (A := A) (l := l2) (t := t)
          clear hst hyn hct hpre hbn
          by_cases hin : keyS A t ∈ l2.map (keyS A)
          · rw [if_pos (hM.2 hin), decide_eq_true (hM.2 hin), hX] at hlook
            obtain ⟨g, cap, w7, hr7, hst7⟩ := HS2.out.pushR (((l2.map (keyS A)).idxOf (keyS A t) : Nat) : Int) (by simp; omega)
            rw [List.length_map] at hr7 hst7
            have hrr := rowRun_yes (A := A) (l := l) (ts := (rowN A s).take j) (t := t) (by rw [← hl2]; exact hin)
            rw [← hl2, ← hr2', ← HTJ.out] at hrr
            have HF : Hid (MnSt W m x w2 w7 (.slice la2 l2.length lc2) (.slice (some ⟨g, 0, none⟩) (r2.length + 1) cap) ua vn' A.T (keysL A (rowRun (keyS A) l ((rowN A s).take (j + 1))).1) ((rowRun (keyS A) l ((rowN A s).take (j + 1))).1.map Int.ofNat) ((rowRun (keyS A) l ((rowN A s).take (j + 1))).2.map Int.ofNat) ((l.take k).map (ac A)) (outs.map fun r => r.map Int.ofNat)) := hide (by
              rw [hrr]
              simpa using hst7)
            clear hst7 hrr hin hM hX hl2 hr2'
            go_wp2_with (at_builtin; refine wpList_append_run rfl _ _ _ rfl rfl rfl hr7 ?_; clear hr7)
            go_roundw
            case rel => exact ⟨j + 1, by go_num, by omega, HF.out⟩
            case measure => simp [intOf]; omega
          · have hni : ((keyS A t : Nat) : Int) ∉ keysL A l2 := fun h => hin (hM.1 h)
            rw [if_neg hni, decide_eq_false hni] at hlook
            obtain ⟨w5, hr5, hst5, k5⟩ := HS2.out.put hni (z := (l2.length : Int)) (by rw [keysL_len])
            have hcm5 := Keeps.cell k5 hcm hcbm
            have hrm5 := Keeps.cell k5 hrm hrbm
            obtain ⟨g6, cap6, w6', hr6, hst6⟩ := hst5.pushL (t : Int) (by simp; omega)
            rw [List.length_map] at hr6 hst6
            obtain ⟨g, cap, w7, hr7, hst7⟩ := hst6.pushR (l2.length : Int) (by simp; omega)
            rw [List.length_map] at hr7 hst7
            have hrr := rowRun_no (A := A) (l := l) (ts := (rowN A s).take j) (t := t) (by rw [← hl2]; exact hin)
            rw [← hl2, ← hr2', ← HTJ.out] at hrr
            have HF : Hid (MnSt W m x w2 w7 (.slice (some ⟨g6, 0, none⟩) (l2.length + 1) cap6) (.slice (some ⟨g, 0, none⟩) (r2.length + 1) cap) ua vn' A.T (keysL A (rowRun (keyS A) l ((rowN A s).take (j + 1))).1) ((rowRun (keyS A) l ((rowN A s).take (j + 1))).1.map Int.ofNat) ((rowRun (keyS A) l ((rowN A s).take (j + 1))).2.map Int.ofNat) ((l.take k).map (ac A)) (outs.map fun r => r.map Int.ofNat)) := hide (by
              rw [hrr]
              simpa [keysL_snoc] using hst7)
            clear hst5 hst6 hst7 hrr hin hni hM hX hl2 hr2' k5
            go_wp2_with (at_builtin; first | (refine wpList_append_run rfl _ _ _ rfl rfl rfl hr6 ?_; clear hr6) | (refine wpList_append_run rfl _ _ _ rfl rfl rfl hr7 ?_; clear hr7))
            go_roundw
            case rel => exact ⟨j + 1, by go_num, by omega, HF.out⟩
            case measure => simp [intOf]; omega
        · obtain rfl : j = row.length := by omega
          have htake : (rowN A s).take row.length = rowN A s := List.take_of_length_le (by rw [rowN_length, HRL.out]; exact Nat.le_refl _)
          rw [htake] at hl2 hr2'
          have hbn2 : bfs (rowN A) (keyS A) 0 (k + 1) = (l2, outs ++ [r2]) := by rw [hl2, hr2']; exact hbn
          obtain ⟨g, cap, w5, hr5, hb5, hst5⟩ := HS2.out.outNext (by rw [List.length_map, HOL.out]; omega)
          have hol2 : (outs.map fun r => r.map Int.ofNat).length = k := by rw [List.length_map, HOL.out]
          rw [hol2] at hr5 hst5
          obtain ⟨va5, rfl⟩ : ∃ vna, vn' = vna := ⟨_, rfl⟩
          have y0 := cell_at HS2.out.blk 0
          have y2 := cell_at HS2.out.blk 2
          have z2 := cell_at hb5 2
          have z3 := free_at hb5 2
          simp only [List.getElem?_toArray, List.getElem?_cons_zero, List.getElem?_cons_succ] at y0 y2 z2
          have HS5 := hide hst5
          have HBN2 := hide hbn2
          clear hst hst5 hpre hbn hbn2 htake hl2 hr2' hb5 hol2
          go_wp2_with (at_builtin; refine wpList_append_run rfl _ _ _ rfl rfl rfl hr5 ?_; clear hr5)
          have hl2b : ∀ y ∈ l2.map Int.ofNat, InI64 y := nat_ints fun y hy => by
            have h1 := minK_lt HOK.out (k + 1) y
            rw [← bfs_key, HBN2.out] at h1
            have := h1 hy; omega
          have hs2 : l2[k]? = some s := by
            obtain ⟨u, hu⟩ := HPRE.out
            rw [← hu, List.getElem?_append_left hlt]; exact HSK.out
          have hkl2 : k < l2.length := (List.getElem?_eq_some_iff.1 hs2).1
          generalize w5.setCell ⟨x, 2, none⟩ (.slice (some ⟨g, 0, none⟩) (k + 1) cap) = wz at HS5 ⊢
          obtain ⟨_, _, e4, _, hd2, hdcell⟩ := (HS5.out.lown.ints hl2b).open
          simp only [Value.slice.injEq, List.length_map] at e4
          obtain ⟨rfl, _, rfl⟩ := e4
          have hkm2 : k < (l2.map Int.ofNat).length := by simpa using hkl2
          obtain ⟨lb2, loff2, rfl, _, hdl⟩ := hdcell k hkm2
          have hdk := hdl k hkm2
          have hdk2 : (l2.map Int.ofNat)[k] = (s : Int) := by
            simp only [List.getElem_map]
            rw [(List.getElem?_eq_some_iff.1 hs2).2]
            rfl
          rw [hdk2] at hdk
          unfold maxLen at hd2
          have hlive : (Value.slice (some ⟨lb2, loff2, none⟩) l2.length lc2).ownBlock = some lb2 := live_own (by
            obtain ⟨q, hq⟩ : ∃ q, l2.length = q + 1 := ⟨l2.length - 1, by omega⟩
            rw [hq]; rfl)
          have kd : Same wz wz.drew := Keeps.drew (Keeps.refl (fun _ => True) wz)
          have hstd := HS5.out.same kd
          have hS0 : wz.drew.heap[x]? = some (.cells #[.int .i64 A.T, ua, .slice (some ⟨g, 0, none⟩) (k + 1) cap] 33 (0, 0)) ∧ wz.drew.cell? ⟨lb2, loff2 + k, none⟩ = some (.int .i64 (s : Int)) := ⟨hstd.blk, Keeps.cell kd hdk trivial⟩
          have hacl : ((l.take k).map (ac A)).length = k := by rw [List.length_map, List.length_take]; omega
          obtain ⟨ga, capa, w8, hr8, hb8, k8, hst8⟩ := hstd.outAcc (ac A s) (by omega)
          have hS8 : w8.heap[x]? = some (.cells #[.int .i64 A.T, ua, .slice (some ⟨g, 0, none⟩) (k + 1) cap] 33 (0, 0)) ∧ w8.cell? ⟨lb2, loff2 + k, none⟩ = some (.int .i64 (s : Int)) := ⟨hb8, Keeps.cell k8 hS0.2 fun e => own_ne hstd.accs hstd.lown (by decide) lb2 e hlive⟩
          obtain ⟨uaa, uac, rfl⟩ := ownsRow_shape hstd.accs
          have HDW := hide (H.out.same ((HK2.out.tr HS5.out.keep).tr kd))
          have HACS := hide (accA_ac1 hsn)
          have HF8 : Hid (MnSt W m x w2 (w8.setCell ⟨x, 1, none⟩ (.slice (some ⟨ga, 0, none⟩) (((l.take k).map (ac A)).length + 1) capa)) (.slice (some ⟨lb2, loff2, none⟩) l2.length lc2) (.slice none 0 0) (.slice (some ⟨ga, 0, none⟩) (((l.take k).map (ac A)).length + 1) capa) (.slice (some ⟨g, 0, none⟩) (k + 1) cap) A.T (keysL A l2) (l2.map Int.ofNat) [] ((l2.take (k + 1)).map (ac A)) ((outs ++ [r2]).map fun r => r.map Int.ofNat)) := hide (by
            have e5 : (l2.take (k + 1)).map (ac A) = (l.take k).map (ac A) ++ [ac A s] := by
              obtain ⟨u, hu⟩ := HPRE.out
              rw [List.take_succ_eq_append_getElem hkl2, List.map_append, (List.getElem?_eq_some_iff.1 hs2).2, ← hu, List.take_append_of_le_length (Nat.le_of_lt hlt)]
              rfl
            rw [e5, List.map_append, List.map_singleton]
            exact hst8)
          rw [hacl] at HF8 hr8 hS0 hS8
          clear hst8 hdcell hdl hkm2 hdk2 hs2 hl2b hstd hlive k8 y0 y2 z2 z3
          refine wp_region_planz 11 (.take 0 (.take 1 (.take 2 (.take 3 (.take 4 (.take 5 (.take 6 (.one 7 (.one 8 (.one 9 (.take 10 .last))))))))))) (fun w' => w'.heap[x]? = some (.cells #[.int .i64 A.T, .slice uaa k uac, .slice (some ⟨g, 0, none⟩) (k + 1) cap] 33 (0, 0)) ∧ w'.cell? ⟨lb2, loff2 + k, none⟩ = some (.int .i64 (s : Int))) (by kernel_rfl) (by kernel_rfl) hS0 ?_
          iterate 7
            (first
               | (apply pz_pass
                  case ho => rfl
                  case hw => rfl
                  go_simp)
               | (apply pz_take
                  case ho => rfl
                  case hw => rfl
                  case hv =>
                    intro w' hS
                    (have q1 := cell_at hS.1 1; have q2 := hS.2; simp only [List.getElem?_toArray, List.getElem?_cons_zero, List.getElem?_cons_succ] at q1)
                    go_simp
                    exact rfl
                  go_simp))
          refine pz_one (up_do rfl rfl fun K hK1 => ?_)
          go_simp
          refine dfaAccepts HDW.out _ ?_; rintro e rfl
          rw [HACS.out]
          refine hK1 _ _ _ hS0 (fun _ h => h) ?_
          clear hK1 K
          refine pz_one (up_do rfl rfl fun K hK1 => ?_)
          go_simp
          refine hK1 _ _ _ ⟨heap_old hS0.1 _, cell_alloc hS0.2 _⟩ (fun _ h => h) ?_
          clear hK1 K
          refine pz_one (up_append _ _ _ rfl rfl rfl ?hs ?hx hr8 _ hS8 (fun _ h => h) ?_)
          case hs => rfl
          case hx => rfl
          clear hr8
          go_simp
          iterate 1
            (first
               | (apply pz_pass
                  case ho => rfl
                  case hw => rfl
                  go_simp)
               | (apply pz_take
                  case ho => rfl
                  case hw => rfl
                  case hv =>
                    intro w' hS
                    (skip)
                    go_simp
                    exact rfl
                  go_simp))
          have z1 := cell_at hb8 1
          have z2 := free_at hb8 1
          simp only [List.getElem?_toArray, List.getElem?_cons_zero, List.getElem?_cons_succ] at z1
          clear hS0 hS8 kd
          refine pz_last rfl rfl fun K hK => ?_
          go_simp
          refine hK _ _ (np_normal ?_)
          clear hK K z1 z2 hb8
          go_wp2_with fail
          have hl2n2 : l2.length ≤ A.acc.length := hl2n
          go_roundw
          case rel => exact ⟨k + 1, l2, outs ++ [r2], _, _, by go_num, by omega, hl2n2, by simp [HOL.out], HBN2.out, HF8.out⟩
          case measure => simp [intOf]; omega
    · obtain rfl : k = l.length := by omega
      have hmin : minL A = (l, outs) := by
        rw [← minL_at HOK.out (k := l.length) (by rw [← bfs_key, hbf.out]; exact hol), ← bfs_key]
        exact hbf.out
      have hau : minAu A = ⟨A.T, l.map (ac A), outs.map fun r => r.map Int.ofNat⟩ := by unfold minAu; rw [hmin]
      have hmok := min_ok HOK.out
      have hauto : AutoAt wr (.agg #[.int .i64 A.T, ua, vn']) (minAu A) := by
        have h1 := hst.out
        rw [List.take_length] at h1
        have h2 : MnSt W m x w2 wr (.slice la l.length lc) (.slice none 0 0) ua vn' (minAu A).T (keysL A l) (l.map Int.ofNat) [] (minAu A).acc (minAu A).next := by rw [hau]; exact h1
        have h3 := h2.auto hmok
        rw [show (minAu A).T = A.T by rw [hau]] at h3
        exact h3
      have HAU := hide hauto
      have HMOK := hide hmok
      have y0 := cell_at hst.out.blk 0
      have y1 := cell_at hst.out.blk 1
      have y2 := cell_at hst.out.blk 2
      simp only [List.getElem?_toArray, List.getElem?_cons_zero, List.getElem?_cons_succ] at y0 y1 y2
      have HKF := hide (HK2.out.tr hst.out.keep)
      clear hst hbf hmin hau hmok hauto hlN hlb
      go_wp2_with fail
      refine autoFrom HAU.out HMOK.out ?_; rintro e w9 d9 rfl dd9 k9
      have HD9 := hide (dd9.below HKF.out.size)
      have HK9 := hide (HKF.out.tr k9)
      clear dd9 k9 y0 y1 y2
      go_wp2_with fail
      exact HR.out _ _ d9 rfl HD9.out HK9.out

end Go.Proofs.Ytgpgbkoaopfjkaa
