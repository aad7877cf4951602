/- The walk of sibylref24.Min. -/
import Derived.Test.YtgpgbkoaopfjkaaMinRef4
namespace Go.Proofs.Ytgpgbkoaopfjkaa
open Go.RowKit

attribute [local irreducible] wpQuiet wpPlan wpPlanZ wpUp

variable {R : Ending → World → Prop} {w : World} {A : Au} {B d : Nat}

theorem keyS_lt {s : Nat} (h : s < A.acc.length) : keyS A s < A.acc.length := by
  have hl : s < (stab A).length := by rw [stab_len]; exact h
  have : keyS A s = (stab A)[s] := by unfold keyS; rw [List.getD_eq_getElem?_getD, List.getElem?_eq_getElem hl]; rfl
  rw [this]
  exact clsK_lt A _ _ (List.getElem_mem hl)

set_option maxRecDepth 10000 in
set_option maxHeartbeats 8000000 in
theorem refMinO {v : Value} (hA : AutoAt w v A) (hok : AuOk A) (hR : ∀ e w' u, e = .returned u → OwnAuto w' (w.heap.size + 2) u (minAu A) → Same w w' → R e w') :
    Calls Try.prog 27 #[v] w R := by
  have HR := hide hR
  clear hR
  have HOK := hide hok
  have HA := hide hA
  obtain ⟨va, vn, rfl, hacc, hnext, hT⟩ := hA
  obtain ⟨aa, ac', rfl, _, ha2, hacell⟩ := hacc.open
  have HRW := hide hnext
  obtain ⟨na, nc, rfl, _⟩ := hnext.open
  have hn1 : 0 < A.acc.length := hok.1.2.2.1
  have hn4 : A.acc.length ≤ 400 := hok.1.2.2.2.1
  have HNL := hide hok.1.2.2.2.2
  have HP64 := hide (two_le (show A.T.toNat ≤ 6 by have := hok.1.1; have := hok.1.2.1; omega))
  have HSL := hide (stab_len A)
  obtain ⟨ab, aoff, rfl, _, hacell⟩ := hacell 0 hn1
  have HAC : Hid (∀ s, s < A.acc.length → w.cell? ⟨ab, aoff + s, none⟩ = some (.bool (ac A s))) := hide fun s hs => by
    rw [hacell s hs]; unfold ac; rw [List.getD_eq_getElem?_getD, List.getElem?_eq_getElem hs]; rfl
  have g1 := heap_new w (.cells #[.int .i64 A.T, .slice (some ⟨ab, aoff, none⟩) A.acc.length ac', .slice na A.next.length nc] 33)
  have e1 : (w.alloc (.cells #[.int .i64 A.T, .slice (some ⟨ab, aoff, none⟩) A.acc.length ac', .slice na A.next.length nc] 33)).heap.size = w.heap.size + 1 := by simp
  have k1 : Same w (w.alloc (.cells #[.int .i64 A.T, .slice (some ⟨ab, aoff, none⟩) A.acc.length ac', .slice na A.next.length nc] 33)) := (Keeps.refl _ w).alloc _
  have g2 := heap_new (w.alloc (.cells #[.int .i64 A.T, .slice (some ⟨ab, aoff, none⟩) A.acc.length ac', .slice na A.next.length nc] 33)) (.cells #[.int .i64 0, .slice none 0 0, .slice none 0 0] 33)
  rw [e1] at g2
  have g3 := heap_old g1 (.cells #[.int .i64 0, .slice none 0 0, .slice none 0 0] 33)
  have k2 := k1.alloc (.cells #[.int .i64 0, .slice none 0 0, .slice none 0 0] 33)
  have c0 := cell_at g3 0
  have c1 := cell_at g3 1
  have c2 := cell_at g3 2
  simp only [List.getElem?_toArray, List.getElem?_cons_zero, List.getElem?_cons_succ] at c0 c1 c2
  have e2 : ((w.alloc (.cells #[.int .i64 A.T, .slice (some ⟨ab, aoff, none⟩) A.acc.length ac', .slice na A.next.length nc] 33)).alloc (.cells #[.int .i64 0, .slice none 0 0, .slice none 0 0] 33)).heap.size = w.heap.size + 1 + 1 := by simp
  unfold maxLen at ha2
  obtain ⟨i0, hi0, hz0, hz1, hz2⟩ := info_parts int_info
  have HMK : Hid (∀ wq : World, (Instr.makeSlice 42 (.int .i64 (A.acc.length : Int)) (.int .i64 (A.acc.length : Int))).run Try.prog wq = .ok (.slice (some ⟨wq.heap.size, 0, none⟩) A.acc.length A.acc.length) (wq.alloc (.cells ((List.replicate A.acc.length (0 : Int)).map (Value.int .i64)).toArray 3))) := hide fun wq => by
    have hmk := run_make (P := Try.prog) wq 42 3 i0 _ Try.underlying42 hi0 hz0 .i64 .i64 A.acc.length A.acc.length (by omega) (by omega) (by rw [hz2]; omega) (by omega)
    rw [hz1, Int.toNat_natCast, make_ints] at hmk
    exact hmk
  have HSI : Hid (∀ y ∈ (stab A).map Int.ofNat, InI64 y) := hide (nat_ints fun y hy => by have := clsK_lt A _ y hy; omega)
  clear hok hacc hnext hT hacell hi0 hz0 hz1 hz2 g1 k1 e1 g3
  go_enter Try.func27, Try.ntmps27
  go_wp2_with fail
  generalize (w.alloc (.cells #[.int .i64 A.T, .slice (some ⟨ab, aoff, none⟩) A.acc.length ac', .slice na A.next.length nc] 33)).alloc (.cells #[.int .i64 0, .slice none 0 0, .slice none 0 0] 33) = w2 at g2 k2 c0 c1 c2 e2 ⊢
  have HK2 := hide k2
  have HG2 := hide g2
  have C0 := hide c0
  have C1 := hide c1
  have C2 := hide c2
  have HE2 := hide e2
  clear g2 k2 e2
  refine refClasses (HA.out.same HK2.out) HOK.out ?_; rintro e w1 uc rfl hi1 kc
  obtain ⟨ca, cc, rfl, hcc1, hcc2, hccell⟩ := hi1.open
  rw [List.length_map, HSL.out] at hcc1 ⊢
  unfold maxLen at hcc2
  have HCC : Hid (∀ s, s < A.acc.length → ∃ b off, ca = some ⟨b, off, none⟩ ∧ ∀ t, t < A.acc.length → w1.cell? ⟨b, off + t, none⟩ = some (.int .i64 (keyS A t : Int))) := hide fun s hs => by
    obtain ⟨b, off, e, _, hcl⟩ := hccell s (by rw [List.length_map, HSL.out]; exact hs)
    refine ⟨b, off, e, fun t ht => ?_⟩
    have ht2 : t < ((stab A).map Int.ofNat).length := by rw [List.length_map, HSL.out]; exact ht
    have h2 := hcl t ht2
    rw [List.getElem_map] at h2
    rw [h2]
    unfold keyS
    rw [List.getD_eq_getElem?_getD, List.getElem?_eq_getElem (show t < (stab A).length by rw [HSL.out]; exact ht)]
    rfl
  have HKC := hide kc
  have c0 := Keeps.cell kc c0 trivial
  have c1 := Keeps.cell kc c1 trivial
  have c2 := Keeps.cell kc c2 trivial
  have C0 := hide c0
  have C1 := hide c1
  have C2 := hide c2
  obtain ⟨cb, coff, rfl, hcb⟩ := HCC.out 0 hn1
  clear hi1 hccell kc
  have d1 : (w1.alloc (.cells #[.int .i64 A.T, .slice none 0 0, .slice none 0 0] 33)).cell? ⟨w.heap.size, 1, none⟩ = some (.slice (some ⟨ab, aoff, none⟩) A.acc.length ac') := cell_alloc c1 _
  have hmk := HMK.out (w1.alloc (.cells #[.int .i64 A.T, .slice none 0 0, .slice none 0 0] 33))
  go_wp2_with fail
  have hxk : Same w1 (w1.alloc (.cells #[.int .i64 A.T, .slice none 0 0, .slice none 0 0] 33)) := (Keeps.refl _ w1).alloc _
  have hxb := heap_new w1 (.cells #[.int .i64 A.T, .slice none 0 0, .slice none 0 0] 33)
  have hxs : (w1.alloc (.cells #[.int .i64 A.T, .slice none 0 0, .slice none 0 0] 33)).heap.size = w1.heap.size + 1 := by simp
  clear hmk d1 c0 c1 c2
  generalize w1.alloc (.cells #[.int .i64 A.T, .slice none 0 0, .slice none 0 0] 33) = w3 at hxk hxb hxs ⊢
  have hrow : RowIn (w3.alloc (.cells (Array.replicate A.acc.length (Value.int .i64 0)) 3)) (w1.heap.size + 1) (negL A.acc.length 0) := by
    unfold RowIn
    rw [← hxs, heap_new, negL_zero]
    simp
  have ka : Same w1 (w3.alloc (.cells (Array.replicate A.acc.length (Value.int .i64 0)) 3)) := hxk.alloc _
  have hxb4 := heap_old hxb (.cells (Array.replicate A.acc.length (Value.int .i64 0)) 3)
  have hw4 : (w3.alloc (.cells (Array.replicate A.acc.length (Value.int .i64 0)) 3)).heap.size = w1.heap.size + 1 + 1 := by simp [hxs]
  generalize w3.alloc (.cells (Array.replicate A.acc.length (Value.int .i64 0)) 3) = w4 at hrow ka hxb4 hw4 ⊢
  clear hxk hxb hxs
  clear w3
  obtain ⟨m, hm⟩ : ∃ m, m = w1.heap.size + 1 := ⟨_, rfl⟩
  rw [← hm] at hrow hw4 ⊢
  obtain ⟨x, hx⟩ : ∃ x, x = w1.heap.size := ⟨_, rfl⟩
  rw [← hx] at hxb4 hm ⊢
  have HM := hide hm
  have HX := hide hx
  have HROW := hide hrow
  have HKA := hide ka
  have HW4 := hide hw4
  have HXB := hide hxb4
  clear hrow ka hxb4 hw4 hm hx
  go_loopw [6] (fun i wr => ∃ k : Nat, i = .int .i64 k ∧ k ≤ A.acc.length ∧ Hid (RowIn wr m (negL A.acc.length k)) ∧ Same w1 wr ∧ Hid (wr.heap.size = m + 1) ∧ Hid (wr.heap[x]? = some (.cells #[.int .i64 A.T, .slice none 0 0, .slice none 0 0] 33 (0, 0)))) (fun i _ => A.acc.length - (intOf i).toNat)
  case atStart => exact ⟨0, rfl, Nat.zero_le _, HROW.out, HKA.out, HW4.out, HXB.out⟩
  case round =>
    obtain ⟨k, rfl, hk, hrow, hK, hsz, hxb⟩ := hrel
    by_cases hlt : k < A.acc.length
    · have hc1 : wr.cell? ⟨m, k, none⟩ = some (.int .i64 ((negL A.acc.length k)[k]'(by rw [negL_length]; exact hlt))) := by
        rw [cell_at hrow.out]
        simp [negL_length, hlt]
      have hc2 := free_at hrow.out k
      generalize (negL A.acc.length k)[k]'(by rw [negL_length]; exact hlt) = y0 at hc1
      have HSET : Hid (RowIn (wr.setCell ⟨m, k, none⟩ (.int .i64 (-1))) m (negL A.acc.length (k + 1))) := hide (by
        have := hrow.out.set k (-1)
        rw [negL_set] at this
        exact this)
      have k5 : Keeps (· ≠ m) wr (wr.setCell ⟨m, k, none⟩ (.int .i64 (-1))) := (Keeps.refl (· ≠ m) wr).setCell (fun hh => hh.2 rfl) _
      have HKW : Hid (Same w1 (wr.setCell ⟨m, k, none⟩ (.int .i64 (-1)))) := hide (hK.setCell (fun hh => by have h1 : m < w1.heap.size := hh.1; have h2 := HM.out; have h3 := HX.out; omega) _)
      have HXB5 := hide (k5.at hxb.out (by have := HM.out; omega))
      have HS5 : Hid ((wr.setCell ⟨m, k, none⟩ (.int .i64 (-1))).heap.size = m + 1) := hide (by simpa using hsz.out)
      clear hrow hK hsz hxb k5
      go_wp2_with fail
      go_roundw
      case rel => exact ⟨k + 1, by go_num, by omega, HSET.out, HKW.out, HS5.out, HXB5.out⟩
      case measure => simp [intOf]; omega
    · obtain rfl : k = A.acc.length := by omega
      rw [negL_all] at hrow
      have HSZ := hide hsz.out
      have hsz := hsz.out
      have hst0 : MrSt (m + 1) A.acc.length m x w1 (wr.alloc (.cells #[.int .i64 0] 3)) (.slice (some ⟨wr.heap.size, 0, none⟩) 1 1) (.slice none 0 0) (.slice none 0 0) (.slice none 0 0) A.T [] [0] [] [] [] := by
        have ks : Same wr (wr.alloc (.cells #[.int .i64 0] 3)) := (Keeps.refl _ wr).alloc _
        exact ⟨hrow.out.keep1 ks, RowIn.own (l := [0]) (heap_new wr (.cells #[.int .i64 0] 3)) (by omega) rfl (by decide), World.ownsRow_nil _ _ _ _, fun b hb => by simp [Value.ownBlock] at hb, ks.at hxb.out trivial, World.ownsRow_nil _ _ _ _, ⟨[], World.ownsRow_nil _ _ _ _, rfl, fun i u q hu => by simp at hu⟩, hK.tr ks, by have h2 := HM.out; have h3 := HX.out; simp; omega⟩
      obtain ⟨hst, k6⟩ := hst0.put (c := keyS A 0) (by simp) (z := 0) rfl
      have hcm := Keeps.cell hst0.keep (hcb 0 hn1) trivial
      rw [Nat.add_zero] at hcm
      have hk0 := keyS_lt (A := A) hn1
      have hn0 : (wr.alloc (.cells #[.int .i64 0] 3)).cell? ⟨m, keyS A 0, none⟩ = some (.int .i64 (-1)) := by
        rw [cell_at hst0.num]
        simp [numsI, hk0]
      have hn0f := free_at hst0.num (keyS A 0)
      have HST := hide hst
      have HCB := hide hcb
      clear hst hst0 hrow hK hxb k6 hsz hcb
      go_wp2_with fail
      clear hcm hn0 hn0f
      have HST : Hid (MrSt (m + 1) A.acc.length m x w1 ((wr.alloc (.cells #[.int .i64 0] 3)).setCell ⟨m, keyS A 0, none⟩ (.int .i64 0)) (.slice (some ⟨wr.heap.size, 0, none⟩) 1 1) (.slice none 0 0) (.slice none 0 0) (.slice none 0 0) A.T (([0] : List Nat).map (keyS A)) (([0] : List Nat).map Int.ofNat) [] [] []) := HST
      generalize (wr.alloc (.cells #[.int .i64 0] 3)).setCell ⟨m, keyS A 0, none⟩ (.int .i64 0) = w6 at HST ⊢
      generalize wr.heap.size = g0 at HST ⊢
      go_loopw [7, 8] (fun u i wr => ∃ (k : Nat) (l : List Nat) (outs : List (List Nat)) (ua vn : Value), i = .int .i64 k ∧ k ≤ l.length ∧ l.length ≤ A.acc.length ∧ outs.length = k ∧ Hid (bfs (rowN A) (keyS A) 0 k = (l, outs)) ∧ Hid (MrSt (m + 1) A.acc.length m x w1 wr u (.slice none 0 0) ua vn A.T (l.map (keyS A)) (l.map Int.ofNat) [] ((l.take k).map (ac A)) (outs.map fun r => r.map Int.ofNat))) (fun _ i _ => A.acc.length - (intOf i).toNat)
      case atStart => exact ⟨0, [0], [], _, _, rfl, Nat.zero_le _, hn1, rfl, rfl, HST.out⟩
      case round =>
        obtain ⟨k, l, outs, ua, vn', rfl, hk, hln, hol, hbf, hst⟩ := hrel
        obtain ⟨la, lc, rfl⟩ : ∃ la lc, u7 = .slice la l.length lc := by simpa using hst.out.lown.shape
        have hlN : ∀ s ∈ l, s < A.acc.length := fun s hs => by
          have := minK_lt HOK.out k s
          rw [← bfs_key, hbf.out] at this
          exact this hs
        by_cases hlt : k < l.length
        · obtain ⟨s, hs⟩ : ∃ s, l[k]? = some s := ⟨_, List.getElem?_eq_getElem hlt⟩
          have hsn := hlN s (List.mem_of_getElem? hs)
          have hsl : s < A.next.length := by rw [HNL.out]; exact hsn
          obtain ⟨_, _, e2, _, hv2, hncl⟩ := HRW.out.open
          simp only [Value.slice.injEq, true_and] at e2
          obtain ⟨rfl, rfl⟩ := e2
          unfold maxLen at hv2
          obtain ⟨nb, noff, rfl, _, hnc⟩ := hncl s hsl
          obtain ⟨ru, hru, hri⟩ := hnc s hsl
          have hro := HOK.out.2 _ (List.getElem_mem hsl)
          have hnx : ∀ c, c < 2 ^ A.T.toNat → (A.next[s])[c]? = some (nx A s c : Int) := fun c hc => by
            have hcl : c < (A.next[s]).length := by rw [hro.1]; exact hc
            have hb := hro.2 _ (List.getElem_mem hcl)
            rw [List.getElem?_eq_getElem hcl]
            unfold nx
            simp only [List.getD_eq_getElem?_getD, List.getElem?_eq_getElem hsl, Option.getD_some, List.getElem?_eq_getElem hcl]
            rw [Int.toNat_of_nonneg hb.1]
          generalize A.next[s] = row at hri hro hnx
          obtain ⟨ra, rc, rfl, _, hr2, hrcl⟩ := hri.open
          unfold maxLen at hr2
          have hrl : row.length ≤ 64 := by rw [hro.1]; exact HP64.out
          have HRU : Hid (w1.cell? ⟨nb, noff + s, none⟩ = some (.slice ra row.length rc)) := hide (Keeps.cell (HK2.out.tr HKC.out) hru trivial)
          have HRC := hide hrcl
          have HRL := hide hro.1
          have HNX := hide hnx
          have HBF := hide hbf.out
          have HS := hide hst.out
          have HSK := hide hs
          have HOL := hide hol
          clear hst hbf hs hncl hnc hru hri hro hnx hrcl hlN hol
          go_wp2_with fail
          go_loopw [7, 9, 10] (fun u vr i wr => ∃ (j : Nat), i = .int .i64 j ∧ j ≤ row.length ∧ Hid (MrSt (m + 1) A.acc.length m x w1 wr u vr ua vn' A.T ((rowRun (keyS A) l ((rowN A s).take j)).1.map (keyS A)) ((rowRun (keyS A) l ((rowN A s).take j)).1.map Int.ofNat) ((rowRun (keyS A) l ((rowN A s).take j)).2.map Int.ofNat) ((l.take k).map (ac A)) (outs.map fun r => r.map Int.ofNat))) (fun _ _ i _ => row.length - (intOf i).toNat)
          case atStart => exact ⟨0, rfl, Nat.zero_le _, HS.out⟩
          case round =>
            obtain ⟨j, rfl, hj, hst⟩ := hrel
            obtain ⟨l2, hl2⟩ : ∃ l2, l2 = (rowRun (keyS A) l ((rowN A s).take j)).1 := ⟨_, rfl⟩
            obtain ⟨r2, hr2'⟩ : ∃ r2, r2 = (rowRun (keyS A) l ((rowN A s).take j)).2 := ⟨_, rfl⟩
            rw [← hl2, ← hr2'] at hst
            have hpre : l <+: l2 := by rw [hl2]; exact rowRun_pre _ _ _
            have hbn := bfs_next HBF.out HOL.out HSK.out
            have hpf := rowRun_take (A := A) l (rowN A s) j
            rw [← hl2] at hpf
            have hl2n : l2.length ≤ A.acc.length := by
              have h1 := minK_le HOK.out (k + 1)
              rw [← bfs_key, hbn] at h1
              exact Nat.le_trans hpf.length_le h1
            have hl2b : ∀ y ∈ l2.map Int.ofNat, InI64 y := nat_ints fun y hy => by
              have h1 := minK_lt HOK.out (k + 1) y
              rw [← bfs_key, hbn] at h1
              have := h1 (hpf.subset hy); omega
            have hr2n : r2.length ≤ 64 := by
              have hrn : ∀ (l ts : List Nat), (rowRun (keyS A) l ts).2.length = ts.length := fun l ts => by
                induction ts using snoc_ind with
                | h0 => rfl
                | h1 ts t ih => rw [rowRun_snoc]; unfold rowStep; simp [ih]
              rw [hr2', hrn, List.length_take]
              omega
            have hs2 : l2[k]? = some s := by
              obtain ⟨u, hu⟩ := hpre
              rw [← hu, List.getElem?_append_left hlt]; exact HSK.out
            have hkl2 : k < l2.length := (List.getElem?_eq_some_iff.1 hs2).1
            obtain ⟨la2, lc2, rfl⟩ : ∃ la2 lc2, u7 = .slice la2 l2.length lc2 := by simpa using hst.out.lown.shape
            obtain ⟨ra2, rc2, rfl⟩ : ∃ ra2 rc2, u9 = .slice ra2 r2.length rc2 := by simpa using hst.out.rown.shape
            obtain ⟨_, _, e4, _, hd2, hdcell⟩ := (hst.out.lown.ints hl2b).open
            simp only [Value.slice.injEq, List.length_map] at e4
            obtain ⟨rfl, _, rfl⟩ := e4
            have hkm2 : k < (l2.map Int.ofNat).length := by simpa using hkl2
            obtain ⟨lb2, loff2, rfl, _, hdl⟩ := hdcell k hkm2
            have hdk := hdl k hkm2
            have hdk2 : (l2.map Int.ofNat)[k] = (s : Int) := by
              simp only [List.getElem_map]
              rw [(List.getElem?_eq_some_iff.1 hs2).2]
              rfl
            rw [hdk2] at hdk
            unfold maxLen at hd2
            have HS2 := hide hst.out
            have HL2 := hide hl2
            have HR2 := hide hr2'
            have HPRE := hide hpre
            have HBN := hide hbn
            have HS2K := hide hs2
            have q2 := Keeps.cell hst.out.keep C2.out trivial
            have qr := Keeps.cell hst.out.keep HRU.out trivial
            clear hdcell hdl hkm2 hdk2 hst hpre hbn hpf hl2b hs2 hl2 hr2'
            by_cases hjr : j < row.length
            · have hjp : j < 2 ^ A.T.toNat := by rw [← HRL.out]; exact hjr
              have hyn := HNX.out j hjp
              have HTJ : Hid ((rowN A s).take (j + 1) = (rowN A s).take j ++ [nx A s j]) := hide (by
                have hjl : j < (rowN A s).length := by rw [rowN_length]; exact hjp
                rw [List.take_succ_eq_append_getElem hjl]
                have := rowN_get (A := A) (s := s) hjp
                rw [List.getElem?_eq_getElem hjl] at this
                rw [Option.some.inj this])
              have htn := nx_lt HOK.out s j
              obtain ⟨rb, roff, rfl, _, hrm⟩ := HRC.out j hjr
              have hrm := hrm j hjr
              rw [(List.getElem?_eq_some_iff.1 hyn).2] at hrm
              have hrm := Keeps.cell ((HK2.out.tr HKC.out).tr HS2.out.keep) hrm trivial
              generalize nx A s j = t at hyn HTJ htn hrm
              have hkt := keyS_lt htn
              clear hyn hjp
              go_wp2_with fail
              refine wp_region_same (by kernel_rfl) (by kernel_rfl) ?_
              iterate 11
                (apply wpQuiet_step
                 intro K hK
                 first
                   | (apply quiet_skip
                      case hw => rfl
                      go_simp
                      refine hK _ ?_; clear hK K)
                   | (apply quiet_do
                      case hw => rfl
                      case h =>
                        intro w' hw'
                        (have z0 := Keeps.cell hw' q2 trivial; have z1 := Keeps.cell hw' hdk trivial; have z2 := Keeps.cell hw' qr trivial)
                        go_simp
                        first | exact rfl | (fail)
                      go_simp
                      refine hK _ ?_; clear hK K))
              apply wpQuiet_nil
              intro wa ka
              have q2 := Keeps.cell ka q2 trivial
              have hdk := Keeps.cell ka hdk trivial
              have qr := Keeps.cell ka qr trivial
              have hrm := Keeps.cell ka hrm trivial
              have HS3 := hide (HS2.out.same ka)
              clear ka HS2
              go_wp2_with fail
              refine wp_region_same (by kernel_rfl) (by kernel_rfl) ?_
              iterate 12
                (apply wpQuiet_step
                 intro K hK
                 first
                   | (apply quiet_skip
                      case hw => rfl
                      go_simp
                      refine hK _ ?_; clear hK K)
                   | (apply quiet_do
                      case hw => rfl
                      case h =>
                        intro w' hw'
                        (have z0 := Keeps.cell hw' q2 trivial; have z1 := Keeps.cell hw' hdk trivial; have z2 := Keeps.cell hw' qr trivial; have z3 := Keeps.cell hw' hrm trivial)
                        go_simp
                        first | exact rfl | (fail)
                      go_simp
                      refine hK _ ?_; clear hK K))
              apply wpQuiet_nil
              intro wb kb
              have HS4 := hide (HS3.out.same kb)
              have hcm := Keeps.cell HS4.out.keep (HCB.out t htn) trivial
              have hnm : wb.cell? ⟨m, keyS A t, none⟩ = some (.int .i64 (if keyS A t ∈ l2.map (keyS A) then (((l2.map (keyS A)).idxOf (keyS A t) : Nat) : Int) else -1)) := by
                rw [cell_at HS4.out.num, List.getElem?_toArray, List.getElem?_map, numsI_get hkt]
                rfl
              have hnf := free_at HS4.out.num (keyS A t)
              clear kb HS3 q2 hdk qr hrm
              by_cases hin : keyS A t ∈ l2.map (keyS A)
              · rw [if_pos hin] at hnm
                obtain ⟨g, cap, w7, hr7, hst7⟩ := HS4.out.pushR (((l2.map (keyS A)).idxOf (keyS A t) : Nat) : Int) (by simp; omega)
                rw [List.length_map] at hr7 hst7
                have hrr := rowRun_yes (A := A) (l := l) (ts := (rowN A s).take j) (t := t) (by rw [← HL2.out]; exact hin)
                rw [← HL2.out, ← HR2.out, ← HTJ.out] at hrr
                have HF : Hid (MrSt (m + 1) A.acc.length m x w1 w7 (.slice (some ⟨lb2, loff2, none⟩) l2.length lc2) (.slice (some ⟨g, 0, none⟩) (r2.length + 1) cap) ua vn' A.T ((rowRun (keyS A) l ((rowN A s).take (j + 1))).1.map (keyS A)) ((rowRun (keyS A) l ((rowN A s).take (j + 1))).1.map Int.ofNat) ((rowRun (keyS A) l ((rowN A s).take (j + 1))).2.map Int.ofNat) ((l.take k).map (ac A)) (outs.map fun r => r.map Int.ofNat)) := hide (by
                  rw [hrr]
                  simpa using hst7)
                have hneg : decide ((((l2.map (keyS A)).idxOf (keyS A t) : Nat) : Int) < 0) = false := by simp
                generalize (l2.map (keyS A)).idxOf (keyS A t) = z at hnm hr7 hneg
                clear hst7 hrr hin
                go_wp2_with (at_builtin; refine wpList_append_run rfl _ _ _ rfl rfl rfl hr7 ?_; clear hr7)
                go_roundw
                case rel => exact ⟨j + 1, by go_num, by omega, HF.out⟩
                case measure => simp [intOf]; omega
              · rw [if_neg hin] at hnm
                obtain ⟨hst5, k5⟩ := HS4.out.put hin (z := (l2.length : Int)) (by simp)
                have hcm5 := Keeps.cell hst5.keep (HCB.out t htn) trivial
                obtain ⟨g6, cap6, w6', hr6, hst6⟩ := hst5.pushL (t : Int) (by simp; omega)
                have hcm6 := Keeps.cell hst6.keep (HCB.out t htn) trivial
                have hnm6 : w6'.cell? ⟨m, keyS A t, none⟩ = some (.int .i64 (l2.length : Int)) := by
                  rw [cell_at hst6.num, List.getElem?_toArray, List.getElem?_map, numsI_get hkt, if_pos (by simp), List.idxOf_append, if_neg hin]
                  simp
                rw [List.length_map] at hr6 hst6
                rw [show (wb.setCell ⟨m, keyS A t, none⟩ (.int .i64 (l2.length : Int))).heap.size = wb.heap.size by simp] at hr6
                obtain ⟨g, cap, w7, hr7, hst7⟩ := hst6.pushR (l2.length : Int) (by simp; omega)
                rw [List.length_map] at hr7 hst7
                have hrr := rowRun_no (A := A) (l := l) (ts := (rowN A s).take j) (t := t) (by rw [← HL2.out]; exact hin)
                rw [← HL2.out, ← HR2.out, ← HTJ.out] at hrr
                have HF : Hid (MrSt (m + 1) A.acc.length m x w1 w7 (.slice (some ⟨g6, 0, none⟩) (l2.length + 1) cap6) (.slice (some ⟨g, 0, none⟩) (r2.length + 1) cap) ua vn' A.T ((rowRun (keyS A) l ((rowN A s).take (j + 1))).1.map (keyS A)) ((rowRun (keyS A) l ((rowN A s).take (j + 1))).1.map Int.ofNat) ((rowRun (keyS A) l ((rowN A s).take (j + 1))).2.map Int.ofNat) ((l.take k).map (ac A)) (outs.map fun r => r.map Int.ofNat)) := hide (by
                  rw [hrr]
                  simpa using hst7)
                clear hst5 hst6 hst7 hrr hin k5
                go_wp2_with (at_builtin; first | (refine wpList_append_run rfl _ _ _ rfl rfl rfl hr6 ?_; clear hr6) | (refine wpList_append_run rfl _ _ _ rfl rfl rfl hr7 ?_; clear hr7))
                go_roundw
                case rel => exact ⟨j + 1, by go_num, by omega, HF.out⟩
                case measure => simp [intOf]; omega
            · obtain rfl : j = row.length := by omega
              have htake : (rowN A s).take row.length = rowN A s := List.take_of_length_le (by rw [rowN_length, HRL.out]; exact Nat.le_refl _)
              have HBN2 : Hid (bfs (rowN A) (keyS A) 0 (k + 1) = (l2, outs ++ [r2])) := hide (by
                have h1 := HL2.out
                have h2 := HR2.out
                rw [htake] at h1 h2
                rw [h1, h2]; exact HBN.out)
              clear htake
              go_wp2_with fail
              refine wp_region_same (by kernel_rfl) (by kernel_rfl) ?_
              iterate 11
                (apply wpQuiet_step
                 intro K hK
                 first
                   | (apply quiet_skip
                      case hw => rfl
                      go_simp
                      refine hK _ ?_; clear hK K)
                   | (apply quiet_do
                      case hw => rfl
                      case h =>
                        intro w' hw'
                        (have z0 := Keeps.cell hw' q2 trivial; have z1 := Keeps.cell hw' hdk trivial; have z2 := Keeps.cell hw' qr trivial)
                        go_simp
                        first | exact rfl | (fail)
                      go_simp
                      refine hK _ ?_; clear hK K))
              apply wpQuiet_nil
              intro wa ka
              have hdk := Keeps.cell ka hdk trivial
              have HS3 := hide (HS2.out.same ka)
              clear ka HS2 q2 qr
              go_wp2_with fail
              have kd : Same wa wa.drew := Keeps.drew (Keeps.refl (fun _ => True) wa)
              have hstd := HS3.out.same kd
              have hbl : ab < w1.heap.size := by
                have h1 := Keeps.cell (HK2.out.tr HKC.out) (HAC.out s hsn) trivial
                exact World.block_lt_of_cell? w1 _ h1
              have hxl : w.heap.size < w1.heap.size := World.block_lt_of_cell? w1 _ C1.out
              have hlow := HS3.out.low
              have hlive : (Value.slice (some ⟨lb2, loff2, none⟩) l2.length lc2).ownBlock = some lb2 := live_own (by
                obtain ⟨q, hq⟩ : ∃ q, l2.length = q + 1 := ⟨l2.length - 1, by omega⟩
                rw [hq]; rfl)
              have hacl : ((l.take k).map (ac A)).length = k := by rw [List.length_map, List.length_take]; omega
              have hac0 := Keeps.cell ((HK2.out.tr HKC.out).tr hstd.keep) (HAC.out s hsn) trivial
              have hS0 : wa.drew.heap[x]? = some (.cells #[.int .i64 A.T, ua, vn'] 33 (0, 0)) ∧ wa.drew.cell? ⟨w.heap.size, 1, none⟩ = some (.slice (some ⟨ab, aoff, none⟩) A.acc.length ac') ∧ wa.drew.cell? ⟨lb2, loff2 + k, none⟩ = some (.int .i64 (s : Int)) ∧ wa.drew.cell? ⟨ab, aoff + s, none⟩ = some (.bool (ac A s)) :=
                ⟨hstd.blk, Keeps.cell hstd.keep C1.out trivial, Keeps.cell kd hdk trivial, hac0⟩
              obtain ⟨ga, capa, w8, hr8, hb8, k8, hst8⟩ := hstd.outAcc (ac A s) (by omega)
              have hS8 : w8.heap[x]? = some (.cells #[.int .i64 A.T, ua, vn'] 33 (0, 0)) ∧ w8.cell? ⟨w.heap.size, 1, none⟩ = some (.slice (some ⟨ab, aoff, none⟩) A.acc.length ac') ∧ w8.cell? ⟨lb2, loff2 + k, none⟩ = some (.int .i64 (s : Int)) ∧ w8.cell? ⟨ab, aoff + s, none⟩ = some (.bool (ac A s)) :=
                ⟨hb8, Keeps.cell k8 hS0.2.1 fun e => by have h1 := (ownsRow_block hstd.accs e).1; simp only at h1; omega, Keeps.cell k8 hS0.2.2.1 fun e => own_ne hstd.accs hstd.lown (by decide) lb2 e hlive, Keeps.cell k8 hS0.2.2.2 fun e => by have h1 := (ownsRow_block hstd.accs e).1; simp only at h1; omega⟩
              obtain ⟨uaa, uac, rfl⟩ := ownsRow_shape hstd.accs
              rw [hacl] at hr8 hS0 hS8 hst8
              have e5 : (l2.take (k + 1)).map (ac A) = (l.take k).map (ac A) ++ [ac A s] := by
                obtain ⟨u, hu⟩ := HPRE.out
                rw [List.take_succ_eq_append_getElem hkl2, List.map_append, (List.getElem?_eq_some_iff.1 HS2K.out).2, ← hu, List.take_append_of_le_length (Nat.le_of_lt hlt)]
                rfl
              rw [← e5] at hst8
              obtain ⟨nva, nvc, hvn⟩ : ∃ a c, vn' = .slice a outs.length c := by
                obtain ⟨vs, h1, _⟩ := hstd.mat
                obtain ⟨a, c, h2⟩ := ownsRow_shape h1
                rw [List.length_map] at h2
                exact ⟨a, c, h2⟩
              subst hvn
              have hol := HOL.out
              rw [hol] at hst8 hS0 hS8
              have HS8 := hide hst8
              clear hst8 hstd hlive k8 hac0 hlow HS3 e5 hdk hacl hol
              refine wp_region_planz 13 (.take 0 (.take 1 (.take 2 (.take 3 (.take 4 (.take 5 (.take 6 (.take 7 (.take 8 (.take 9 (.one 10 (.one 11 (.take 12 .last))))))))))))) (fun w' => w'.heap[x]? = some (.cells #[.int .i64 A.T, .slice uaa k uac, .slice nva k nvc] 33 (0, 0)) ∧ w'.cell? ⟨w.heap.size, 1, none⟩ = some (.slice (some ⟨ab, aoff, none⟩) A.acc.length ac') ∧ w'.cell? ⟨lb2, loff2 + k, none⟩ = some (.int .i64 (s : Int)) ∧ w'.cell? ⟨ab, aoff + s, none⟩ = some (.bool (ac A s))) (by kernel_rfl) (by kernel_rfl) hS0 ?_
              iterate 10
                (first
                   | (apply pz_pass
                      case ho => rfl
                      case hw => rfl
                      go_simp)
                   | (apply pz_take
                      case ho => rfl
                      case hw => rfl
                      case hv =>
                        intro w' hS
                        (have q1 := cell_at hS.1 1; have q2 := hS.2.1; have q3 := hS.2.2.1; have q4 := hS.2.2.2; simp only [List.getElem?_toArray, List.getElem?_cons_zero, List.getElem?_cons_succ] at q1)
                        go_simp
                        exact rfl
                      go_simp))
              refine pz_one (up_do rfl rfl fun K hK1 => ?_)
              go_simp
              refine hK1 _ _ _ ⟨heap_old hS0.1 _, cell_alloc hS0.2.1 _, cell_alloc hS0.2.2.1 _, cell_alloc hS0.2.2.2 _⟩ (fun _ h => h) ?_
              clear hK1 K
              refine pz_one (up_append _ _ _ rfl rfl rfl ?hs ?hx hr8 _ hS8 (fun _ h => h) ?_)
              case hs => rfl
              case hx => rfl
              clear hr8
              go_simp
              iterate 1
                (first
                   | (apply pz_pass
                      case ho => rfl
                      case hw => rfl
                      go_simp)
                   | (apply pz_take
                      case ho => rfl
                      case hw => rfl
                      case hv =>
                        intro w' hS
                        (skip)
                        go_simp
                        exact rfl
                      go_simp))
              have z1 := cell_at hb8 1
              have z2 := free_at hb8 1
              simp only [List.getElem?_toArray, List.getElem?_cons_zero, List.getElem?_cons_succ] at z1
              clear hS0 hS8 kd
              refine pz_last rfl rfl fun K hK => ?_
              go_simp
              refine hK _ _ (np_normal ?_)
              clear hK K z1 z2 hb8
              obtain ⟨g, cap, w5, hr5, hb5, hst5⟩ := HS8.out.outNext (by rw [List.length_map, HOL.out]; omega)
              have hol2 : (outs.map fun r => r.map Int.ofNat).length = k := by rw [List.length_map, HOL.out]
              rw [hol2] at hr5 hst5
              have y2 := cell_at HS8.out.blk 2
              have z2 := cell_at hb5 2
              have z3 := free_at hb5 2
              simp only [List.getElem?_toArray, List.getElem?_cons_zero, List.getElem?_cons_succ] at y2 z2
              have HF : Hid (MrSt (m + 1) A.acc.length m x w1 (w5.setCell ⟨x, 2, none⟩ (.slice (some ⟨g, 0, none⟩) (k + 1) cap)) (.slice (some ⟨lb2, loff2, none⟩) l2.length lc2) (.slice none 0 0) (.slice (some ⟨ga, 0, none⟩) (k + 1) capa) (.slice (some ⟨g, 0, none⟩) (k + 1) cap) A.T (l2.map (keyS A)) (l2.map Int.ofNat) [] ((l2.take (k + 1)).map (ac A)) ((outs ++ [r2]).map fun r => r.map Int.ofNat)) := hide (by
                rw [List.map_append, List.map_singleton]
                exact hst5)
              clear hst5 hb5 hol2
              generalize w8.setCell ⟨x, 1, none⟩ (.slice (some ⟨ga, 0, none⟩) (k + 1) capa) = wz at HS8 hr5 y2 ⊢
              go_wp2_with (at_builtin; refine wpList_append_run rfl _ _ _ rfl rfl rfl hr5 ?_; clear hr5)
              go_roundw
              case rel => exact ⟨k + 1, l2, outs ++ [r2], _, _, by go_num, by omega, hl2n, by simp [HOL.out], HBN2.out, HF.out⟩
              case measure => simp [intOf]; omega
        · obtain rfl : k = l.length := by omega
          have hmin : minL A = (l, outs) := by
            rw [← minL_at HOK.out (k := l.length) (by rw [← bfs_key, hbf.out]; exact hol), ← bfs_key]
            exact hbf.out
          have hau : minAu A = ⟨A.T, l.map (ac A), outs.map fun r => r.map Int.ofNat⟩ := by unfold minAu; rw [hmin]
          have hmok := min_ok HOK.out
          have hb := hst.out.blk
          have hg2 := hst.out.keep.at (HKC.out.at HG2.out trivial) trivial
          have hxl : w.heap.size + 1 < w1.heap.size := by
            have h1 := HKC.out.size
            have h2 := HE2.out
            omega
          have h1 := hst.out
          rw [List.take_length] at h1
          have h2 : MrSt (m + 1) A.acc.length m x w1 wr (.slice la l.length lc) (.slice none 0 0) ua vn' (minAu A).T (l.map (keyS A)) (l.map Int.ofNat) [] (minAu A).acc (minAu A).next := by rw [hau]; exact h1
          obtain ⟨uaa, uac, rfl⟩ := ownsRow_shape h2.accs
          obtain ⟨nva, nvc, hvn⟩ : ∃ a c, vn' = .slice a (minAu A).next.length c := by
            obtain ⟨vs, h3, _⟩ := h2.mat
            exact ownsRow_shape h3
          subst hvn
          obtain ⟨hb3, k3⟩ := set3 (a := .int .i64 A.T) (b := .slice uaa (minAu A).acc.length uac) (c := .slice nva (minAu A).next.length nvc) hg2
          have hf := free_at hg2 0
          have hauto := (h2.own k3 (by have := h2.low; omega)).below (B' := w.heap.size + 2) (by have := h2.low; omega)
          rw [show (minAu A).T = A.T by rw [hau]] at hauto
          have hsame : Same w (((wr.setCell ⟨w.heap.size + 1, 0, none⟩ (.int .i64 A.T)).setCell ⟨w.heap.size + 1, 1, none⟩ (.slice uaa (minAu A).acc.length uac)).setCell ⟨w.heap.size + 1, 2, none⟩ (.slice nva (minAu A).next.length nvc)) :=
            (HK2.out.tr (HKC.out.tr hst.out.keep)).trans k3 fun b hb _ => ⟨trivial, by omega⟩
          have HAU := hide hauto
          have HSM := hide hsame
          have y0 := cell_at hb 0
          have y1 := cell_at hb 1
          have y2 := cell_at hb 2
          have p0 := cell_at hg2 0
          have p1 := cell_at hg2 1
          have p2 := cell_at hg2 2
          have f0 := free_at hg2 0
          have f1 := free_at hg2 1
          have f2 := free_at hg2 2
          simp only [List.getElem?_toArray, List.getElem?_cons_zero, List.getElem?_cons_succ] at y0 y1 y2 p0 p1 p2
          clear hst hbf hmin hau hmok hauto hsame hb hg2 h1 h2 k3 hlN hf
          generalize hmn1 : (minAu A).acc.length = mn1 at *
          generalize hmn2 : (minAu A).next.length = mn2 at *
          go_wp2_with fail
          clear y0 y1 y2 p0 p1 p2 f0 f1 f2
          generalize ((wr.setCell ⟨w.heap.size + 1, 0, none⟩ (.int .i64 A.T)).setCell ⟨w.heap.size + 1, 1, none⟩ (.slice uaa mn1 uac)).setCell ⟨w.heap.size + 1, 2, none⟩ (.slice nva mn2 nvc) = wf at hb3 HAU HSM ⊢
          have y0 := cell_at hb3 0
          have y1 := cell_at hb3 1
          have y2 := cell_at hb3 2
          simp only [List.getElem?_toArray, List.getElem?_cons_zero, List.getElem?_cons_succ] at y0 y1 y2
          refine bodyPost_ret (v := .agg #[.int .i64 A.T, .slice uaa mn1 uac, .slice nva mn2 nvc]) (by simp [results, Try.results27, go_sem, y0, y1, y2]) rfl ?_
          exact HR.out _ _ _ rfl HAU.out HSM.out

theorem refMin {v : Value} (hA : AutoAt w v A) (hok : AuOk A) (hR : ∀ e w' u, e = .returned u → AutoAt w' u (minAu A) → Same w w' → R e w') :
    Calls Try.prog 27 #[v] w R :=
  refMinO hA hok fun e w' u he ho hk => hR e w' u he (ho.auto (min_ok hok)) hk

end Go.Proofs.Ytgpgbkoaopfjkaa
