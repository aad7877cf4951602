/- The walk of sibylref27.Of. -/
import Derived.Test.YtbmpnfibebiaeaaModOf
import Derived.Test.YtbmpnfibebiaeaaRefShort
namespace Go.Proofs.Ytbmpnfibebiaeaa
open Go.RowKit

attribute [local irreducible] wpQuiet wpPlan wpPlanZ wpUp

variable {R : Ending → World → Prop} {w : World} {A : Au} {B d : Nat}

theorem vals_nil (w : World) : ValsAt w (.slice none 0 0) [] := ⟨[], ⟨none, 0, rfl, Nat.le_refl _, Nat.zero_le _, .inl rfl⟩, rfl, by simp⟩

set_option maxRecDepth 10000 in
set_option maxHeartbeats 1000000 in
theorem refOf27Not {va v : Value} {D : List Dl} (hA : AutoAt w va A) (hok : AuOk A) (hv : DeclsAt w v D) (hno : (¬ ∃ k, Dst A k 0) ∨ A.T ≠ (D.length : Int)) (hR : ∀ e w', e = .returned (.tuple #[.slice none 0 0, .bool false]) → Same w w' → R e w') :
    Calls Try.prog 10 #[va, v] w R := by
  have HR := hide hR
  clear hR
  have HA := hide hA
  have HOK := hide hok
  obtain ⟨xa, xn, rfl, hacc, hnext, _⟩ := hA
  obtain ⟨aa, ac', rfl, _⟩ := hacc.open
  obtain ⟨na, nc, rfl, _⟩ := hnext.open
  obtain ⟨a, c, rfl, hc1, hc2, _⟩ := hv.open
  unfold maxLen at hc2
  have hA1 := heap_new w (.cells #[.int .i64 A.T, .slice aa A.acc.length ac', .slice na A.next.length nc] 25)
  have kA : Same w (w.alloc (.cells #[.int .i64 A.T, .slice aa A.acc.length ac', .slice na A.next.length nc] 25)) := (Keeps.refl _ w).alloc _
  have q0 := cell_at hA1 0; have q1 := cell_at hA1 1; have q2 := cell_at hA1 2; simp only [List.getElem?_toArray, List.getElem?_cons_zero, List.getElem?_cons_succ] at q0 q1 q2
  have HKB := hide kA
  clear hv hacc hnext hA1 kA
  by_cases hT : A.T = (D.length : Int)
  · have HN : Hid (¬ ∃ k, Dst A k 0) := hide (hno.resolve_right (fun h => h hT))
    have hne : (A.T != (D.length : Int)) = false := by rw [hT]; simp
    clear hno hT
    go_enter Try.func10, Try.ntmps10
    go_wp2_with fail
    refine refShortest (HA.out.same HKB.out) HOK.out ?_ ?_
    · rintro e w1 u x rfl hx _ _
      exact absurd (Dst.of_can (can_run x 0 hx.inr hx.acc)) HN.out
    · rintro e w1 rfl _ k1
      have HK1 := hide (HKB.out.tr k1)
      clear k1
      go_wp2_with fail
      exact HR.out _ _ rfl HK1.out
  · have hne : (A.T != (D.length : Int)) = true := by rw [bne_iff_ne]; exact hT
    clear hno hT
    go_enter Try.func10, Try.ntmps10
    go_wp2_with fail
    exact HR.out _ _ rfl HKB.out

set_option maxRecDepth 10000 in
set_option maxHeartbeats 2000000 in
theorem refOf27 {K : Nat} {va v : Value} {D : List Dl} (hA : AutoAt w va A) (hok : AuOk A) (hv : DeclsAt w v D) (hd : Dst A K 0) (hT : A.T = (D.length : Int)) (hR : ∀ e w' u, e = .returned (.tuple #[u, .bool true]) → ValsAt w' u (valsOf D (greedy A K 0)) → Same w w' → R e w') :
    Calls Try.prog 10 #[va, v] w R := by
  have HR := hide hR
  clear hR
  have HA := hide hA
  have HOK := hide hok
  have HDL := hide hv.2
  have HLG := hide (least_greedy hok hd)
  have HGR := hide (greedy_spec hok hd)
  have hn6 : D.length ≤ 6 := by have := hok.1.2.1; omega
  have hWs : ∀ y ∈ greedy A K 0, y < 64 := fun y hy => by
    have h1 := (greedy_spec hok hd).1 y hy
    have h2 := two_le (show A.T.toNat ≤ 6 by omega)
    omega
  have hWl : (greedy A K 0).length ≤ 400 := by
    rw [(greedy_spec hok hd).2.1]
    have h1 := hd.lt hok hok.1.2.2.1
    have h2 := hok.1.2.2.2.1
    omega
  obtain ⟨xa, xn, rfl, hacc, hnext, _⟩ := hA
  obtain ⟨aa, ac', rfl, _⟩ := hacc.open
  obtain ⟨na, nc, rfl, _⟩ := hnext.open
  obtain ⟨a, c, rfl, hc1, hc2, hcell⟩ := hv.open
  have HC := hide hcell
  unfold maxLen at hc2
  have hA1 := heap_new w (.cells #[.int .i64 A.T, .slice aa A.acc.length ac', .slice na A.next.length nc] 25)
  have kA : Same w (w.alloc (.cells #[.int .i64 A.T, .slice aa A.acc.length ac', .slice na A.next.length nc] 25)) := (Keeps.refl _ w).alloc _
  have q0 := cell_at hA1 0; have q1 := cell_at hA1 1; have q2 := cell_at hA1 2; simp only [List.getElem?_toArray, List.getElem?_cons_zero, List.getElem?_cons_succ] at q0 q1 q2
  have HKB := hide kA
  have hne : (A.T != (D.length : Int)) = false := by rw [hT]; simp
  have HVO : Hid (valsOf D (greedy A K 0) = (D.zip (decRows (greedy A K 0) D.length (greedy A K 0).length 0)).map fun p => ⟨p.1.name, p.1.ord, p.2⟩) := hide rfl
  clear hv hacc hnext hA1 kA hcell hd hT
  go_enter Try.func10, Try.ntmps10
  go_wp2_with fail
  generalize greedy A K 0 = W at HR HVO hWs hWl HLG HGR
  refine refShortest (HA.out.same HKB.out) HOK.out ?_ ?_
  case refine_2 =>
    rintro e w1 rfl hno _
    have := hno W HGR.out.1
    rw [HGR.out.2.2.1] at this
    cases this
  rintro e w1 v1 x rfl hx i1 k1
  obtain rfl := hx.uniq HLG.out
  have HK1 := hide (HKB.out.tr k1)
  have HI1 := hide i1
  clear i1 k1 hx q0 q1 q2
  have HWS := hide hWs
  clear hWs
  obtain ⟨x1, x2, rfl, _, _, _⟩ := HI1.out.open
  rw [List.length_map] at HI1 ⊢
  go_wp2_with fail
  refine refDecode HI1.out HWS.out D.length hn6 (by omega) ?_; rintro e w2 b vs rfl r2 k2
  have HK2 := hide (HK1.out.tr k2)
  have hbl := cell_at r2.blk
  have hvl := r2.len
  rw [decRows_len] at hvl
  have HBK := hide r2.blk
  have HVI : Hid (∀ (i : Nat) (u : Value) (l : List Int), vs[i]? = some u → (decRows x D.length x.length 0)[i]? = some l → IntsAt w2 u l) := hide fun i u l hu hl => (r2.own i u l hu hl).ints (decRows_bounds x D.length x.length (by omega) l (List.mem_of_getElem? hl))
  have HSH : Hid (∀ i (u : Value), vs[i]? = some u → ∃ s n c, u = .slice s n c) := hide fun i u hu => by
    have hi := (List.getElem?_eq_some_iff.1 hu).1
    obtain ⟨s, c, e⟩ := (r2.own i u _ hu (List.getElem?_eq_getElem (show i < (decRows x D.length x.length 0).length by rw [decRows_len]; omega))).shape
    exact ⟨s, _, c, e⟩
  have HVL := hide hvl
  clear r2 k2 hbl hvl
  obtain ⟨B2, hB2⟩ : ∃ B2, B2 = w2.heap.size := ⟨_, rfl⟩
  have HB2 := hide hB2
  clear hB2
  go_wp2_with fail
  go_loopw [9, 10] (fun u i wr => ∃ k : Nat, i = .int .i64 k ∧ k ≤ D.length ∧ Hid (wr.ownsRow B2 39 3 u k (flat3 ((valCells D vs).take k))) ∧ Same w2 wr) (fun _ i _ => D.length - (intOf i).toNat)
  case atStart => exact ⟨0, rfl, Nat.zero_le _, hide (World.ownsRow_nil _ _ _ _), Keeps.refl _ _⟩
  case round =>
    obtain ⟨k, rfl, hk, hown, hK⟩ := hrel
    by_cases hlt : k < D.length
    · obtain ⟨bl, off, rfl, hbl, hcl⟩ := HC.out k hlt
      obtain ⟨z0, z1, z2⟩ := hcl k hlt
      have z0 := Keeps.cell (HK2.out.tr hK) z0 trivial
      have z1 := Keeps.cell (HK2.out.tr hK) z1 trivial
      obtain ⟨y, hy⟩ : ∃ y, vs[k]? = some y := ⟨_, List.getElem?_eq_getElem (show k < vs.length by rw [HVL.out]; exact hlt)⟩
      obtain ⟨ys, yn, yc, rfl⟩ := HSH.out k _ hy
      have hby := Keeps.cell hK ((cell_at HBK.out k).trans (by simpa using hy)) trivial
      have HT : Hid ((valCells D vs).take (k + 1) = (valCells D vs).take k ++ [(.string D[k].name, .int .i64 D[k].ord, .slice ys yn yc)]) := hide (by
        rw [List.take_add_one]
        congr 1
        simp [valCells, hy, List.getElem?_eq_getElem hlt, List.zip, List.getElem?_zipWith])
      have HCL : Hid (((valCells D vs).take k).length = k) := hide (by have := HVL.out; simp [valCells]; omega)
      have HBL : Hid (bl < w2.heap.size) := hide (Nat.lt_of_lt_of_le hbl HK2.out.size)
      generalize D[k].name = nm at z0 HT
      generalize D[k].ord = od at z1 HT
      obtain ⟨s4, c4, rfl⟩ := ownsRow_shape hown.out
      have HKR := hide hK
      have hown1 := hown.out
      have hne : ∀ y, y < w2.heap.size → (Value.slice s4 k c4).ownBlock ≠ some y := fun y hy e => by
        have h1 := (ownsRow_block hown1 e).1
        rw [HB2.out] at h1; omega
      have hnx := hne bl HBL.out
      have hnb := hne b (heap_lt HBK.out)
      clear hcl hK hown z2 hne
      go_wp2_with fail
      have kd : Keeps (fun y => (Value.slice s4 k c4).ownBlock ≠ some y) wr wr.drew := Keeps.drew (Keeps.refl _ wr)
      obtain ⟨g, cap, w5, hr, hown5, hk5, _, _⟩ := append_tri (P := Try.prog) wr.drew 28 28 39 Try.underlying28 val_info rfl HCL.out.symm (ownsRow_keep hown1 (Keeps.drew (Keeps.refl (fun _ => True) wr)) fun _ _ => trivial) (by rw [HB2.out]; exact HKR.out.size) (.string nm, .int .i64 od, .slice ys yn yc) rfl rfl rfl (by omega) (by decide)
      rw [← HT.out] at hown5
      have HO5 := hide hown5
      have hk6 := kd.tr hk5
      have HK5 : Hid (Same w2 w5) := hide (HKR.out.trans hk6 fun y hy _ => ⟨trivial, fun e => by
        have := (ownsRow_block hown1 e).1
        rw [HB2.out] at this; omega⟩)
      clear hown5 hk5 hown1
      refine wp_region_plan (.take 0 (.take 1 (.take 2 (.take 3 (.take 4 (.take 5 (.take 6 (.take 7 (.take 8 (.take 9 (.take 10 (.take 11 (.take 12 (.take 13 (.take 14 (.take 15 (.one 16 (.one 17 (.take 18 .done))))))))))))))))))) (Keeps (fun y => (Value.slice s4 k c4).ownBlock ≠ some y) wr) (by kernel_rfl) (by kernel_rfl) kd ?_
      iterate 16
        (first
           | (apply pl_pass
              case ho => rfl
              case hw => rfl
              go_simp)
           | (apply pl_take
              case ho => rfl
              case hw => rfl
              case hv =>
                intro w' hS
                (have q0 := Keeps.cell hS z0 hnx; have q1 := Keeps.cell hS z1 hnx; have q2 := Keeps.cell hS hby hnb)
                go_simp
                exact rfl
              go_simp))
      refine pl_one (up_do rfl rfl fun K hK1 => ?_)
      go_simp
      refine hK1 (Keeps (fun y => (Value.slice s4 k c4).ownBlock ≠ some y) wr) _ _ (kd.alloc _) (fun _ h => h) ?_
      clear hK1 K
      go_simp
      refine pl_one ?_
      refine up_append _ _ _ rfl rfl rfl ?hs ?hx hr (Keeps (fun y => (Value.slice s4 k c4).ownBlock ≠ some y) wr) hk6 (fun _ h => h) ?_
      case hs => rfl
      case hx => rfl
      clear hr
      go_simp
      iterate 1
        (first
           | (apply pl_pass
              case ho => rfl
              case hw => rfl
              go_simp)
           | (apply pl_take
              case ho => rfl
              case hw => rfl
              case hv =>
                intro w' hS
                (skip)
                go_simp
                exact rfl
              go_simp))
      apply pl_done
      go_simp
      clear z0 z1 hby hnx hnb kd hk6
      go_wp2_with fail
      go_roundw
      case rel => exact ⟨k + 1, by go_num, by omega, HO5, HK5.out⟩
      case measure => simp [intOf]; omega
    · obtain rfl : k = D.length := by omega
      have HVA : Hid (ValsAt wr u9 (valsOf D x)) := hide (by
        have hcl : (valCells D vs).length = D.length := by simp [valCells]; have := HVL.out; omega
        have h1 := hown.out
        rw [List.take_of_length_le (by omega), ← hcl] at h1
        rw [HVO.out]
        exact vals_at (tri_of_owns h1) HVL.out (decRows_len _ _ _ _) (fun i u l hu hl => (HVI.out i u l hu hl).same hK) HDL.out)
      have HKF := hide (HK2.out.tr hK)
      clear hown hK
      go_wp2_with fail
      exact HR.out _ _ _ rfl HVA.out HKF.out

end Go.Proofs.Ytbmpnfibebiaeaa
