/- The walk of model.Of. -/
import Derived.Test.YtbmpnfibebiaeaaVals
import Derived.Test.YtbmpnfibebiaeaaDec
import Derived.Test.YtbmpnfibebiaeaaLaw11b
import Derived.Test.YtbmpnfibebiaeaaShort
namespace Go.Proofs.Ytbmpnfibebiaeaa
open Go.RowKit

attribute [local irreducible] wpQuiet wpPlan wpPlanZ wpUp

variable {R : Ending → World → Prop} {w : World} {A : Au} {B d : Nat}

/-- The values of a word. -/
def valsOf (D : List Dl) (W : List Nat) : List Vl := (D.zip (decRows W D.length W.length 0)).map fun p => ⟨p.1.name, p.1.ord, p.2⟩

theorem valsOf_length (D : List Dl) (W : List Nat) : (valsOf D W).length = D.length := by simp [valsOf, decRows_len]

/-- The elements' cells. -/
def valCells (D : List Dl) (vs : List Value) : List (Value × Value × Value) := (D.zip vs).map fun p => (.string p.1.name, .int .i64 p.1.ord, p.2)

theorem val_info : (Try.prog.info? 39).map (fun i => (i.zero, i.size, i.bytes)) = some (some (.agg #[.string ⟨#[]⟩, .int .i64 0, .slice none 0 0]), 3, 48) := by kernel_rfl

theorem vals_at {wr : World} {D : List Dl} {vs : List Value} {rows : List (List Int)} {v : Value} (ht : TriAt wr v (valCells D vs)) (hl : vs.length = D.length) (hr : rows.length = D.length)
    (hi : ∀ (i : Nat) (u : Value) (l : List Int), vs[i]? = some u → rows[i]? = some l → IntsAt wr u l) (hd : ∀ d ∈ D, InI64 d.ord ∧ InI64 d.spot ∧ d.name.size ≤ maxLen) :
    ValsAt wr v ((D.zip rows).map fun p => ⟨p.1.name, p.1.ord, p.2⟩) := by
  refine ⟨_, ht, by simp [valCells, hl, hr], fun i x l hx hl => ?_⟩
  simp only [valCells, List.getElem?_map, Option.map_eq_some_iff, List.getElem?_zip_eq_some] at hx hl
  obtain ⟨p, ⟨p1, p2⟩, rfl⟩ := hx
  obtain ⟨q, ⟨q1, q2⟩, rfl⟩ := hl
  rw [p1] at q1
  have e := Option.some.inj q1
  have := hd _ (List.mem_of_getElem? p1)
  rw [← e]
  exact ⟨rfl, rfl, hi i _ _ p2 q2, this.1, this.2.2⟩

set_option maxRecDepth 10000 in
set_option maxHeartbeats 1000000 in
theorem modelOfNot {v : Value} {D : List Dl} (h : DFAAt w B d A) (hv : DeclsAt w v D) (hno : (¬ ∃ k, Dst A k 0) ∨ A.T ≠ (D.length : Int)) (hR : ∀ e w', e = .returned (.tuple #[.slice none 0 0, .bool false]) → Same w w' → R e w') :
    Calls Try.prog 8 #[.pointer (some ⟨d, 0, none⟩), v] w R := by
  have HR := hide hR
  clear hR
  have H := hide h
  obtain ⟨a, c, rfl, hc1, hc2, _⟩ := hv.open
  unfold maxLen at hc2
  clear h hv
  by_cases hk : ∃ k, Dst A k 0
  · obtain ⟨K, hd⟩ := hk
    have HD := hide hd
    have hT : A.T ≠ (D.length : Int) := by
      rcases hno with h | h
      · exact absurd ⟨K, hd⟩ h
      · exact h
    have hne : (A.T != (D.length : Int)) = true := by rw [bne_iff_ne]; exact hT
    clear hd hno hT
    go_enter Try.func8, Try.ntmps8
    go_wp2_with fail
    refine lookShortest H.out HD.out ?_; rintro e w1 v1 rfl i1 k1
    have HK1 := hide k1
    clear i1 k1
    go_wp2_with fail
    refine dfaTracks (H.out.same HK1.out) ?_; rintro e rfl
    go_wp2_with fail
    exact HR.out _ _ rfl HK1.out
  · have HN := hide hk
    clear hk hno
    go_enter Try.func8, Try.ntmps8
    go_wp2_with fail
    refine lookShortestNot H.out HN.out ?_; rintro e w1 rfl k1
    have HK1 := hide k1
    clear k1
    go_wp2_with fail
    exact HR.out _ _ rfl HK1.out

set_option maxRecDepth 10000 in
set_option maxHeartbeats 2000000 in
theorem modelOf {K : Nat} {v : Value} {D : List Dl} (h : DFAAt w B d A) (hv : DeclsAt w v D) (hd : Dst A K 0) (hT : A.T = (D.length : Int)) (hR : ∀ e w' u, e = .returned (.tuple #[u, .bool true]) → ValsAt w' u (valsOf D (greedy A K 0)) → Same w w' → R e w') :
    Calls Try.prog 8 #[.pointer (some ⟨d, 0, none⟩), v] w R := by
  have HR := hide hR
  clear hR
  have H := hide h
  have HDL := hide hv.2
  have HD := hide hd
  have hn6 : D.length ≤ 6 := by have := h.ok.1.2.1; omega
  have hWs : ∀ y ∈ greedy A K 0, y < 64 := fun y hy => by
    have h1 := (greedy_spec h.ok hd).1 y hy
    have h2 := two_le (show A.T.toNat ≤ 6 by omega)
    omega
  have hWl : (greedy A K 0).length ≤ 400 := by
    rw [(greedy_spec h.ok hd).2.1]
    have h1 := hd.lt h.ok h.ok.1.2.2.1
    have h2 := h.ok.1.2.2.2.1
    omega
  obtain ⟨a, c, rfl, hc1, hc2, hcell⟩ := hv.open
  have HC := hide hcell
  unfold maxLen at hc2
  clear h hv hcell hd
  have hne : (A.T != (D.length : Int)) = false := by rw [hT]; simp
  clear hT
  have HVO : Hid (valsOf D (greedy A K 0) = (D.zip (decRows (greedy A K 0) D.length (greedy A K 0).length 0)).map fun p => ⟨p.1.name, p.1.ord, p.2⟩) := hide rfl
  go_enter Try.func8, Try.ntmps8
  go_wp2_with fail
  refine lookShortest H.out HD.out ?_; rintro e w1 v1 rfl i1 k1
  have HK1 := hide k1
  have HI1 := hide i1
  clear i1 k1
  generalize greedy A K 0 = W at HR HVO HI1 hWs hWl
  have HWS := hide hWs
  clear hWs
  obtain ⟨x1, x2, rfl, _, _, _⟩ := HI1.out.open
  rw [List.length_map] at HI1 ⊢
  go_wp2_with fail
  refine dfaTracks (H.out.same HK1.out) ?_; rintro e rfl
  go_wp2_with fail
  refine wordDecode HI1.out HWS.out D.length hn6 (by omega) ?_; rintro e w2 b vs rfl r2 k2
  have HK2 := hide (HK1.out.tr k2)
  have hbl := cell_at r2.blk
  have hvl := r2.len
  rw [decRows_len] at hvl
  have HBK := hide r2.blk
  have HVI : Hid (∀ (i : Nat) (u : Value) (l : List Int), vs[i]? = some u → (decRows W D.length W.length 0)[i]? = some l → IntsAt w2 u l) := hide fun i u l hu hl => (r2.own i u l hu hl).ints (decRows_bounds W D.length W.length (by omega) l (List.mem_of_getElem? hl))
  have HSH : Hid (∀ i (u : Value), vs[i]? = some u → ∃ s n c, u = .slice s n c) := hide fun i u hu => by
    have hi := (List.getElem?_eq_some_iff.1 hu).1
    obtain ⟨s, c, e⟩ := (r2.own i u _ hu (List.getElem?_eq_getElem (show i < (decRows W D.length W.length 0).length by rw [decRows_len]; omega))).shape
    exact ⟨s, _, c, e⟩
  have HVL := hide hvl
  clear r2 k2 hbl hvl
  obtain ⟨B2, hB2⟩ : ∃ B2, B2 = w2.heap.size := ⟨_, rfl⟩
  have HB2 := hide hB2
  have HO := hide (own_nil3 w2 39 (B := B2) (by omega))
  have HK3 : Hid (Same w2 (w2.alloc (.cells #[] 39))) := hide ((Keeps.refl _ w2).alloc _)
  clear hB2
  go_wp2_with fail
  generalize w2.alloc (.cells #[] 39) = w3 at HO HK3 ⊢
  generalize w2.heap.size = g2 at HO ⊢
  go_loopw [9, 10, 11, 33] (fun u _ _ i wr => ∃ k : Nat, i = .int .i64 k ∧ k ≤ D.length ∧ Hid (wr.ownsRow B2 39 3 u k (flat3 ((valCells D vs).take k))) ∧ Same w2 wr) (fun _ _ _ i _ => D.length - (intOf i).toNat)
  case atStart => exact ⟨0, rfl, Nat.zero_le _, HO, HK3.out⟩
  case round =>
    obtain ⟨k, rfl, hk, hown, hK⟩ := hrel
    by_cases hlt : k < D.length
    · obtain ⟨bl, off, rfl, hbl, hcl⟩ := HC.out k hlt
      obtain ⟨z0, z1, z2⟩ := hcl k hlt
      have z0 := Keeps.cell (HK2.out.tr hK) z0 trivial
      have z1 := Keeps.cell (HK2.out.tr hK) z1 trivial
      have z2 := Keeps.cell (HK2.out.tr hK) z2 trivial
      obtain ⟨y, hy⟩ : ∃ y, vs[k]? = some y := ⟨_, List.getElem?_eq_getElem (show k < vs.length by rw [HVL.out]; exact hlt)⟩
      obtain ⟨ys, yn, yc, rfl⟩ := HSH.out k _ hy
      have hby := Keeps.cell hK ((cell_at HBK.out k).trans (by simpa using hy)) trivial
      have HT : Hid ((valCells D vs).take (k + 1) = (valCells D vs).take k ++ [(.string D[k].name, .int .i64 D[k].ord, .slice ys yn yc)]) := hide (by
        rw [List.take_add_one]
        congr 1
        simp [valCells, hy, List.getElem?_eq_getElem hlt, List.zip, List.getElem?_zipWith])
      have HCL : Hid (((valCells D vs).take k).length = k) := hide (by have := HVL.out; simp [valCells]; omega)
      generalize D[k].name = nm at z0 HT
      generalize D[k].ord = od at z1 HT
      generalize D[k].spot = sp at z2
      obtain ⟨s4, c4, rfl⟩ := ownsRow_shape hown.out
      have HKR := hide hK
      clear hcl hK
      go_wp2_with fail
      have hbx := heap_new wr (.cells #[.string nm, .int .i64 od, .int .i64 sp] 55)
      have hka : Same wr (wr.alloc (.cells #[.string nm, .int .i64 od, .int .i64 sp] 55)) := (Keeps.refl _ wr).alloc _
      have hba := Keeps.cell hka hby trivial
      have c0 := cell_at hbx 0
      have c1 := cell_at hbx 1
      simp only [List.getElem?_toArray, List.getElem?_cons_zero, List.getElem?_cons_succ] at c0 c1
      have hown1 := ownsRow_keep hown.out hka fun _ _ => trivial
      have HKA := hide (HKR.out.tr hka)
      generalize wr.alloc (.cells #[.string nm, .int .i64 od, .int .i64 sp] 55) = wa at hba c0 c1 hown1 HKA ⊢
      have hnx : (Value.slice s4 k c4).ownBlock ≠ some wr.heap.size := fun e => by
        obtain ⟨_, cur, hc⟩ := ownsRow_block hown.out e
        exact absurd (heap_lt hc) (Nat.lt_irrefl _)
      have hnb : (Value.slice s4 k c4).ownBlock ≠ some b := fun e => by
        have h1 := (ownsRow_block hown.out e).1
        have h2 := heap_lt HBK.out
        rw [HB2.out] at h1; omega
      generalize wr.heap.size = x at c0 c1 hnx ⊢
      clear hbx hka hby hown
      have kd : Keeps (fun y => (Value.slice s4 k c4).ownBlock ≠ some y) wa wa.drew := Keeps.drew (Keeps.refl _ wa)
      obtain ⟨g, cap, w5, hr, hown5, hk5, _, _⟩ := append_tri (P := Try.prog) wa.drew 28 28 39 Try.underlying28 val_info rfl HCL.out.symm (ownsRow_keep hown1 (Keeps.drew (Keeps.refl (fun _ => True) wa)) fun _ _ => trivial) (by rw [HB2.out]; exact HKA.out.size) (.string nm, .int .i64 od, .slice ys yn yc) rfl rfl rfl (by omega) (by decide)
      rw [← HT.out] at hown5
      have HO5 := hide hown5
      have hk6 := kd.tr hk5
      have HK5 : Hid (Same w2 w5) := hide (HKA.out.trans hk6 fun y hy _ => ⟨trivial, fun e => by
        have := (ownsRow_block hown1 e).1
        rw [HB2.out] at this; omega⟩)
      clear hown5 hk5 hown1
      refine wp_region_plan (.take 0 (.take 1 (.take 2 (.take 3 (.take 4 (.take 5 (.take 6 (.take 7 (.take 8 (.take 9 (.one 10 (.one 11 (.take 12 .done))))))))))))) (Keeps (fun y => (Value.slice s4 k c4).ownBlock ≠ some y) wa) (by kernel_rfl) (by kernel_rfl) kd ?_
      iterate 10
        (first
           | (apply pl_pass
              case ho => rfl
              case hw => rfl
              go_simp)
           | (apply pl_take
              case ho => rfl
              case hw => rfl
              case hv =>
                intro w' hS
                (have q0 := Keeps.cell hS c0 hnx; have q1 := Keeps.cell hS c1 hnx; have q2 := Keeps.cell hS hba hnb)
                go_simp
                exact rfl
              go_simp))
      refine pl_one (up_do rfl rfl fun K hK1 => ?_)
      go_simp
      refine hK1 (Keeps (fun y => (Value.slice s4 k c4).ownBlock ≠ some y) wa) _ _ (kd.alloc _) (fun _ h => h) ?_
      clear hK1 K
      go_simp
      refine pl_one ?_
      refine up_append _ _ _ rfl rfl rfl ?hs ?hx hr (Keeps (fun y => (Value.slice s4 k c4).ownBlock ≠ some y) wa) hk6 (fun _ h => h) ?_
      case hs => rfl
      case hx => rfl
      clear hr
      go_simp
      iterate 1
        (first
           | (apply pl_pass
              case ho => rfl
              case hw => rfl
              go_simp)
           | (apply pl_take
              case ho => rfl
              case hw => rfl
              case hv =>
                intro w' hS
                (skip)
                go_simp
                exact rfl
              go_simp))
      apply pl_done
      go_simp
      clear c0 c1 hba hnx hnb kd hk6
      go_wp2_with fail
      go_roundw
      case rel => exact ⟨k + 1, by go_num, by omega, HO5, HK5.out⟩
      case measure => simp [intOf]; omega
    · obtain rfl : k = D.length := by omega
      have HVA : Hid (ValsAt wr u9 (valsOf D W)) := hide (by
        have hcl : (valCells D vs).length = D.length := by simp [valCells]; have := HVL.out; omega
        have h1 := hown.out
        rw [List.take_of_length_le (by omega), ← hcl] at h1
        rw [HVO.out]
        exact vals_at (tri_of_owns h1) HVL.out (decRows_len _ _ _ _) (fun i u l hu hl => (HVI.out i u l hu hl).same hK) HDL.out)
      have HKF := hide (HK2.out.tr hK)
      clear hown hK
      go_wp2_with fail
      exact HR.out _ _ _ rfl HVA.out HKF.out

end Go.Proofs.Ytbmpnfibebiaeaa
