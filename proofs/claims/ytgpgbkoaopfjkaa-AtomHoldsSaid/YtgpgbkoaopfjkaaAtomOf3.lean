/- The walk of atom.Of at an atom that may be. -/
import Derived.Test.YtgpgbkoaopfjkaaAtomOf2
import Derived.Test.YtgpgbkoaopfjkaaCoreIs2
namespace Go.Proofs.Ytgpgbkoaopfjkaa
open Go.RowKit

attribute [local irreducible] wpQuiet wpPlan wpPlanZ wpUp

variable {R : Ending → World → Prop} {w : World}

/-- A state's row. -/
def rowO (o : AOp) (N A B C n s : Nat) : List Int := (List.range (2 ^ n)).map fun l => (nxO o N A B C s l : Int)

/-- The first letters of a state's row. -/
def rowK (o : AOp) (N A B C s k : Nat) : List Int := (List.range k).map fun l => (nxO o N A B C s l : Int)

theorem rowK_succ (o : AOp) (N A B C s k : Nat) : rowK o N A B C s (k + 1) = rowK o N A B C s k ++ [(nxO o N A B C s k : Int)] := by simp [rowK, List.range_succ]
theorem rowK_len (o : AOp) (N A B C s k : Nat) : (rowK o N A B C s k).length = k := by simp [rowK]

set_option maxRecDepth 10000 in
set_option maxHeartbeats 8000000 in
theorem atomOfGood {o : AOp} {A B C N n h : Nat} {ka : Option Addr} {kc : Nat} (hN : N ≤ 20) (hn : n ≤ 6) (hA : A ≤ 6) (hB : B ≤ 6) (hC : C ≤ 6) (hF : FieldsOk o A B C N n 0)
    (hv : CoreIn w h (.agg #[.string o.name, .int .i64 (A : Int), .int .i64 (B : Int), .int .i64 (C : Int), .int .i64 (N : Int), .slice ka 0 kc]))
    (hR : ∀ e w' d, e = .returned (.tuple #[.pointer (some ⟨d, 0, none⟩), .int .i64 0]) → DFAAt w' w.heap.size d (minAu (machAu o N A B C n)) → Same w w' → R e w') :
    Calls Try.prog 9 #[.agg #[.string o.name, .int .i64 (A : Int), .int .i64 (B : Int), .int .i64 (C : Int), .int .i64 (N : Int), .slice ka 0 kc], .int .i64 (n : Int)] w R := by
  have HR := hide hR
  clear hR
  have HF := hide (show 0 ≤ (n : Int) ∧ (n : Int) ≤ 6 ∧ FieldsOk o A B C N n 0 from ⟨by omega, by omega, hF⟩)
  have hk1 : Same w (w.alloc (.cells #[.string o.name, .int .i64 (A : Int), .int .i64 (B : Int), .int .i64 (C : Int), .int .i64 (N : Int), .slice ka 0 kc] 24)) := (Keeps.refl _ w).alloc _
  have HV := hide (CoreIn.same hk1 hv)
  have HK1 := hide hk1
  have HB1 := hide (heap_new w (.cells #[.string o.name, .int .i64 (A : Int), .int .i64 (B : Int), .int .i64 (C : Int), .int .i64 (N : Int), .slice ka 0 kc] 24))
  have HMO := hide (machAu_ok (o := o) (N := N) (A := A) (B := B) (C := C) (n := n) hN hn)
  have hcb := callFunc_bit
  clear hv hk1 hF
  go_enter Try.func9, Try.ntmps9
  go_wp2_with fail
  refine atomOf hN ?_; rintro e w2 F caps rfl hcf hans k2
  have hb2 := k2.at HB1.out trivial
  have HBX2 := hide hb2
  have HK2 := hide (HK1.out.tr k2)
  have HV2 := hide (CoreIn.same k2 HV.out)
  have HANS := hide hans
  have hl21 := last_le o hN
  have q0 := cell_at hb2 0; have q1 := cell_at hb2 1; have q2 := cell_at hb2 2; have q3 := cell_at hb2 3; have q4 := cell_at hb2 4; have q5 := cell_at hb2 5
  simp only [List.getElem?_toArray, List.getElem?_cons_zero, List.getElem?_cons_succ] at q0 q1 q2 q3 q4 q5
  clear k2 hb2 hans
  generalize hlast : lastO o N = last at hl21 ⊢
  have HLAST := hide hlast
  clear hlast
  have km : Same w2 (w2.alloc (.cells #[.func (.func F) #[] caps, .int .i64 (last : Int), .int .i64 ((last : Int) + 1)] 53)) := (Keeps.refl _ w2).alloc _
  have hm := heap_new w2 (.cells #[.func (.func F) #[] caps, .int .i64 (last : Int), .int .i64 ((last : Int) + 1)] 53)
  have q0 := Keeps.cell km q0 trivial; have q1 := Keeps.cell km q1 trivial; have q2 := Keeps.cell km q2 trivial; have q3 := Keeps.cell km q3 trivial; have q4 := Keeps.cell km q4 trivial; have q5 := Keeps.cell km q5 trivial
  have HBM := hide (km.at HBX2.out trivial)
  have HMB := hide hm
  have HKM := hide (HK2.out.tr km)
  have HKM2 := hide km
  go_wp2_with fail
  refine coreIs (CoreIn.same HKM2.out HV2.out) ?_; rintro e w3 r rfl hr k3
  obtain rfl : r = true := hr.2 HF.out
  have HBX3 := hide (k3.at HBM.out trivial)
  have HMB3 := hide (k3.at HMB.out trivial)
  have HK3 := hide (HKM.out.tr k3)
  have HK23 := hide (HKM2.out.tr k3)
  have m2 := cell_at HMB3.out 2
  simp only [List.getElem?_toArray, List.getElem?_cons_zero, List.getElem?_cons_succ] at m2
  clear hr k3 km hm q0 q1 q2 q3 q4 q5 HBM HMB HV HV2 HB1 HBX2 HK1
  have ka4 : Same w3 (w3.alloc (.cells #[.int .i64 (n : Int), .slice none 0 0, .slice none 0 0] 33)) := (Keeps.refl _ w3).alloc _
  have HTO0 : Hid (ToIn (w3.alloc (.cells #[.int .i64 (n : Int), .slice none 0 0, .slice none 0 0] 33)) w3.heap.size w3.heap.size (n : Int) (.slice none 0 0) (.slice none 0 0) [] []) := hide ⟨heap_new _ _, Nat.le_refl _, World.ownsRow_nil _ _ _ _, OwnMat.nil _ _⟩
  have HKA4 := hide ka4
  have m2 := Keeps.cell ka4 m2 trivial
  go_wp2_with fail
  generalize w3.alloc (.cells #[.int .i64 (n : Int), .slice none 0 0, .slice none 0 0] 33) = w4 at HTO0 HKA4 ⊢
  obtain ⟨W0, hW0⟩ : ∃ W0, W0 = w3.heap.size := ⟨_, rfl⟩
  rw [← hW0] at HTO0 ⊢
  have HW0 := hide hW0
  obtain ⟨x0, hx0⟩ : ∃ x0, x0 = W0 := ⟨_, rfl⟩
  have HTO1 : Hid (ToIn w4 W0 x0 (n : Int) (.slice none 0 0) (.slice none 0 0) [] []) := hide (by rw [hx0]; exact HTO0.out)
  have HX0 := hide hx0
  rw [show Value.pointer (some ⟨W0, 0, none⟩) = Value.pointer (some ⟨x0, 0, none⟩) by rw [hx0]]
  generalize w.heap.size = xc at HBX3 ⊢
  generalize w2.heap.size = xm at HMB3 ⊢
  clear hW0 hx0 ka4 m2 HTO0
  have hw2 := wrap_two hn
  have h64p := two_le hn
  have h1p : 0 < 2 ^ n := Nat.pow_pos (by decide)
  have HR2 : Hid (∀ k, rowK o N A B C k (2 ^ n) = rowO o N A B C n k) := hide (fun _ => rfl)
  generalize hpp : 2 ^ n = p at hw2 h64p h1p HR2
  have HPP := hide hpp
  clear hpp
  go_loopw [9, 10, 11, 12, 13, 34] (fun _ _ _ _ _ i wr => ∃ (k : Nat) (u vn : Value), i = .int .i64 k ∧ k ≤ last + 2 ∧ Hid (ToIn wr W0 x0 (n : Int) u vn ((List.range k).map fun s => decide (s = last)) ((List.range k).map fun s => rowO o N A B C n s)) ∧ Same w3 wr) (fun _ _ _ _ _ i _ => last + 2 - (intOf i).toNat)
  case atStart => exact ⟨0, _, _, rfl, Nat.zero_le _, HTO1, HKA4.out⟩
  case round =>
    obtain ⟨k, ua, vn, rfl, hk, hto, hK⟩ := hrel
    have HTO := hide hto.out
    have HK4 := hide hK
    have HBX4 := hide (hK.at HBX3.out trivial)
    have HMB4 := hide (hK.at HMB3.out trivial)
    clear hto hK
    by_cases hlt : k < last + 2
    · obtain ⟨wo, hwo⟩ : ∃ wo : World, wo = wr := ⟨_, rfl⟩
      have HST : Hid (Same wo wr) := hide (by rw [hwo]; exact Keeps.refl _ _)
      rw [← hwo] at HTO HK4 HBX4 HMB4
      clear hwo
      obtain ⟨Wo, hWo⟩ : ∃ z, z = wo.heap.size := ⟨_, rfl⟩
      have HWO := hide hWo
      clear hWo
      go_wp2_with fail
      rw [hw2, show decide ((k : Int) < (last : Int) + 1 + 1) = true from decide_eq_true (by omega)]
      go_loopw [10, 11, 12, 13, 39] (fun u _ _ _ i wi => ∃ l : Nat, i = .int .i64 l ∧ l ≤ p ∧ Hid (OwnInts wi Wo u (rowK o N A B C k l)) ∧ Same wo wi) (fun _ _ _ _ i _ => p - (intOf i).toNat)
      case atStart => exact ⟨0, rfl, Nat.zero_le _, hide (World.ownsRow_nil _ _ _ _), HST.out⟩
      case round =>
        obtain ⟨l, rfl, hl, hown, hKi⟩ := hrel
        by_cases hlt2 : l < p
        · have HAPP : Hid (∀ (W : World) (v : Int), Same wr W → v = (nxO o N A B C k l : Int) → ∃ g cap w', (Builtin.append_ #[42, 42] 42 #[u10, .slice (some ⟨W.heap.size, 0, none⟩) 1 1]).run Try.prog (W.alloc (.cells #[.int .i64 v] 3)) = .ok (.slice (some ⟨g, 0, none⟩) (l + 1) cap) w' ∧ OwnInts w' Wo (.slice (some ⟨g, 0, none⟩) (l + 1) cap) (rowK o N A B C k (l + 1)) ∧ Same wo w') := hide (by
            intro W v hW hv
            have hlen := rowK_len o N A B C k l
            have hown1 := ownsRow_keep hown.out hW fun _ _ => trivial
            obtain ⟨g, cap1, w2', hr, hown2, hk2, hg, _⟩ := append_one (P := Try.prog) W 42 42 3 Try.underlying42 int_info rfl hown1 (by rw [HWO.out]; exact (hKi.tr hW).size) (.int .i64 v) rfl (by rw [hlen]; omega) (by decide)
            rw [hlen] at hr hown2
            refine ⟨g, cap1, w2', hr, ?_, (hKi.tr hW).trans hk2 fun y hy _ => ⟨trivial, fun e => ?_⟩⟩
            · unfold OwnInts
              rw [rowK_succ, List.length_append, List.map_append, hlen, ← hv]
              exact hown2
            · have := (ownsRow_block hown1 e).1
              rw [HWO.out] at this; omega)
          obtain ⟨s4, c4, hu⟩ := hown.out.shape
          rw [rowK_len] at hu
          subst hu
          have HKI := hide hKi
          have ka : Same wr (wr.alloc (.cells #[.int .i64 (l : Int)] 3)) := (Keeps.refl _ wr).alloc _
          have hpl := heap_new wr (.cells #[.int .i64 (l : Int)] 3)
          have hbx := (hKi.tr ka).at HBX4.out trivial
          have hmb := (hKi.tr ka).at HMB4.out trivial
          have q1 := cell_at hbx 1; have q2 := cell_at hbx 2; have q3 := cell_at hbx 3
          have m0 := cell_at hmb 0; have m2 := cell_at hmb 2
          have p0 := cell_at hpl 0
          simp only [List.getElem?_toArray, List.getElem?_cons_zero, List.getElem?_cons_succ] at q1 q2 q3 m0 m2 p0
          have HKAA := hide ka
          clear hown hKi hbx hmb hpl ka
          by_cases hks : k < last + 1
          · have HKS := hide hks
            have HNX : Hid (nxO o N A B C k l = (nextO o N k (l.testBit A) (l.testBit B) (l.testBit C)).getD (last + 1)) := hide (by unfold nxO; rw [HLAST.out, if_pos hks])
            go_wp2_with fail
            refine wp_region_same (by kernel_rfl) (by kernel_rfl) ?_
            iterate 17
              (apply wpQuiet_step
               intro K hK
               first
                 | (apply quiet_skip
                    case hw => rfl
                    go_simp
                    refine hK _ ?_; clear hK K)
                 | (apply quiet_do
                    case hw => rfl
                    case h =>
                      intro w' hw'
                      (have z1 := Keeps.cell hw' q1 trivial; have z2 := Keeps.cell hw' q2 trivial; have z3 := Keeps.cell hw' q3 trivial; have y0 := Keeps.cell hw' m0 trivial; have p1 := Keeps.cell hw' p0 trivial)
                      go_simp
                      first | exact rfl | (first | exact bitFn p1 (by omega) hA (fun e w'' he hk => ⟨he, hw'.tr hk⟩) | exact bitFn p1 (by omega) hB (fun e w'' he hk => ⟨he, hw'.tr hk⟩) | exact bitFn p1 (by omega) hC (fun e w'' he hk => ⟨he, hw'.tr hk⟩) | exact HANS.out k (by rw [HLAST.out]; exact HKS.out) (l.testBit A) (l.testBit B) (l.testBit C) _ _ ((HK23.out.tr HK4.out).tr ((HKI.out.tr HKAA.out).tr hw')) (fun e w'' he hk => ⟨he, hw'.tr hk⟩))
                    go_simp
                    refine hK _ ?_; clear hK K))
            apply wpQuiet_nil
            intro w5 k5
            have m2 := Keeps.cell k5 m2 trivial
            have HKW := hide (HKAA.out.tr k5)
            clear q1 q2 q3 m0 p0 k5
            cases hnx : nextO o N k (l.testBit A) (l.testBit B) (l.testBit C) with
            | none =>
              rw [hnx] at HNX
              clear hnx
              obtain ⟨g, cap, w6, hr, ho6, hk6⟩ := HAPP.out w5 ((last : Int) + 1) HKW.out (by rw [HNX.out]; simp)
              have HO6 := hide ho6
              have HK6 := hide hk6
              clear ho6 hk6
              go_wp2_with (at_builtin; refine wpList_append_run rfl _ _ _ rfl rfl rfl hr ?_; clear hr)
              go_roundw
              case rel => exact ⟨l + 1, by go_num, by omega, HO6, HK6.out⟩
              case measure => simp [intOf]; omega
            | some t =>
              rw [hnx] at HNX
              clear hnx
              obtain ⟨g, cap, w6, hr, ho6, hk6⟩ := HAPP.out w5 (t : Int) HKW.out (by rw [HNX.out]; simp)
              have HO6 := hide ho6
              have HK6 := hide hk6
              have hne : ((t : Int) == -1) = false := by rw [beq_eq_false_iff_ne]; omega
              clear ho6 hk6
              go_wp2_with (at_builtin; refine wpList_append_run rfl _ _ _ rfl rfl rfl hr ?_; clear hr)
              go_roundw
              case rel => exact ⟨l + 1, by go_num, by omega, HO6, HK6.out⟩
              case measure => simp [intOf]; omega
          · have HNX : Hid (nxO o N A B C k l = last + 1) := hide (by unfold nxO; rw [HLAST.out, if_neg hks])
            obtain ⟨g, cap, w6, hr, ho6, hk6⟩ := HAPP.out _ ((last : Int) + 1) HKAA.out (by rw [HNX.out]; simp)
            rw [show (wr.alloc (.cells #[.int .i64 (l : Int)] 3)).heap.size = wr.heap.size + 1 by simp] at hr
            have HO6 := hide ho6
            have HK6 := hide hk6
            clear q1 q2 q3 m0 p0 ho6 hk6
            go_wp2_with (at_builtin; refine wpList_append_run rfl _ _ _ rfl rfl rfl hr ?_; clear hr)
            go_roundw
            case rel => exact ⟨l + 1, by go_num, by omega, HO6, HK6.out⟩
            case measure => simp [intOf]; omega
        · obtain rfl : l = p := by omega
          have hto := HTO.out.same hKi
          have HK5 := hide (HK4.out.tr hKi)
          have hWW : W0 ≤ wr.heap.size := by rw [HW0.out]; exact HK5.out.size
          have hrow : OwnInts wr W0 u10 (rowK o N A B C k l) := ownsRow_below hown.out (by rw [HW0.out, HWO.out]; exact HK4.out.size)
          have hrl : ((List.range k).map fun s => rowO o N A B C n s).length + 1 ≤ 1000000 := by simp; omega
          obtain ⟨g, cap, w5, hr1, hmat5, hk5, hk5b, _, _⟩ := hto.mat.push hWW hrow hrl
          obtain ⟨s4, c4, hu⟩ := hown.out.shape
          rw [rowK_len] at hu
          subst hu
          obtain ⟨ma, mc, rfl⟩ := hto.mat.shape
          obtain ⟨ba, bc, rfl⟩ := ownsRow_shape hto.acc
          have hx2 := cell_at hto.blk 2
          have hmx : (Value.slice ma ((List.range k).map fun s => rowO o N A B C n s).length mc).ownBlock ≠ some x0 := fun e => by
            obtain ⟨vs, h1, _⟩ := hto.mat
            obtain ⟨_, cur, hc⟩ := ownsRow_block h1 e
            rw [hto.blk] at hc; simp at hc
          have hb5 := hk5.at hto.blk hmx
          have z5 := cell_at hb5 2
          have f5 := free_at hb5 2
          have hto6 := hto.step hk5 hmat5
          have hlow := hto.low
          have hKn5 : Same w3 w5 := HK5.out.trans hk5b fun y hy _ => ⟨trivial, by rw [HW0.out]; exact hy⟩
          have hK6 : Same w3 (w5.setCell ⟨x0, 2, none⟩ (.slice (some ⟨g, 0, none⟩) (((List.range k).map fun s => rowO o N A B C n s).length + 1) cap)) := hKn5.setCell (fun hh => absurd hh.1 (Nat.not_lt.2 (by rw [← HW0.out]; exact hlow))) _
          have hsz6 : (w5.setCell ⟨x0, 2, none⟩ (.slice (some ⟨g, 0, none⟩) (((List.range k).map fun s => rowO o N A B C n s).length + 1) cap)).heap.size = w5.heap.size := by simp [World.setCell]
          have hm6 := hK6.at HMB3.out trivial
          have y1 := cell_at hto6.blk 1
          have m1 := cell_at hm6 1
          have hnb : (Value.slice ba ((List.range k).map fun s => decide (s = last)).length bc).ownBlock ≠ some x0 := fun e => by
            obtain ⟨_, cur, hc⟩ := ownsRow_block hto6.acc e
            rw [hto6.blk] at hc; simp at hc
          obtain ⟨g2, cap2, w7, hr2, hown7, hk7, _, _⟩ := append_one (P := Try.prog) (w5.setCell ⟨x0, 2, none⟩ (.slice (some ⟨g, 0, none⟩) (((List.range k).map fun s => rowO o N A B C n s).length + 1) cap)) 30 30 4 Try.underlying30 bool_info rfl hto6.acc (by rw [hsz6]; exact Nat.le_trans hWW hk5b.size) (.bool ((k : Int) == (last : Int))) rfl (by simp; omega) (by decide)
          rw [hsz6] at hr2
          have hb7 := hk7.at hto6.blk hnb
          have z7 := cell_at hb7 1
          have f7 := free_at hb7 1
          have hacc7 : OwnBools w7 W0 (.slice (some ⟨g2, 0, none⟩) (((List.range k).map fun s => decide (s = last)).length + 1) cap2) (((List.range k).map fun s => decide (s = last)) ++ [((k : Int) == (last : Int))]) := by
            unfold OwnBools
            rw [List.length_append, List.map_append]
            exact hown7
          have hto8 := hto6.stepA hk7 hacc7
          have hacc6 := hto6.acc
          have hK7 : Same w3 w7 := hK6.trans hk7 fun y hy _ => ⟨trivial, fun e => by
            have := (ownsRow_block hacc6 e).1
            rw [HW0.out] at this; omega⟩
          have hK8 : Same w3 (w7.setCell ⟨x0, 1, none⟩ (.slice (some ⟨g2, 0, none⟩) (((List.range k).map fun s => decide (s = last)).length + 1) cap2)) := hK7.setCell (fun hh => absurd hh.1 (Nat.not_lt.2 (by rw [← HW0.out]; exact hlow))) _
          have hbe : ((k : Int) == (last : Int)) = decide (k = last) := by
            cases h : decide (k = last) with
            | true => have := of_decide_eq_true h; rw [this]; simp
            | false => have := of_decide_eq_false h; rw [beq_eq_false_iff_ne]; omega
          have HF2 : Hid (ToIn (w7.setCell ⟨x0, 1, none⟩ (.slice (some ⟨g2, 0, none⟩) (((List.range k).map fun s => decide (s = last)).length + 1) cap2)) W0 x0 (n : Int) (.slice (some ⟨g2, 0, none⟩) (((List.range k).map fun s => decide (s = last)).length + 1) cap2) (.slice (some ⟨g, 0, none⟩) (((List.range k).map fun s => rowO o N A B C n s).length + 1) cap) ((List.range (k + 1)).map fun s => decide (s = last)) ((List.range (k + 1)).map fun s => rowO o N A B C n s)) := hide (by
            rw [List.range_succ, List.map_append, List.map_append]
            have := hto8
            rw [hbe, HR2.out k] at this
            exact this)
          have HK8 := hide hK8
          simp only [List.length_map, List.length_range, List.getElem?_toArray, List.getElem?_cons_zero, List.getElem?_cons_succ] at hr1 hr2 hx2 z5 f5 y1 m1 z7 f7 HF2 HK8
          clear hto hrow hrl hmat5 hk5 hk5b hmx hb5 hto6 hlow hKn5 hK6 hsz6 hm6 hnb hown7 hk7 hb7 hacc7 hto8 hacc6 hK7 hK8 hbe hown hKi hWW
          go_wp2_with (at_builtin; first | (refine wpList_append_run rfl _ _ _ rfl rfl rfl hr1 ?_; clear hr1) | (refine wpList_append_run rfl _ _ _ rfl rfl rfl hr2 ?_; clear hr2))
          go_roundw
          case rel => exact ⟨k + 1, _, _, by go_num, by omega, HF2, HK8.out⟩
          case measure => simp [intOf]; omega
    · obtain rfl : k = last + 2 := by omega
      have hto := HTO.out
      have HAU : Hid (AutoAt wr (.agg #[.int .i64 (n : Int), ua, vn]) (machAu o N A B C n)) := hide (by
        refine hto.auto rfl ?_ ?_ (by unfold InI64; omega) ?_
        · unfold machAu; rw [HLAST.out]
        · unfold machAu; rw [HLAST.out]; rfl
        · intro r hr y hy
          obtain ⟨s, _, rfl⟩ := List.mem_map.1 hr
          obtain ⟨l, _, rfl⟩ := List.mem_map.1 hy
          have := nxO_lt o N A B C s l
          rw [HLAST.out] at this
          unfold InI64; omega)
      obtain ⟨ma, mc, rfl⟩ := hto.mat.shape
      obtain ⟨ba, bc, rfl⟩ := ownsRow_shape hto.acc
      have x0' := cell_at hto.blk 0; have x1' := cell_at hto.blk 1; have x2' := cell_at hto.blk 2
      simp only [List.length_map, List.length_range, List.getElem?_toArray, List.getElem?_cons_zero, List.getElem?_cons_succ] at x0' x1' x2' HAU
      have HK5 := hide (HK3.out.tr HK4.out)
      clear hto
      go_wp2_with fail
      refine autoFrom HAU.out HMO.out ?_; rintro e w6 d6 rfl dd6 k6
      have HD6 := hide dd6
      have HK6 := hide (HK5.out.tr k6)
      clear dd6 k6 x0' x1' x2'
      go_wp2_with fail
      refine minMin HD6.out ?_; rintro e w7 d7 rfl dd7 k7
      have HD7 := hide (dd7.below HK6.out.size)
      have HK7 := hide (HK6.out.tr k7)
      clear dd7 k7
      go_wp2_with fail
      exact HR.out _ _ d7 rfl HD7.out HK7.out

end Go.Proofs.Ytgpgbkoaopfjkaa
