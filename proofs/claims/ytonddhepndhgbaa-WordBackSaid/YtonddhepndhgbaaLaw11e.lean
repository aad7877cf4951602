/- The walk of WordBack. -/
import Derived.Test.YtonddhepndhgbaaLaw11c
import Derived.Test.YtonddhepndhgbaaOwnMat
namespace Go.Proofs.Ytonddhepndhgbaa
open Go.RowKit

variable {R : Ending → World → Prop} {w : World}

theorem sorted_bounds {ls : List (List Int)} (h : ∀ l ∈ ls, ∀ x ∈ l, 0 ≤ x ∧ x ≤ 999) : ∀ l ∈ ls.map sortedOf, ∀ x ∈ l, InI64 x := by
  intro l hl x hx
  obtain ⟨r, hr, rfl⟩ := List.mem_map.1 hl
  have := h r hr x (mem_sortedOf.1 hx)
  unfold InI64; omega

set_option maxHeartbeats 2000000 in
theorem wordBackWalk (v : Value) (ls : List (List Int)) (w : World) (hv : RowsAt w v ls) :
    Calls Try.prog 6 #[v] w fun e w' => e = .returned (.bool true) ∧ Below w.heap.size w w' := by
  refine law_of fun R HR => ?_
  have HV := hide hv
  obtain ⟨va, vc, rfl, hc1, hc2, hcell⟩ := hv.open
  have HC := hide hcell
  unfold maxLen at hc2
  clear hcell hv
  obtain ⟨B, hBs⟩ : ∃ B, B = w.heap.size := ⟨_, rfl⟩
  have HBS := hide hBs
  clear hBs
  go_enter Try.func6, Try.ntmps6
  go_wp2_with fail
  refine wordLong HV.out ?_; rintro e b rfl hb
  cases b with
  | true =>
    go_wp2_with fail
    all_goals exact HR.out _ _ rfl (Keeps.refl _ _)
  | false =>
    obtain ⟨h15, h100⟩ := hb rfl
    by_cases h6 : 6 < ls.length
    · go_wp2_with fail
      all_goals exact HR.out _ _ rfl (Keeps.refl _ _)
    · have H100 := hide h100
      clear h100 hb
      go_wp2_with fail
      go_loopw [3, 4] (fun u i wr => ∃ k : Nat, i = .int .i64 k ∧ k ≤ ls.length ∧ Hid (∀ l ∈ ls.take k, ∀ x ∈ l, 0 ≤ x ∧ x ≤ 999) ∧ Hid (OwnMat wr B u ((ls.take k).map sortedOf)) ∧ Same w wr) (fun _ i _ => ls.length - (intOf i).toNat)
      case atStart => exact ⟨0, rfl, Nat.zero_le _, hide (by simp), hide (OwnMat.nil _ _), Keeps.refl _ _⟩
      case round =>
        obtain ⟨k, rfl, hk, hsm, hmat, hK⟩ := hrel
        by_cases hlt : k < ls.length
        · obtain ⟨bl, off, rfl, hbl, hcl⟩ := HC.out k hlt
          obtain ⟨u, hu, hiu⟩ := hcl k hlt
          obtain ⟨ua, uc, rfl, hd1, hd2, hdell⟩ := hiu.open
          have hck := Keeps.cell hK hu trivial
          have hrow : ls.take (k + 1) = ls.take k ++ [ls[k]] := List.take_succ_eq_append_getElem hlt
          have h100 := H100.out _ (List.getElem_mem hlt)
          generalize ls[k] = row at hrow hu hd1 hiu hdell hck h100
          have HROW := hide hrow
          have HD := hide hdell
          have HIU := hide (hiu.same hK)
          have HKo := hide hK
          unfold maxLen at hd2
          clear hcl hiu hrow hu hdell hK
          obtain ⟨wo, hwo⟩ : ∃ wo : World, wo = wr := ⟨_, rfl⟩
          rw [← hwo] at HIU HKo hmat
          have HCK : Hid (wo.cell? ⟨bl, off + k, none⟩ = some (.slice ua row.length uc)) := hide (by rw [hwo]; exact hck)
          have hSt : Same wo wr := by rw [hwo]; exact Keeps.refl _ _
          have HST := hide hSt
          clear hck hwo hSt
          go_wp2_with fail
          go_loopw [5] (fun i wr => ∃ m : Nat, i = .int .i64 m ∧ m ≤ row.length ∧ Hid (∀ x ∈ row.take m, 0 ≤ x ∧ x ≤ 999) ∧ Same wo wr) (fun i _ => row.length - (intOf i).toNat)
          case atStart => exact ⟨0, rfl, Nat.zero_le _, hide (by simp), HST.out⟩
          case round =>
            obtain ⟨m, rfl, hm, hall, hK2⟩ := hrel
            have hck := Keeps.cell hK2 HCK.out trivial
            by_cases hlt2 : m < row.length
            · obtain ⟨rl, roff, rfl, hrl, hdl⟩ := HD.out m hlt2
              have hdk := Keeps.cell (HKo.out.tr hK2) (hdl m hlt2) trivial
              have hT := List.take_succ_eq_append_getElem hlt2
              generalize row[m] = x at hdk hT
              have HT := hide hT
              clear hdl hT
              by_cases hx0 : x < 0
              · go_wp2_with fail
                all_goals exact HR.out _ _ rfl ((HKo.out.tr hK2).mono fun _ _ _ => trivial)
              · by_cases hx1 : 999 < x
                · go_wp2_with fail
                  all_goals exact HR.out _ _ rfl ((HKo.out.tr hK2).mono fun _ _ _ => trivial)
                · have HX := hide (show 0 ≤ x ∧ x ≤ 999 by omega)
                  go_wp2_with fail
                  go_roundw
                  case rel =>
                    refine ⟨m + 1, by go_num, by omega, hide (fun y hy => ?_), hK2⟩
                    rw [HT.out] at hy
                    rcases List.mem_append.1 hy with hy | hy
                    · exact hall.out y hy
                    · simp at hy; subst hy; exact HX.out
                  case measure => simp [intOf]; omega
            · obtain rfl : m = row.length := by omega
              have HALL : Hid (∀ x ∈ row, 0 ≤ x ∧ x ≤ 999) := hide (by have := hall.out; rw [List.take_length] at this; exact this)
              have HK2 := hide hK2
              clear hall
              go_wp2_with fail
              refine refSorted (HIU.out.same HK2.out) (by omega) ?_; rintro e w3 u3 rfl o3 k3
              obtain ⟨s3, c3, rfl⟩ := o3.shape
              have hl3 : ((ls.take k).map sortedOf).length = k := by simp; omega
              have hBw : B ≤ wo.heap.size := by rw [HBS.out]; exact HKo.out.size
              have hK3 := HK2.out.tr k3
              obtain ⟨g, cap, w4, hr, hmat4, hk4, _, _⟩ := (hmat.out.same hK3).push (Nat.le_trans hBw hK3.size) (ownsRow_below o3 (Nat.le_trans hBw HK2.out.size)) (by omega)
              have HK4 : Hid (Same w w4) := hide ((HKo.out.tr hK3).trans hk4 fun x hx _ => ⟨trivial, fun e => by
                obtain ⟨vs, h1, _⟩ := hmat.out
                have := (ownsRow_block h1 e).1
                rw [HBS.out] at this; omega⟩)
              rw [hl3] at hr hmat4
              have HM := hide hmat4
              have HS4 : Hid (∀ l ∈ ls.take (k + 1), ∀ x ∈ l, 0 ≤ x ∧ x ≤ 999) := hide (by
                intro l hl
                rw [HROW.out] at hl
                rcases List.mem_append.1 hl with hl | hl
                · exact hsm.out l hl
                · simp at hl; subst hl; exact HALL.out)
              clear hmat4 hk4 o3 k3 hK3 hl3
              go_wp2_with (at_builtin; refine wpList_append_run rfl _ _ _ rfl rfl rfl hr ?_; clear hr)
              go_roundw
              case rel => exact ⟨k + 1, by go_num, by omega, HS4, hide (by rw [HROW.out, List.map_append]; exact HM.out), HK4.out⟩
              case measure => simp [intOf]; omega
        · obtain rfl : k = ls.length := by omega
          have hs2 := hsm.out
          have hm2 := hmat.out
          rw [List.take_length] at hs2 hm2
          have HSM : Hid (Small ls) := hide hs2
          have HS0 := hide (show ∀ l ∈ ls, ∀ x ∈ l, 0 ≤ x from fun l hl x hx => (hs2 l hl x hx).1)
          have HM := hide (hm2.rows (sorted_bounds hs2))
          have HK := hide hK
          clear hK hs2 hm2 hsm hmat
          go_wp2_with fail
          refine wordEncode (HV.out.same HK.out) HSM.out (by omega) ?_; rintro e w2 b2 W rfl hL hX _ k2
          have hXb : (W.length : Int) ≤ 1000 := by rw [hL.1]; exact (bnd_bounds (fun x hx => by obtain ⟨l, hl, hxl⟩ := List.mem_flatten.1 hx; exact HSM.out l hl x hxl)).2
          have HB := hide (decRows_bounds W ls.length W.length (by omega))
          have HX := hide (hX.ints hL.2.1 (n := W.length) (c := W.length) rfl (Nat.le_refl _) (by unfold maxLen; omega))
          have HW := hide hX
          have HL := hide hL
          have HBK := hide (letters_back HS0.out hL)
          have HLA := hide (letters_last HS0.out hL)
          have HK2 := hide (HK.out.tr k2)
          have HM2 := hide (HM.out.same k2)
          clear hL hX k2
          go_wp2_with fail
          refine wordDecode HX.out HL.out.2.1 ls.length (by omega) (by omega) ?_; rintro e w3 b3 vs3 rfl r3 k3
          have R3 := hide (r3.rows HB.out (n := ls.length) (by rw [decRows_len]) (by unfold maxLen; omega))
          have HM3 := hide (HM2.out.same k3)
          have HK3 := hide (HK2.out.tr k3)
          have HW3 : Hid (WordIn w3 b2 W) := hide (k3.at HW.out trivial)
          clear r3 k3
          go_wp2_with fail
          refine sameRows R3.out HM3.out ?_; rintro e w4 rfl k4
          rw [show decide (decRows W ls.length W.length 0 = ls.map sortedOf) = true by rw [HBK.out]; simp]
          have HK4 := hide (HK3.out.tr k4)
          have HW4 : Hid (WordIn w4 b2 W) := hide (k4.at HW3.out trivial)
          clear k4
          go_wp2_with fail
          refine wordBound (HV.out.same HK4.out) HSM.out ?_; rintro e w5 rfl k5
          rw [← HL.out.1]
          have HK5 := hide (HK4.out.tr k5)
          have HW5 : Hid (WordIn w5 b2 W) := hide (k5.at HW4.out trivial)
          clear k5
          by_cases h0 : W.length = 0
          · rw [h0]
            go_wp2_with fail
            refine known11 ?_; rintro e w6 rfl k6
            go_wp2_with fail
            exact HR.out _ _ rfl ((HK5.out.tr k6).mono fun _ _ _ => trivial)
          · have hcell := HW5.out.cell (W.length - 1) (by omega)
            have hla := HLA.out (by omega)
            generalize W[W.length - 1]'(by omega) = z at hcell hla
            have hi0 : (((W.length : Nat) : Int) == 0) = false := by rw [beq_eq_false_iff_ne]; omega
            have hz0 : ((z : Int) != 0) = true := by rw [bne_iff_ne]; omega
            go_wp2_with fail
            refine known11 ?_; rintro e w6 rfl k6
            go_wp2_with fail
            exact HR.out _ _ rfl ((HK5.out.tr k6).mono fun _ _ _ => trivial)

end Go.Proofs.Ytonddhepndhgbaa
