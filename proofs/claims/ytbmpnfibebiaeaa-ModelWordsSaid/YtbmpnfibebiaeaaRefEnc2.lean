/- The walk of sibylref11.Encode. -/
import Derived.Test.YtbmpnfibebiaeaaRefEnc
import Derived.Test.YtbmpnfibebiaeaaPkB
namespace Go.Proofs.Ytbmpnfibebiaeaa
open Go.RowKit

attribute [local irreducible] wpQuiet wpPlan wpPlanZ wpUp

variable {R : Ending → World → Prop} {w : World}

set_option maxRecDepth 10000 in
set_option maxHeartbeats 2000000 in
theorem refEncode {v : Value} {ls : List (List Int)} (hv : RowsAt w v ls) (hs : Small ls) (h6 : ls.length ≤ 6)
    (hR : ∀ e w' b W, e = .returned (.tuple #[.slice (some ⟨b, 0, none⟩) W.length W.length, .bool true]) → Letters ls W → WordIn w' b W → w.heap.size ≤ b → Same w w' → R e w') :
    Calls Try.prog 19 #[v] w R := by
  have HR := hide hR
  clear hR
  have HV := hide hv
  obtain ⟨a, c, rfl, hc1, hc2, hcell⟩ := hv.open
  have HC := hide hcell
  have HS := hide hs
  clear hcell hv hs
  unfold maxLen at hc2
  go_enter Try.func19, Try.ntmps19
  go_wp2_with fail
  go_loopw [4] (fun i wr => ∃ k : Nat, i = .int .i64 k ∧ k ≤ ls.length ∧ Same w wr) (fun i _ => ls.length - (intOf i).toNat)
  case atStart => exact ⟨0, rfl, Nat.zero_le _, Keeps.refl _ _⟩
  case round =>
    obtain ⟨k, rfl, hk, hK⟩ := hrel
    by_cases hlt : k < ls.length
    · obtain ⟨bl, off, rfl, hbl, hcl⟩ := HC.out k hlt
      obtain ⟨u, hu, hiu⟩ := hcl k hlt
      obtain ⟨ua, uc, rfl, hd1, hd2, hdell⟩ := hiu.open
      have HU := hide hu
      have hrow : ls[k]? = some ls[k] := List.getElem?_eq_getElem hlt
      generalize ls[k] = row at hrow HU hd1 hdell
      have HD := hide hdell
      have HROW := hide hrow
      unfold maxLen at hd2
      clear hcl hu hiu hdell hrow
      have HST := hide hK
      go_wp2_with fail
      go_loopw [5] (fun i wr => ∃ m : Nat, i = .int .i64 m ∧ m ≤ row.length ∧ Same w wr) (fun i _ => row.length - (intOf i).toNat)
      case atStart => exact ⟨0, rfl, Nat.zero_le _, HST.out⟩
      case round =>
        clear hK
        obtain ⟨m, rfl, hm, hK2⟩ := hrel
        have hck := Keeps.cell hK2 HU.out trivial
        by_cases hlt2 : m < row.length
        · obtain ⟨rl, roff, rfl, hrl, hdl⟩ := HD.out m hlt2
          have hdk := Keeps.cell hK2 (hdl m hlt2) trivial
          have hxs := HS.out row (List.mem_of_getElem? HROW.out) row[m] (List.getElem_mem hlt2)
          generalize row[m] = x at hdk hxs
          obtain ⟨hx0, hx1⟩ := hxs
          clear hdl
          go_wp2_with fail
          go_roundw
          case rel => exact ⟨m + 1, by go_num, by omega, hK2⟩
          case measure => simp [intOf]; omega
        · go_wp2_with fail
          go_roundw
          case rel => exact ⟨k + 1, by go_num, by omega, hK2⟩
          case measure => simp [intOf]; omega
    · go_wp2_with fail
      refine refBound (HV.out.same hK) HS.out ?_; rintro e w1 rfl k1
      have hb := bnd_bounds (l := ls.flatten) (fun x hx => by obtain ⟨l, hl, hxl⟩ := List.mem_flatten.1 hx; exact HS.out l hl x hxl)
      have HB : Hid (∀ k : Nat, ∀ r x, ls[k]? = some r → x ∈ r → x < bnd ls.flatten) := hide fun k r x h1 h2 => bnd_lt (List.mem_flatten.2 ⟨r, List.mem_of_getElem? h1, h2⟩)
      obtain ⟨N, hN⟩ := Int.eq_ofNat_of_zero_le hb.1
      have HP : Hid (∀ i k W, Part ls i k W → W.length = N) := hide fun i k W h => by have := h.1; omega
      rw [hN] at hb HB ⊢
      obtain ⟨i0, hi0, hz0, hz1, hz2⟩ := info_parts int_info
      have hmk := run_make (P := Try.prog) w1 37 3 i0 _ Try.underlying37 hi0 hz0 .i64 .i64 N N (by omega) (by omega) (by rw [hz2]; omega) (by omega)
      rw [hz1, make_zero] at hmk
      have HST := hide (Part.start ls hN.symm)
      have HK1 := hide (hK.tr k1)
      obtain ⟨b, hbb⟩ : ∃ b, b = w1.heap.size := ⟨_, rfl⟩
      have HW2 := hide (show WordIn (w1.alloc (.cells ((List.replicate N 0).map fun y : Nat => Value.int .i64 (y : Int)).toArray 3)) b (List.replicate N 0) by rw [hbb]; exact heap_new _ _)
      have HK2 := hide (HK1.out.alloc (.cells ((List.replicate N 0).map fun y : Nat => Value.int .i64 (y : Int)).toArray 3))
      have HBW : Hid (w.heap.size ≤ b) := hide (by rw [hbb]; exact HK1.out.size)
      rw [← hbb] at hmk
      rw [Int.toNat_natCast] at hmk
      generalize w1.alloc (.cells ((List.replicate N 0).map fun y : Nat => Value.int .i64 (y : Int)).toArray 3) = w2 at HW2 HK2 hmk
      clear hN hi0 hz0 hz1 hz2 hK k1 HK1 hbb
      go_wp2_with fail
      go_loopw [7] (fun i wr => ∃ k : Nat, ∃ W, i = .int .i64 k ∧ k ≤ ls.length ∧ Hid (Part ls k 0 W) ∧ WordIn wr b W ∧ Same w wr) (fun i _ => ls.length - (intOf i).toNat)
      case atStart => exact ⟨0, _, rfl, Nat.zero_le _, HST, HW2.out, HK2.out⟩
      case round =>
        clear hk hlt
        obtain ⟨k, W, rfl, hk, hP, hW, hK⟩ := hrel
        by_cases hlt : k < ls.length
        · obtain ⟨bl, off, rfl, hbl, hcl⟩ := HC.out k hlt
          obtain ⟨u, hu, hiu⟩ := hcl k hlt
          obtain ⟨ua, uc, rfl, hd1, hd2, hdell⟩ := hiu.open
          have HU := hide hu
          have hrow : ls[k]? = some ls[k] := List.getElem?_eq_getElem hlt
          generalize ls[k] = row at hrow HU hd1 hdell
          have HD := hide hdell
          have HROW := hide hrow
          unfold maxLen at hd2
          clear hcl hu hiu hdell hrow
          go_wp2_with fail
          go_loopw [8] (fun i wr => ∃ m : Nat, ∃ W, i = .int .i64 m ∧ m ≤ row.length ∧ Hid (Part ls k m W) ∧ WordIn wr b W ∧ Same w wr) (fun i _ => row.length - (intOf i).toNat)
          case atStart => exact ⟨0, W, rfl, Nat.zero_le _, hP, hW, hK⟩
          case round =>
            clear hP hW hK
            obtain ⟨m, W, rfl, hm, hP, hW, hK⟩ := hrel
            have hck := Keeps.cell hK HU.out trivial
            have hlen := HP.out _ _ _ hP.out
            by_cases hlt2 : m < row.length
            · obtain ⟨rl, roff, rfl, hrl, hdl⟩ := HD.out m hlt2
              have hdk := Keeps.cell hK (hdl m hlt2) trivial
              have hx0 := (HS.out row (List.mem_of_getElem? HROW.out) row[m] (List.getElem_mem hlt2)).1
              have hx1 := HB.out k row row[m] HROW.out (List.getElem_mem hlt2)
              have HX := hide (show row[m]? = some row[m] from List.getElem?_eq_getElem hlt2)
              generalize row[m] = x at hdk hx0 hx1 HX
              obtain ⟨x, rfl⟩ := Int.eq_ofNat_of_zero_le hx0
              have hxl : x < W.length := by omega
              have hcx := hW.cell x hxl
              have HN := hide (hP.out.step (show k < 6 by omega) HROW.out HX.out hxl)
              have hy := hP.out.2.1 W[x] (List.getElem_mem hxl)
              have hor := i64_or_nat W[x] (2 ^ k) (by omega) (by have := two_le (T := k) (by omega); omega)
              have hnw := hide (WordIn.set hW x (W[x] ||| 2 ^ k))
              have hw2 := wrap_two (T := k) (by omega)
              generalize W[x] ||| 2 ^ k = z at hor HN hnw
              generalize 2 ^ k = p at hor hw2
              clear hdl
              go_wp2_with fail
              have kd : Same wr wr.drew := Keeps.drew (Keeps.refl (fun _ => True) wr)
              have hcx1 := hcx.1
              refine wp_region_planz 23 (.take 0 (.take 1 (.take 2 (.take 3 (.take 4 (.take 5 (.take 6 (.take 7 (.take 8 (.take 9 (.take 10 (.take 11 (.take 12 (.take 13 (.take 14 (.take 15 (.take 16 (.take 17 (.take 18 (.take 19 (.take 20 (.take 21 (.take 22 .last))))))))))))))))))))))) (Same wr) (by kernel_rfl) (by kernel_rfl) kd ?_
              iterate 23
                (first
                   | (apply pz_pass
                      case ho => rfl
                      case hw => rfl
                      go_simp)
                   | (apply pz_take
                      case ho => rfl
                      case hw => rfl
                      case hv =>
                        intro w' hS
                        (have q0 := Keeps.cell hS hck trivial; have q1 := Keeps.cell hS hdk trivial; have q2 := Keeps.cell hS hcx1 trivial)
                        go_simp
                        exact rfl
                      go_simp))
              have hdr : wr.drew.cell? _ = _ := hcx.1
              have hfr : wr.drew.frozen? _ = _ := hcx.2
              refine pz_last rfl rfl fun K hK1 => ?_
              go_simp
              refine hK1 _ _ (np_normal ?_)
              clear hK1 K
              go_wp2_with fail
              go_roundw
              case rel => exact ⟨m + 1, _, by go_num, by omega, HN, by rw [show min k 64 = k by omega, hw2, hor]; exact hnw.out, (hK.setCell (fun h => absurd h.1 (by have := HBW.out; show ¬ b < w.heap.size; omega)) _).drew⟩
              case measure => simp [intOf]; omega
            · go_wp2_with fail
              go_roundw
              case rel => exact ⟨k + 1, W, by go_num, by omega, hide (hP.out.row HROW.out (by omega)), hW, hK⟩
              case measure => simp [intOf]; omega
        · go_wp2_with fail
          obtain rfl := HP.out _ _ _ hP.out
          exact HR.out _ _ b W rfl (hP.out.all (by omega)) hW HBW.out hK

end Go.Proofs.Ytbmpnfibebiaeaa
