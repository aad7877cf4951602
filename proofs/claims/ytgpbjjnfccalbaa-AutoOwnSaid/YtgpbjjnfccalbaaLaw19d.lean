/- The walk of AutoSteps. -/
import Derived.Test.YtgpbjjnfccalbaaLaw19c
namespace Go.Proofs.Ytgpbjjnfccalbaa
open Go.RowKit

attribute [local irreducible] wpQuiet wpPlan wpPlanZ wpUp

variable {R : Ending → World → Prop} {w : World} {T : Nat} {L : List Nd}

theorem dfaStoreN {B d s : Nat} {va vr : Value} {acc : List Bool} {roots : List Int} (hin : DfaIn w B d s va vr T acc L roots)
    (hR : ∀ e, e = .returned (.pointer (some ⟨s, 0, none⟩)) → R e w) : Calls Try.prog 24 #[.pointer (some ⟨d, 0, none⟩)] w R := by
  have HR := hide (hR _ rfl)
  clear hR
  have c2 := cell_at hin.blk 2
  simp only [List.getElem?_toArray, List.getElem?_cons_zero, List.getElem?_cons_succ] at c2
  clear hin
  go_enter Try.func24, Try.ntmps24
  go_wp2_with fail
  exact HR.out

/-- A state's row is what its node gives. -/
theorem rowA_root {next : List (List Int)} {roots : List Int} (hro : RootsOk T L roots next) (hl : ∀ l ∈ next, l.length = 2 ^ T) {i : Nat} {r : Int} {l : List Int} (hr : roots[i]? = some r) (hli : next[i]? = some l) : rowA T L r = l := by
  obtain ⟨p, rfl, hp, hvp⟩ := hro.2 i r l hr hli
  have l1 := hl l (List.mem_of_getElem? hli)
  unfold rowA
  rw [if_pos ⟨by omega, by omega⟩, Int.toNat_natCast]
  refine row_ext (by simp [l1]) fun x hx => ?_
  simp only [List.length_map, List.length_range] at hx
  rw [← hvp x hx]
  simp [List.getD, hx]

theorem step_out {A : Au} {s c : Int} (h : ¬ (0 ≤ s ∧ s < (A.acc.length : Int))) : stepA A s c = -1 := by
  unfold stepA
  rw [if_neg]
  rintro ⟨h1, _⟩
  exact h (by simpa [inA] using h1)

theorem step_off {A : Au} {s c : Int} (h : ¬ (0 ≤ c ∧ c < 2 ^ A.T.toNat)) : stepA A s c = -1 := by
  unfold stepA
  rw [if_neg (fun hh => h hh.2)]

set_option maxRecDepth 10000 in
set_option maxHeartbeats 4000000 in
theorem autoStepsWalk (v : Value) (A : Au) (st letter : Int) (w : World) (hA : AutoAt w v A) (hst : InI64 st) (hle : InI64 letter) :
    Calls Try.prog 5 #[v, .int .i64 st, .int .i64 letter] w fun e w' => e = .returned (.bool true) ∧ Below w.heap.size w w' := by
  refine law_of fun R HR => ?_
  have HA := hide hA
  obtain ⟨va, vn, rfl, hacc, hnext, hT⟩ := hA
  obtain ⟨aa, ac, rfl, hc1, hc2, hacell⟩ := hacc.open
  obtain ⟨na, nc, rfl, hd1, hd2, hcell⟩ := hnext.open
  unfold maxLen at hc2 hd2
  unfold InI64 at hst hle
  have HAC := hide hacell
  have HC := hide hcell
  have hk : Same w (w.alloc (.cells #[.int .i64 A.T, .slice aa A.acc.length ac, .slice na A.next.length nc] 25)) := (Keeps.refl _ w).alloc _
  have hbox := heap_new w (.cells #[.int .i64 A.T, .slice aa A.acc.length ac, .slice na A.next.length nc] 25)
  have HB := hide hbox
  have HK := hide hk
  clear hacc hnext hT hbox hk hcell hacell
  cases hm : mayB A with
  | false =>
    go_enter Try.func5, Try.ntmps5
    go_wp2_with fail
    refine may19 (HA.out.same HK.out) ?_; rintro e w1 rfl k1
    rw [hm]
    go_wp2_with fail
    exact HR.out _ _ rfl ((HK.out.tr k1).mono fun _ _ _ => trivial)
  | true =>
    have HOK := hide (mayB_ok hm).2.2
    have HLN := hide (mayB_ok hm).1
    go_enter Try.func5, Try.ntmps5
    go_wp2_with fail
    refine may19 (HA.out.same HK.out) ?_; rintro e w1 rfl k1
    rw [hm]
    have b1 := k1.at HB.out trivial
    have HK1 := hide (HK.out.tr k1)
    clear k1
    have q0 := cell_at b1 0
    have q1 := cell_at b1 1
    have q2 := cell_at b1 2
    simp only [List.getElem?_toArray, List.getElem?_cons_zero, List.getElem?_cons_succ] at q0 q1 q2
    have B1 := hide b1
    clear b1
    go_wp2_with fail
    refine of19 (HA.out.same HK1.out) HOK.out ?_; rintro e w2 d rfl d2 k2
    clear q0 q1 q2
    have HK2 := hide (HK1.out.tr k2)
    have b2 := k2.at B1.out trivial
    clear k2
    have q0 := cell_at b2 0
    have q1 := cell_at b2 1
    have q2 := cell_at b2 2
    simp only [List.getElem?_toArray, List.getElem?_cons_zero, List.getElem?_cons_succ] at q0 q1 q2
    have Q1 := hide q1
    have Q2 := hide q2
    obtain ⟨dva, dvr, s, L, roots, hin, hLl, hro⟩ := d2.st
    have D2 := hide d2
    have HIN := hide hin
    have HLL := hide hLl
    have HRO := hide hro
    have HTT : Hid (((A.T.toNat : Nat) : Int) = A.T) := hide (Int.toNat_of_nonneg HOK.out.1.1)
    have HROW := hide (fun (i : Nat) (r : Int) (l : List Int) => rowA_root (i := i) (r := r) (l := l) hro (fun l hl => (HOK.out.2 l hl).1))
    have HRL : Hid (roots.length = A.acc.length) := hide (by rw [hro.1, HOK.out.1.2.2.2.2])
    have HNL := hide HOK.out.1.2.2.2.2
    clear b2 d2 hin hLl hro hm
    go_wp2_with fail
    refine wp_region_same (by kernel_rfl) (by kernel_rfl) ?_
    iterate 30
      (apply wpQuiet_step
       intro K hK
       first
         | (apply quiet_skip
            case hw => rfl
            go_simp
            refine hK _ ?_; clear hK K)
         | (apply quiet_do
            case hw => rfl
            case h =>
              intro w' hw'
              (have z0 := Keeps.cell hw' q0 trivial; have z1 := Keeps.cell hw' q1 trivial)
              go_simp
              first | exact rfl | (first | (go_at_call 22; exact dfaStates (D2.out.same hw') (fun e he => ⟨he, hw'⟩)) | (go_at_call 23; exact dfaTracks (D2.out.same hw') (fun e he => ⟨he, hw'⟩)) | (go_at_call 24; exact dfaStoreN (HIN.out.same hw') (fun e he => ⟨he, hw'⟩)) | (go_at_call 25; exact storeTracks (HIN.out.store.same hw') (fun e he => ⟨by rw [HTT.out] at he; exact he, hw'⟩)))
            go_simp
            refine hK _ ?_; clear hK K))
    apply wpQuiet_nil
    intro w3 k3
    have HK3 := hide k3
    clear q0 q1 q2 k3
    go_wp2_with fail
    go_loopw [8] (fun i wr => ∃ k : Nat, i = .int .i64 k ∧ k ≤ A.acc.length ∧ Same w2 wr) (fun i _ => A.acc.length - (intOf i).toNat)
    case atStart => exact ⟨0, rfl, Nat.zero_le _, HK3.out⟩
    case round =>
      obtain ⟨i, rfl, hi, hK⟩ := hrel
      have q1 := Keeps.cell hK Q1.out trivial
      have q2 := Keeps.cell hK Q2.out trivial
      by_cases hlt : i < A.acc.length
      · have hin' : i < A.next.length := by rw [HNL.out]; exact hlt
        obtain ⟨bl, off, rfl, _, hcl⟩ := HC.out i hin'
        obtain ⟨u1, hu1, hiu1⟩ := hcl i hin'
        obtain ⟨ba, boff, rfl, _, hbl⟩ := HAC.out i hlt
        have p1 := Keeps.cell (HK2.out.tr hK) hu1 trivial
        have p0 := Keeps.cell (HK2.out.tr hK) (hbl i hlt) trivial
        have I1 := hide (hiu1.same (HK2.out.tr hK))
        have hri : i < roots.length := by rw [HRL.out]; exact hlt
        have hr1 : roots[i]? = some roots[i] := List.getElem?_eq_getElem hri
        have HRA := hide (HROW.out i _ _ hr1 (List.getElem?_eq_getElem hin'))
        have HAE : Hid (accA A (i : Int) = A.acc[i]) := hide (by simp [accA, inA, hlt, List.getD])
        obtain ⟨ua1, uc1, rfl, _⟩ := hiu1.open
        have R1 := hide hr1
        clear hcl hu1 hiu1 hr1 hbl
        generalize A.next[i] = row1 at p1 I1 HRA
        generalize A.acc[i] = bb at p0 HAE
        generalize roots[i] = r1 at R1 HRA
        clear hri
        have D3 := hide (D2.out.same hK)
        have HIN3 := hide (HIN.out.same hK)
        have HKr := hide hK
        clear hK
        go_wp2_with fail
        refine wp_region_plan (.take 0 (.take 1 (.take 3 (.take 4 (.take 5 (.take 6 (.take 7 (.one 2 (.take 8 (.take 9 (.take 10 (.take 12 (.take 13 (.take 16 (.take 17 (.take 18 (.take 19 (.take 20 (.one 11 (.one 14 (.one 15 (.one 21 (.take 22 (.take 23 .done)))))))))))))))))))))))) (Same wr) (by kernel_rfl) (by kernel_rfl) (Keeps.drew (Keeps.refl (fun _ => True) wr)) ?_
        iterate 7
          (apply pl_take
           case ho => rfl
           case hw => rfl
           case hv =>
             intro w' hw'
             have z1 := Keeps.cell hw' q1 trivial
             have z2 := Keeps.cell hw' p0 trivial
             go_simp
             exact rfl
           go_simp)
        refine pl_one (up_do rfl rfl fun K hK1 => ?_)
        go_simp
        refine dfaAccepts (D3.out.same (Keeps.drew (Keeps.refl (fun _ => True) wr))) i ?_; rintro e rfl
        rw [HAE.out]
        refine hK1 (Same wr) _ _ (Keeps.drew (Keeps.refl (fun _ => True) wr)) (fun _ h => h) ?_
        clear hK1 K
        iterate 10
          (apply pl_take
           case ho => rfl
           case hw => rfl
           case hv =>
             intro w' hw'
             have z1 := Keeps.cell hw' q2 trivial
             have z2 := Keeps.cell hw' p1 trivial
             go_simp
             exact rfl
           go_simp)
        have kd : Same wr wr.drew := Keeps.drew (Keeps.refl (fun _ => True) wr)
        refine pl_one (up_do rfl rfl fun K hK1 => ?_)
        go_simp
        refine dfaStoreN (HIN3.out.same kd) ?_; rintro e rfl
        refine hK1 (Same wr) _ _ kd (fun _ h => h) ?_
        clear hK1 K
        refine pl_one (up_do rfl rfl fun K hK1 => ?_)
        go_simp
        refine dfaRootN (D3.out.same kd) (HIN3.out.same kd) HLL.out HRO.out R1.out ?_; rintro e rfl
        refine hK1 (Same wr) _ _ kd (fun _ h => h) ?_
        clear hK1 K
        refine pl_one (up_do rfl rfl fun K hK1 => ?_)
        go_simp
        refine storeRow (HIN3.out.store.same kd) r1 ?_; rintro e w4 u4 rfl o4 k4
        rw [HRA.out] at o4
        obtain ⟨ub4, uc4, rfl⟩ := o4.shape
        refine hK1 (Same wr) _ _ (kd.tr k4) (fun _ h => h) ?_
        clear hK1 K
        refine pl_one (up_do rfl rfl fun K hK1 => ?_)
        go_simp
        refine sameInts (o4.ints I1.out.2) (I1.out.same (kd.tr k4)) ?_; rintro e w5 rfl k5
        rw [show decide (row1 = row1) = true by simp]
        have HK5 := hide ((HKr.out.tr kd).tr (k4.tr k5))
        refine hK1 (Same wr) _ _ ((kd.tr k4).tr k5) (fun _ h => h) ?_
        clear hK1 K
        iterate 2
          (apply pl_take
           case ho => rfl
           case hw => rfl
           case hv => intro w' hw'; go_simp; exact rfl
           go_simp)
        refine pl_done ?_
        clear o4 k4 k5 kd q1 q2 p0 p1
        go_wp2_with fail
        go_roundw
        case rel => exact ⟨i + 1, by go_num, by omega, HK5.out⟩
        case measure => simp [intOf]; omega
      · have HKr := hide hK
        clear hK
        by_cases hin2 : 0 ≤ st ∧ st < (A.acc.length : Int)
        · obtain ⟨m, rfl⟩ := Int.eq_ofNat_of_zero_le hin2.1
          have hml : m < A.acc.length := by omega
          have hmn : m < A.next.length := by rw [HNL.out]; exact hml
          obtain ⟨bl, off, rfl, _, hcl⟩ := HC.out m hmn
          obtain ⟨u1, hu1, hiu1⟩ := hcl m hmn
          have p1 := Keeps.cell (HK2.out.tr HKr.out) hu1 trivial
          obtain ⟨ua1, uc1, rfl, hf1, hf2, hrcell⟩ := hiu1.open
          unfold maxLen at hf2
          have HRC := hide hrcell
          have HLE : Hid ((A.next[m]).length = 2 ^ A.T.toNat) := hide (HOK.out.2 _ (List.getElem_mem hmn)).1
          have HGT : Hid (A.next.getD ((m : Int)).toNat [] = A.next[m]) := hide (by simp [List.getD, List.getElem?_eq_getElem hmn])
          have HIA : Hid (inA A (m : Int) = true) := hide (by simp [inA, hml])
          clear hcl hu1 hiu1 hrcell hin2
          generalize A.next[m] = row at p1 hf1 HRC HLE HGT
          by_cases hc0 : letter < 0
          · have HSO := hide (step_off (A := A) (s := (m : Int)) (c := letter) (fun h => by omega))
            go_wp2_with fail
            refine dfaStep (D2.out.same HKr.out) _ _ ?_; rintro e w4 rfl k4
            rw [HSO.out]
            go_wp2_with fail
            refine known19 ?_; rintro e w5 rfl k5
            go_wp2_with fail
            exact HR.out _ _ rfl ((((HK2.out.tr HKr.out).tr k4).tr k5).mono fun _ _ _ => trivial)
          · obtain ⟨j, rfl⟩ := Int.eq_ofNat_of_zero_le (show 0 ≤ letter by omega)
            by_cases hjl : j < row.length
            · obtain ⟨rb, roff, rfl, _, hrcl⟩ := HRC.out j hjl
              have p2 := Keeps.cell (HK2.out.tr HKr.out) (hrcl j hjl) trivial
              have HSO : Hid (stepA A (m : Int) (j : Int) = row[j]) := hide (by
                unfold stepA
                rw [if_pos ⟨HIA.out, by omega, by rw [HLE.out] at hjl; exact_mod_cast hjl⟩, HGT.out, Int.toNat_natCast]
                simp [List.getD, List.getElem?_eq_getElem hjl])
              clear hrcl
              generalize row[j] = x at p2 HSO
              go_wp2_with fail
              refine dfaStep (D2.out.same HKr.out) _ _ ?_; rintro e w4 rfl k4
              rw [HSO.out]
              go_wp2_with fail
              refine known19 ?_; rintro e w5 rfl k5
              go_wp2_with fail
              exact HR.out _ _ rfl ((((HK2.out.tr HKr.out).tr k4).tr k5).mono fun _ _ _ => trivial)
            · have HSO := hide (step_off (A := A) (s := (m : Int)) (c := (j : Int)) (fun h => hjl (by rw [HLE.out]; exact_mod_cast h.2)))
              go_wp2_with fail
              refine dfaStep (D2.out.same HKr.out) _ _ ?_; rintro e w4 rfl k4
              rw [HSO.out]
              go_wp2_with fail
              refine known19 ?_; rintro e w5 rfl k5
              go_wp2_with fail
              exact HR.out _ _ rfl ((((HK2.out.tr HKr.out).tr k4).tr k5).mono fun _ _ _ => trivial)
        · have HSO := hide (step_out (A := A) (s := st) (c := letter) hin2)
          have HIA : Hid (inA A st = false) := hide (by
            cases h : inA A st with
            | false => rfl
            | true => exact absurd (by simpa [inA] using h) hin2)
          have HAC2 : Hid (accA A st = false) := hide (by unfold accA; rw [HIA.out]; rfl)
          have hcase : st < 0 ∨ (A.acc.length : Int) ≤ st := by omega
          clear hin2
          rcases hcase with hs | hs
          all_goals
            go_wp2_with fail
            refine dfaStep (D2.out.same HKr.out) _ _ ?_; rintro e w4 rfl k4
            rw [HSO.out]
            have K4 := hide (HKr.out.tr k4)
            clear k4
            go_wp2_with fail
            refine dfaAccepts (D2.out.same K4.out) _ ?_; rintro e rfl
            rw [HAC2.out]
            go_wp2_with fail
            refine dfaRoot (D2.out.same K4.out) (HIN.out.same K4.out) HLL.out HRO.out _ ?_; rintro e rfl
            rw [HIA.out, if_neg (by decide)]
            go_wp2_with fail
            refine known19 ?_; rintro e w5 rfl k5
            go_wp2_with fail
            exact HR.out _ _ rfl (((HK2.out.tr K4.out).tr k5).mono fun _ _ _ => trivial)

end Go.Proofs.Ytgpbjjnfccalbaa
