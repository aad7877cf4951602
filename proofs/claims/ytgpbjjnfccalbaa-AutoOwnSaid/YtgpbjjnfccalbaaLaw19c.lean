/- The walk of AutoShared. -/
import Derived.Test.YtgpbjjnfccalbaaLaw19b
namespace Go.Proofs.Ytgpbjjnfccalbaa
open Go.RowKit

attribute [local irreducible] wpQuiet

variable {R : Ending → World → Prop} {w : World} {T : Nat} {L : List Nd}

/-- Two states that go alike have one node. -/
theorem roots_iff {roots : List Int} {next : List (List Int)} (hw : WF T L) (hro : RootsOk T L roots next) (hl : ∀ l ∈ next, l.length = 2 ^ T) {i k : Nat} {a b : Int} {l m : List Int}
    (ha : roots[i]? = some a) (hb : roots[k]? = some b) (hli : next[i]? = some l) (hlk : next[k]? = some m) : a = b ↔ l = m := by
  obtain ⟨p, rfl, hp, hvp⟩ := hro.2 i a l ha hli
  obtain ⟨q, rfl, hq, hvq⟩ := hro.2 k b m hb hlk
  have l1 := hl l (List.mem_of_getElem? hli)
  have l2 := hl m (List.mem_of_getElem? hlk)
  constructor
  · intro e
    obtain rfl : p = q := by exact_mod_cast e
    refine row_ext (by omega) fun x hx => ?_
    rw [← hvp x (by omega), ← hvq x (by omega)]
  · rintro rfl
    rw [canon_row hw hp hq fun c hc => by rw [hvp c hc, hvq c hc]]

/-- The root of a state that there is. -/
theorem dfaRootN {A : Au} {B d s : Nat} {va vr : Value} {roots : List Int} (h : DFAAt w B d A) (hin : DfaIn w B d s va vr A.T.toNat A.acc L roots) (hlen : L.length ≤ 127 * A.acc.length) (hro : RootsOk A.T.toNat L roots A.next) {i : Nat} {r : Int} (hr : roots[i]? = some r)
    (hR : ∀ e, e = .returned (.int .i64 r) → R e w) : Calls Try.prog 20 #[.pointer (some ⟨d, 0, none⟩), .int .i64 i] w R := by
  refine dfaRoot h hin hlen hro i fun e he => hR e ?_
  have hi := (List.getElem?_eq_some_iff.1 hr).1
  rw [hro.1, h.ok.1.2.2.2.2] at hi
  rw [he, if_pos (by simp [inA, hi])]
  simp [List.getD, hr]

set_option maxHeartbeats 2000000 in
theorem autoSharedWalk (v : Value) (A : Au) (w : World) (hA : AutoAt w v A) :
    Calls Try.prog 4 #[v] w fun e w' => e = .returned (.bool true) ∧ Below w.heap.size w w' := by
  refine law_of fun R HR => ?_
  have HA := hide hA
  obtain ⟨va, vn, rfl, hacc, hnext, hT⟩ := hA
  obtain ⟨aa, ac, rfl, hc1, hc2, _⟩ := hacc.open
  obtain ⟨na, nc, rfl, hd1, hd2, hcell⟩ := hnext.open
  unfold maxLen at hc2 hd2
  have HC := hide hcell
  have hk : Same w (w.alloc (.cells #[.int .i64 A.T, .slice aa A.acc.length ac, .slice na A.next.length nc] 25)) := (Keeps.refl _ w).alloc _
  have hbox := heap_new w (.cells #[.int .i64 A.T, .slice aa A.acc.length ac, .slice na A.next.length nc] 25)
  have HB := hide hbox
  have HK := hide hk
  clear hacc hnext hT hbox hk hcell
  cases hm : mayB A with
  | false =>
    go_enter Try.func4, Try.ntmps4
    go_wp2_with fail
    refine may19 (HA.out.same HK.out) ?_; rintro e w1 rfl k1
    rw [hm]
    go_wp2_with fail
    exact HR.out _ _ rfl ((HK.out.tr k1).mono fun _ _ _ => trivial)
  | true =>
    have HOK := hide (mayB_ok hm).2.2
    have HLN := hide (mayB_ok hm).1
    go_enter Try.func4, Try.ntmps4
    go_wp2_with fail
    refine may19 (HA.out.same HK.out) ?_; rintro e w1 rfl k1
    rw [hm]
    have b1 := k1.at HB.out trivial
    have HK1 := hide (HK.out.tr k1)
    clear k1
    have q0 := cell_at b1 0
    have q1 := cell_at b1 1
    have q2 := cell_at b1 2
    simp only [List.getElem?_toArray, List.getElem?_cons_zero, List.getElem?_cons_succ] at q0 q1 q2
    have B1 := hide b1
    clear b1
    go_wp2_with fail
    refine of19 (HA.out.same HK1.out) HOK.out ?_; rintro e w2 d rfl d2 k2
    clear q0 q1 q2
    have HK2 := hide (HK1.out.tr k2)
    have b2 := k2.at B1.out trivial
    clear k2
    have q1 := cell_at b2 1
    have q2 := cell_at b2 2
    simp only [List.getElem?_toArray, List.getElem?_cons_zero, List.getElem?_cons_succ] at q1 q2
    have Q1 := hide q1
    have Q2 := hide q2
    obtain ⟨dva, dvr, s, L, roots, hin, hLl, hro⟩ := d2.st
    have D2 := hide d2
    have HIN := hide hin
    have HLL := hide hLl
    have HRO := hide hro
    have HIFF := hide (fun (i k : Nat) (a b : Int) (l m : List Int) => roots_iff (i := i) (k := k) (a := a) (b := b) (l := l) (m := m) hin.store.wf hro (fun l hl => (HOK.out.2 l hl).1))
    have HRL : Hid (roots.length = A.acc.length) := hide (by rw [hro.1, HOK.out.1.2.2.2.2])
    have HNL := hide HOK.out.1.2.2.2.2
    clear b2 q1 q2 d2 hin hLl hro hm
    go_wp2_with fail
    go_loopw [4] (fun i wr => ∃ k : Nat, i = .int .i64 k ∧ k ≤ A.acc.length ∧ Same w2 wr) (fun i _ => A.acc.length - (intOf i).toNat)
    case atStart => exact ⟨0, rfl, Nat.zero_le _, Keeps.refl _ _⟩
    case round =>
      obtain ⟨i, rfl, hi, hK⟩ := hrel
      have q1 := Keeps.cell hK Q1.out trivial
      by_cases hlt : i < A.acc.length
      · have q2 := Keeps.cell hK Q2.out trivial
        go_wp2_with fail
        go_loopw [5] (fun k wr => ∃ m : Nat, k = .int .i64 m ∧ m ≤ i ∧ Same w2 wr) (fun k _ => i - (intOf k).toNat)
        case atStart => exact ⟨0, rfl, Nat.zero_le _, hK⟩
        case round =>
          clear q1 q2 hK
          obtain ⟨k, rfl, hk, hK⟩ := hrel
          by_cases hki : k < i
          · have q2 := Keeps.cell hK Q2.out trivial
            have hin' : i < A.next.length := by rw [HNL.out]; exact hlt
            have hkn' : k < A.next.length := by rw [HNL.out]; omega
            obtain ⟨bl, off, rfl, _, hcl⟩ := HC.out i hin'
            obtain ⟨u1, hu1, hiu1⟩ := hcl i hin'
            obtain ⟨u2, hu2, hiu2⟩ := hcl k hkn'
            have p1 := Keeps.cell (HK2.out.tr hK) hu1 trivial
            have p2 := Keeps.cell (HK2.out.tr hK) hu2 trivial
            have I1 := hide (hiu1.same (HK2.out.tr hK))
            have I2 := hide (hiu2.same (HK2.out.tr hK))
            have hri : i < roots.length := by rw [HRL.out]; exact hlt
            have hrk : k < roots.length := by rw [HRL.out]; omega
            have hr1 : roots[i]? = some roots[i] := List.getElem?_eq_getElem hri
            have hr2 : roots[k]? = some roots[k] := List.getElem?_eq_getElem hrk
            have hiff := HIFF.out i k _ _ _ _ hr1 hr2 (List.getElem?_eq_getElem hin') (List.getElem?_eq_getElem hkn')
            obtain ⟨ua1, uc1, rfl, _⟩ := hiu1.open
            obtain ⟨ua2, uc2, rfl, _⟩ := hiu2.open
            have R1 := hide hr1
            have R2 := hide hr2
            clear hcl hu1 hu2 hiu1 hiu2 hr1 hr2
            generalize A.next[i] = row1 at p1 I1 hiff
            generalize A.next[k] = row2 at p2 I2 hiff
            generalize roots[i] = r1 at R1 hiff
            generalize roots[k] = r2 at R2 hiff
            clear hri hrk
            have hEQ : (!((r1 == r2) == decide (row1 = row2))) = false := by
              by_cases e : row1 = row2
              · simp [e, hiff.2 e]
              · have : r1 ≠ r2 := fun h => e (hiff.1 h)
                simp [e, this]
            have D3 := hide (D2.out.same hK)
            have HIN3 := hide (HIN.out.same hK)
            have HKr := hide hK
            clear hiff
            go_wp2_with fail
            refine wp_region_same (by kernel_rfl) (by kernel_rfl) ?_
            iterate 19
              (apply wpQuiet_step
               intro K hK
               first
                 | (apply quiet_skip
                    case hw => rfl
                    go_simp
                    refine hK _ ?_; clear hK K)
                 | (apply quiet_do
                    case hw => rfl
                    case h =>
                      intro w' hw'
                      (have z2 := Keeps.cell hw' q2 trivial; have z3 := Keeps.cell hw' p1 trivial; have z4 := Keeps.cell hw' p2 trivial)
                      go_simp
                      first | exact rfl | (first | (go_at_call 20; first | exact dfaRootN (D3.out.same hw') (HIN3.out.same hw') HLL.out HRO.out R1.out (fun e he => ⟨he, hw'⟩) | exact dfaRootN (D3.out.same hw') (HIN3.out.same hw') HLL.out HRO.out R2.out (fun e he => ⟨he, hw'⟩)) | (go_at_call 21; exact sameInts (I1.out.same hw') (I2.out.same hw') (fun e w'' he hk => ⟨he, hw'.tr hk⟩)))
                    go_simp
                    refine hK _ ?_; clear hK K))
            apply wpQuiet_nil
            intro w3 k3
            have HK3 := hide (HKr.out.tr k3)
            clear k3 q2 p1 p2 hK
            go_wp2_with fail
            go_roundw
            case rel => exact ⟨k + 1, by go_num, by omega, HK3.out⟩
            case measure => simp [intOf]; omega
          · go_wp2_with fail
            go_roundw
            case rel => exact ⟨i + 1, by go_num, by omega, hK⟩
            case measure => simp [intOf]; omega
      · go_wp2_with fail
        refine known19 ?_; rintro e w5 rfl k5
        go_wp2_with fail
        exact HR.out _ _ rfl (((HK2.out.tr hK).tr k5).mono fun _ _ _ => trivial)

end Go.Proofs.Ytgpbjjnfccalbaa
