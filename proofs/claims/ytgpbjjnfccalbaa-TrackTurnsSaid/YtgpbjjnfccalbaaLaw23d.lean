/- The walk of TrackTurns. -/
import Derived.Test.YtgpbjjnfccalbaaLaw23
import Derived.Test.YtgpbjjnfccalbaaRef23b
namespace Go.Proofs.Ytgpbjjnfccalbaa
open Go.RowKit

attribute [local irreducible] wpQuiet wpPlan wpPlanZ wpUp

variable {R : Ending → World → Prop} {w : World} {A : Au}

/-- 'append([]int{}, u...)'. -/
theorem copyInts {u : Value} {l : List Int} (hu : IntsAt w u l) (hl : l.length ≤ 1000) :
    ∃ v' w', (Builtin.append_ #[26, 26] 26 #[.slice (some ⟨w.heap.size, 0, none⟩) 0 0, u]).run Try.prog (w.alloc (.cells #[] 3)) = .ok v' w' ∧ OwnInts w' w.heap.size v' l ∧ Same w w' := by
  obtain ⟨v', w', hr, ho, hk, _⟩ := append_slice (t := 26) Try.underlying26 int_info rfl (by decide) (own_nil w 3 (Nat.le_refl _)) (SliceAt.same hu.1 ((Keeps.refl _ w).alloc _)) (by intro x hx; obtain ⟨y, _, rfl⟩ := List.mem_map.1 hx; rfl) (by simp) (by simp; omega)
  exact ⟨v', w', hr, by simpa [OwnInts] using ho, ((Keeps.refl _ w).alloc _).trans hk fun x hx _ => ⟨trivial, by simp [Value.ownBlock]; omega⟩⟩

set_option maxRecDepth 10000 in
set_option maxHeartbeats 4000000 in
theorem trackTurnsWalk (v : Value) (A : Au) (u : Value) (l : List Int) (w : World) (hA : AutoAt w v A) (hv : IntsAt w u l) :
    Calls Try.prog 12 #[v, u] w fun e w' => e = .returned (.bool true) ∧ Below w.heap.size w w' := by
  refine law_of fun R HR => ?_
  have HA := hide hA
  have HV := hide hv
  obtain ⟨va, vn, rfl, hacc, hnext, hT⟩ := hA
  obtain ⟨aa, ac, rfl, _⟩ := hacc.open
  obtain ⟨na, nc, rfl, _⟩ := hnext.open
  obtain ⟨pa, pc, rfl, he1, he2, _⟩ := hv.open
  unfold maxLen at he2
  have hk : Same w (w.alloc (.cells #[.int .i64 A.T, .slice aa A.acc.length ac, .slice na A.next.length nc] 25)) := (Keeps.refl _ w).alloc _
  have hbox := heap_new w (.cells #[.int .i64 A.T, .slice aa A.acc.length ac, .slice na A.next.length nc] 25)
  have HB := hide hbox
  have HK := hide hk
  clear hacc hnext hT hbox hk hv
  cases hm : mayB A with
  | false =>
    go_enter Try.func12, Try.ntmps12
    go_wp2_with fail
    refine may23 (HA.out.same HK.out) ?_; rintro e w1 rfl k1
    rw [hm]
    go_wp2_with fail
    exact HR.out _ _ rfl ((HK.out.tr k1).mono fun _ _ _ => trivial)
  | true =>
   by_cases hl20 : 20 < l.length
   · go_enter Try.func12, Try.ntmps12
     go_wp2_with fail
     refine may23 (HA.out.same HK.out) ?_; rintro e w1 rfl k1
     rw [hm]
     go_wp2_with fail
     exact HR.out _ _ rfl ((HK.out.tr k1).mono fun _ _ _ => trivial)
   ·
    have HOK := hide (mayB_ok hm).2.2
    go_enter Try.func12, Try.ntmps12
    go_wp2_with fail
    refine may23 (HA.out.same HK.out) ?_; rintro e w1 rfl k1
    rw [hm]
    have b1 := k1.at HB.out trivial
    have HK1 := hide (HK.out.tr k1)
    clear k1 hm
    have q0 := cell_at b1 0
    have q1 := cell_at b1 1
    have q2 := cell_at b1 2
    simp only [List.getElem?_toArray, List.getElem?_cons_zero, List.getElem?_cons_succ] at q0 q1 q2
    have B1 := hide b1
    clear b1
    go_wp2_with fail
    refine of23 (HA.out.same HK1.out) HOK.out ?_; rintro e w2 d rfl d2 k2
    clear q0 q1 q2
    have HK2 := hide (HK1.out.tr k2)
    have D2 := hide d2
    have b2 := k2.at B1.out trivial
    have B2 := hide b2
    clear k2 d2 b2
    obtain ⟨v2, w2c, hr, ho2, hkc⟩ := copyInts (HV.out.same HK2.out) (by omega)
    have HKC := hide hkc
    have HPV := hide (ho2.ints HV.out.2)
    have D2 := hide (D2.out.same hkc)
    have HK2 := hide (HK2.out.tr hkc)
    have B2 := hide (hkc.at B2.out trivial)
    clear hkc
    obtain ⟨va2, vc2, rfl⟩ := ho2.shape
    clear ho2
    go_wp2_with (at_builtin; refine wpList_append_run rfl _ _ _ rfl rfl rfl hr ?_; clear hr)
    by_cases hyes : (l.length : Int) = A.T ∧ permB l = true
    · have HTT := hide hyes
      clear hyes
      refine trackTurn D2.out HPV.out HTT.out.1 HTT.out.2 ?_; rintro e w3 d3 rfl dd3 k3
      have HK3 := hide (HK2.out.tr k3)
      have D3 := hide dd3
      have b3 := k3.at B2.out trivial
      clear k3 dd3
      have q0 := cell_at b3 0
      have q1 := cell_at b3 1
      have q2 := cell_at b3 2
      simp only [List.getElem?_toArray, List.getElem?_cons_zero, List.getElem?_cons_succ] at q0 q1 q2
      clear b3
      go_wp2_with fail
      refine refTurn (HA.out.same HK3.out) HOK.out (HV.out.same HK3.out) HTT.out.1 HTT.out.2 ?_; rintro e w4 u4 rfl a4 k4
      have HK4 := hide (HK3.out.tr k4)
      have D4 := hide (D3.out.same k4)
      have A4 := hide a4
      obtain ⟨ya, yn, rfl, yacc, ynext, _⟩ := a4
      obtain ⟨ya, yc, rfl, _⟩ := yacc.open
      obtain ⟨yb, yd, rfl, _⟩ := ynext.open
      clear k4 q0 q1 q2 yacc ynext
      go_wp2_with fail
      generalize turnAu A l.length (tb (l.map Int.toNat)) = A' at A4 D3 D4 ⊢
      have hb5 := heap_new w4 (.cells #[.int .i64 A'.T, .slice ya A'.acc.length yc, .slice yb A'.next.length yd] 25)
      have k5 : Same w4 (w4.alloc (.cells #[.int .i64 A'.T, .slice ya A'.acc.length yc, .slice yb A'.next.length yd] 25)) := (Keeps.refl _ w4).alloc _
      generalize w4.alloc (.cells #[.int .i64 A'.T, .slice ya A'.acc.length yc, .slice yb A'.next.length yd] 25) = w5 at hb5 k5 ⊢
      have q0 := cell_at hb5 0
      have q1 := cell_at hb5 1
      have q2 := cell_at hb5 2
      simp only [List.getElem?_toArray, List.getElem?_cons_zero, List.getElem?_cons_succ] at q0 q1 q2
      have HK5 := hide (HK4.out.tr k5)
      have D5 := hide (D4.out.same k5)
      have A5 := hide (A4.out.same k5)
      clear hb5 k5
      have kd : Same w5 w5.drew := Keeps.drew (Keeps.refl (fun _ => True) w5)
      refine wp_region_plan (.take 0 (.take 1 (.take 2 (.take 3 (.take 4 (.take 5 (.take 6 (.take 7 (.take 9 (.one 8 (.one 10 (.take 11 (.take 12 (.one 13 (.take 14 (.take 15 .done)))))))))))))))) (Same w5) (by kernel_rfl) (by kernel_rfl) kd ?_
      iterate 9
        (apply pl_take
         case ho => rfl
         case hw => rfl
         case hv =>
           intro w' hw'
           have z0 := Keeps.cell hw' q0 trivial
           have z1 := Keeps.cell hw' q1 trivial
           have z2 := Keeps.cell hw' q2 trivial
           go_simp
           exact rfl
         go_simp)
      refine pl_one (up_do rfl rfl fun K hK1 => ?_)
      go_simp
      refine dfaTo (D5.out.same kd) ?_; rintro e w6 u6 rfl o6 k6
      have A6 := hide (o6.auto D5.out.ok)
      obtain ⟨_, _, rfl, _, _⟩ := o6
      refine hK1 (Same w5) _ _ (kd.tr k6) (fun _ h => h) ?_
      clear hK1 K
      refine pl_one (up_do rfl rfl fun K hK1 => ?_)
      go_simp
      refine refSameA A6.out (A5.out.same (kd.tr k6)) ?_; rintro e w7 rfl k7
      refine hK1 (Same w5) _ _ ((kd.tr k6).tr k7) (fun _ h => h) ?_
      clear hK1 K
      iterate 2
        (apply pl_take
         case ho => rfl
         case hw => rfl
         case hv => intro w' hw'; go_simp; exact rfl
         go_simp)
      refine pl_one (up_do rfl rfl fun K hK1 => ?_)
      go_simp
      refine known23 ?_; rintro e w8 rfl k8
      have HK8 := hide ((kd.tr k6).tr (k7.tr k8))
      refine hK1 (Same w5) _ _ HK8.out (fun _ h => h) ?_
      clear hK1 K
      iterate 2
        (apply pl_take
         case ho => rfl
         case hw => rfl
         case hv => intro w' hw'; go_simp; exact rfl
         go_simp)
      refine pl_done ?_
      go_wp2_with fail
      exact HR.out _ _ rfl ((HK5.out.tr HK8.out).mono fun _ _ _ => trivial)
    · have HNO := hide hyes
      clear hyes
      refine trackTurnNot D2.out HPV.out HNO.out ?_; rintro e w3 rfl k3
      have HK3 := hide (HK2.out.tr k3)
      have b3 := k3.at B2.out trivial
      clear k3
      have q0 := cell_at b3 0
      have q1 := cell_at b3 1
      have q2 := cell_at b3 2
      simp only [List.getElem?_toArray, List.getElem?_cons_zero, List.getElem?_cons_succ] at q0 q1 q2
      clear b3
      go_wp2_with fail
      refine refTurnNot (HA.out.same HK3.out) HOK.out (HV.out.same HK3.out) HNO.out ?_; rintro e w4 rfl k4
      have HK4 := hide (HK3.out.tr k4)
      clear k4 q0 q1 q2
      go_wp2_with fail
      refine known23 ?_; rintro e w8 rfl k8
      go_wp2_with fail
      exact HR.out _ _ rfl (((HK4.out.alloc _).tr k8).mono fun _ _ _ => trivial)

end Go.Proofs.Ytgpbjjnfccalbaa
