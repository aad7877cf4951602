/- The walk of AutoIs. -/
import Derived.Test.YtgpbjjnfccalbaaTo
import Derived.Test.YtgpbjjnfccalbaaSame19
namespace Go.Proofs.Ytgpbjjnfccalbaa
open Go.RowKit

attribute [local irreducible] wpQuiet wpPlan wpPlanZ wpUp

variable {R : Ending → World → Prop} {w : World} {A : Au}

set_option maxRecDepth 10000 in
set_option maxHeartbeats 4000000 in
theorem autoIsWalk (v : Value) (A : Au) (w : World) (hA : AutoAt w v A) :
    Calls Try.prog 8 #[v] w fun e w' => e = .returned (.bool true) ∧ Below w.heap.size w w' := by
  refine law_of fun R HR => ?_
  have HA := hide hA
  obtain ⟨va, vn, rfl, hacc, hnext, hT⟩ := hA
  obtain ⟨aa, ac, rfl, hc1, hc2, _⟩ := hacc.open
  obtain ⟨na, nc, rfl, hd1, hd2, hcell⟩ := hnext.open
  unfold maxLen at hc2 hd2
  have HC := hide hcell
  have hk : Same w (w.alloc (.cells #[.int .i64 A.T, .slice aa A.acc.length ac, .slice na A.next.length nc] 25)) := (Keeps.refl _ w).alloc _
  have hbox := heap_new w (.cells #[.int .i64 A.T, .slice aa A.acc.length ac, .slice na A.next.length nc] 25)
  have c0 := cell_at hbox 0
  have c1 := cell_at hbox 1
  have c2 := cell_at hbox 2
  simp only [List.getElem?_toArray, List.getElem?_cons_zero, List.getElem?_cons_succ] at c0 c1 c2
  clear hacc hnext hT hbox hcell
  by_cases h1 : 450 < A.acc.length
  · go_enter Try.func8, Try.ntmps8
    go_wp2_with fail
    all_goals exact HR.out _ _ rfl (hk.mono fun _ _ _ => trivial)
  · by_cases h2 : 450 < A.next.length
    · go_enter Try.func8, Try.ntmps8
      go_wp2_with fail
      all_goals exact HR.out _ _ rfl (hk.mono fun _ _ _ => trivial)
    · have hmul : A.acc.length * A.next.length ≤ 202500 := Nat.le_trans (Nat.mul_le_mul (show A.acc.length ≤ 450 by omega) (show A.next.length ≤ 450 by omega)) (by decide)
      have hmi : ((A.acc.length : Int) * (A.next.length : Int)) = ((A.acc.length * A.next.length : Nat) : Int) := by simp
      generalize A.acc.length * A.next.length = mm at hmul hmi
      by_cases h3 : 40000 < mm
      · go_enter Try.func8, Try.ntmps8
        go_wp2_with fail
        all_goals exact HR.out _ _ rfl (hk.mono fun _ _ _ => trivial)
      · go_enter Try.func8, Try.ntmps8
        go_wp2_with fail
        generalize w.alloc (.cells #[.int .i64 A.T, .slice aa A.acc.length ac, .slice na A.next.length nc] 25) = w1 at c0 c1 c2 hk ⊢
        have C0 := hide c0
        have C1 := hide c1
        have C2 := hide c2
        have HK := hide hk
        clear c0 c1 c2 hk
        go_loopw [3] (fun i wr => ∃ k : Nat, i = .int .i64 k ∧ k ≤ A.next.length ∧ wr = w1) (fun i _ => A.next.length - (intOf i).toNat)
        case atStart => exact ⟨0, rfl, Nat.zero_le _, rfl⟩
        case round =>
          obtain ⟨k, rfl, hk, rfl⟩ := hrel
          have q0 := C0.out
          have q1 := C1.out
          have q2 := C2.out
          by_cases hlt : k < A.next.length
          · obtain ⟨bl, off, rfl, hbl, hcl⟩ := HC.out k hlt
            obtain ⟨u, hu, hiu⟩ := hcl k hlt
            obtain ⟨ua, uc, rfl, he1, he2, _⟩ := hiu.open
            have hck := Keeps.cell HK.out hu trivial
            unfold maxLen at he2
            generalize A.next[k] = row at hck he1
            clear hcl hu hiu
            by_cases h100 : 100 < row.length
            · go_wp2_with fail
              exact HR.out _ _ rfl (HK.out.mono fun _ _ _ => trivial)
            · go_wp2_with fail
              go_roundw
              case rel => exact ⟨k + 1, by go_num, by omega, by trivial⟩
              case measure => simp [intOf]; omega
          · by_cases hok : AuOk A
            · have HOK := hide hok
              have hdec : decide (AuOk A) = true := by simpa using hok
              clear hok
              go_wp2_with fail
              refine autoFrom (HA.out.same HK.out) HOK.out ?_; rintro e w2 d rfl d2 k2
              have HK2 := hide (HK.out.tr k2)
              have p0 := Keeps.cell k2 q0 trivial
              have p1 := Keeps.cell k2 q1 trivial
              have p2 := Keeps.cell k2 q2 trivial
              clear q0 q1 q2 k2
              go_wp2_with fail
              refine refIs (HA.out.same HK2.out) ?_; rintro e w3 rfl k3
              rw [hdec]
              have D3 := hide (d2.same k3)
              have HK3 := hide (HK2.out.tr k3)
              have q0 := Keeps.cell k3 p0 trivial
              have q1 := Keeps.cell k3 p1 trivial
              have q2 := Keeps.cell k3 p2 trivial
              clear p0 p1 p2 k3 d2
              go_wp2_with fail
              have kd : Same w3 w3.drew := Keeps.drew (Keeps.refl (fun _ => True) w3)
              refine wp_region_plan (.take 0 (.one 1 (.take 2 (.take 3 (.take 4 (.take 5 (.take 6 (.take 7 (.take 8 (.take 9 (.take 10 (.take 11 (.take 13 (.one 12 (.one 14 (.take 15 (.take 16 (.one 17 (.take 18 (.take 19 .done)))))))))))))))))))) (Same w3) (by kernel_rfl) (by kernel_rfl) kd ?_
              iterate 1
                (apply pl_take
                 case ho => rfl
                 case hw => rfl
                 case hv =>
                   intro w' hw'
                   have z0 := Keeps.cell hw' q0 trivial
                   have z1 := Keeps.cell hw' q1 trivial
                   have z2 := Keeps.cell hw' q2 trivial
                   go_simp
                   exact rfl
                 go_simp)
              refine pl_one (up_do rfl rfl fun K hK1 => ?_)
              go_simp
              refine autoIs (HA.out.same (HK3.out.tr kd)) ?_; rintro e w4 rfl k4
              rw [hdec]
              refine hK1 (Same w3) _ _ (kd.tr k4) (fun _ h => h) ?_
              clear hK1 K
              iterate 11
                (apply pl_take
                 case ho => rfl
                 case hw => rfl
                 case hv =>
                   intro w' hw'
                   have z0 := Keeps.cell hw' q0 trivial
                   have z1 := Keeps.cell hw' q1 trivial
                   have z2 := Keeps.cell hw' q2 trivial
                   go_simp
                   exact rfl
                 go_simp)
              refine pl_one (up_do rfl rfl fun K hK1 => ?_)
              go_simp
              have HK4 := hide (kd.tr k4)
              clear k4
              refine dfaTo (D3.out.same HK4.out) ?_; rintro e w5 u5 rfl o5 k5
              have A5 := hide (o5.auto HOK.out)
              obtain ⟨_, _, rfl, _, _⟩ := o5
              refine hK1 (Same w3) _ _ (HK4.out.tr k5) (fun _ h => h) ?_
              clear hK1 K
              refine pl_one (up_do rfl rfl fun K hK1 => ?_)
              go_simp
              refine refSameA A5.out (HA.out.same ((HK3.out.tr HK4.out).tr k5)) ?_; rintro e w6 rfl k6
              refine hK1 (Same w3) _ _ ((HK4.out.tr k5).tr k6) (fun _ h => h) ?_
              clear hK1 K
              iterate 2
                (apply pl_take
                 case ho => rfl
                 case hw => rfl
                 case hv => intro w' hw'; go_simp; exact rfl
                 go_simp)
              refine pl_one (up_do rfl rfl fun K hK1 => ?_)
              go_simp
              refine known19 ?_; rintro e w7 rfl k7
              have HK7 := hide ((HK4.out.tr k5).tr (k6.tr k7))
              refine hK1 (Same w3) _ _ HK7.out (fun _ h => h) ?_
              clear hK1 K
              iterate 2
                (apply pl_take
                 case ho => rfl
                 case hw => rfl
                 case hv => intro w' hw'; go_simp; exact rfl
                 go_simp)
              refine pl_done ?_
              go_wp2_with fail
              exact HR.out _ _ rfl ((HK3.out.tr HK7.out).mono fun _ _ _ => trivial)
            · have HNO := hide hok
              have hdec : decide (AuOk A) = false := by simpa using hok
              clear hok
              go_wp2_with fail
              refine autoFromNot (HA.out.same HK.out) HNO.out ?_; rintro e w2 rfl k2
              have HK2 := hide (HK.out.tr k2)
              have p0 := Keeps.cell k2 q0 trivial
              have p1 := Keeps.cell k2 q1 trivial
              have p2 := Keeps.cell k2 q2 trivial
              clear q0 q1 q2 k2
              go_wp2_with fail
              refine refIs (HA.out.same HK2.out) ?_; rintro e w3 rfl k3
              rw [hdec]
              have HK3 := hide (HK2.out.tr k3)
              have q0 := Keeps.cell k3 p0 trivial
              have q1 := Keeps.cell k3 p1 trivial
              have q2 := Keeps.cell k3 p2 trivial
              clear p0 p1 p2 k3
              go_wp2_with fail
              refine autoIs (HA.out.same HK3.out) ?_; rintro e w4 rfl k4
              rw [hdec]
              have HK4 := hide (HK3.out.tr k4)
              clear k4
              go_wp2_with fail
              refine known19 ?_; rintro e w7 rfl k7
              go_wp2_with fail
              exact HR.out _ _ rfl ((HK4.out.tr k7).mono fun _ _ _ => trivial)

end Go.Proofs.Ytgpbjjnfccalbaa
