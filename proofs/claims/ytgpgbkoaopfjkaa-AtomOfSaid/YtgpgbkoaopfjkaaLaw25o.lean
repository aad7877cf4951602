/- The walk of AtomOf. -/
import Derived.Test.YtgpgbkoaopfjkaaKnown25
import Derived.Test.YtgpgbkoaopfjkaaRef25d
import Derived.Test.YtgpgbkoaopfjkaaAtomBad
import Derived.Test.YtgpgbkoaopfjkaaPkB
namespace Go.Proofs.Ytgpgbkoaopfjkaa
open Go.RowKit

attribute [local irreducible] wpQuiet wpPlan wpPlanZ wpUp

set_option maxRecDepth 10000 in
set_option maxHeartbeats 4000000 in
theorem atomOfWalk (vc : Value) (h : Nat) (n : Int) (w : World) (hv : CoreIn w h vc) (_ : InI64 n) :
    Calls Try.prog 3 #[vc, .int .i64 n] w fun e w' => e = .returned (.bool true) ∧ Below w.heap.size w w' := by
  refine law_of fun R HR => ?_
  obtain ⟨h', op, a, b, c, N, ka, kn, kc, e1, rfl, hc⟩ := hv.open
  have hk1 : Same w (w.alloc (.cells #[.string op, .int .i64 a, .int .i64 b, .int .i64 c, .int .i64 N, .slice ka kn kc] 24)) := (Keeps.refl _ w).alloc _
  have HV := hide (CoreIn.same hk1 hv)
  have HK1 := hide hk1
  have HB1 := hide (heap_new w (.cells #[.string op, .int .i64 a, .int .i64 b, .int .i64 c, .int .i64 N, .slice ka kn kc] 24))
  clear hv hc e1 hk1
  go_enter Try.func3, Try.ntmps3
  go_wp2_with fail
  generalize w.alloc (.cells #[.string op, .int .i64 a, .int .i64 b, .int .i64 c, .int .i64 N, .slice ka kn kc] 24) = w1 at HK1 HB1 HV ⊢
  generalize w.heap.size = x at HB1 ⊢
  refine refSize HV.out ?_; rintro e w2 r rfl hr1 hr2 k2
  have HK2 := hide (HK1.out.tr k2)
  have HB2 := hide (k2.at HB1.out trivial)
  have HV2 := hide (CoreIn.same k2 HV.out)
  clear k2
  by_cases h50 : 50 < r
  · go_wp2_with fail
    exact HR.out _ _ rfl (HK2.out.mono fun _ _ _ => trivial)
  have q0 := cell_at HB2.out 0; have q1 := cell_at HB2.out 1; have q2 := cell_at HB2.out 2; have q3 := cell_at HB2.out 3; have q4 := cell_at HB2.out 4; have q5 := cell_at HB2.out 5
  simp only [List.getElem?_toArray, List.getElem?_cons_zero, List.getElem?_cons_succ] at q0 q1 q2 q3 q4 q5
  by_cases hg : GoodC op a b c N n kn
  · obtain ⟨o, A, B, C, N, n, rfl, rfl, rfl, rfl, rfl, rfl, rfl, hN, hn, hA, hB, hC, hF⟩ := good_nat hg
    have HF := hide hF
    have HOK := hide (min_ok (machAu_ok (o := o) (A := A) (B := B) (C := C) hN hn))
    clear hg hF
    go_wp2_with fail
    refine atomOfGood hN hn hA hB hC HF.out HV2.out ?_; rintro e w3 d rfl dd k3
    have HD3 := hide dd
    have HK3 := hide (HK2.out.tr k3)
    have q0 := Keeps.cell k3 q0 trivial; have q1 := Keeps.cell k3 q1 trivial; have q2 := Keeps.cell k3 q2 trivial; have q3 := Keeps.cell k3 q3 trivial; have q4 := Keeps.cell k3 q4 trivial; have q5 := Keeps.cell k3 q5 trivial
    have HV3 := hide (CoreIn.same k3 HV2.out)
    clear dd k3
    go_wp2_with fail
    refine refOfGood hN hn hA hB hC HF.out HV3.out ?_; rintro e w4 u rfl hu k4
    have HD4 := hide (HD3.out.same k4)
    have HK4 := hide (HK3.out.tr k4)
    have HU := hide hu
    clear q0 q1 q2 q3 q4 q5 k4
    generalize minAu (machAu o N A B C n) = M at HD4 HU hu HOK
    obtain ⟨va, vn, rfl, hacc, hnext, _⟩ := hu
    obtain ⟨aa, ac, rfl, _⟩ := hacc.open
    obtain ⟨na, nc, rfl, _⟩ := hnext.open
    have kx : Same w4 (w4.alloc (.cells #[.int .i64 M.T, .slice aa M.acc.length ac, .slice na M.next.length nc] 33)) := (Keeps.refl _ w4).alloc _
    have HX5 := hide (heap_new w4 (.cells #[.int .i64 M.T, .slice aa M.acc.length ac, .slice na M.next.length nc] 33))
    have HK5 := hide (HK4.out.tr kx)
    have HD5 := hide (HD4.out.same kx)
    have HU5 := hide (AutoAt.same HU.out kx)
    clear hacc hnext kx
    go_wp2_with fail
    generalize w4.alloc (.cells #[.int .i64 M.T, .slice aa M.acc.length ac, .slice na M.next.length nc] 33) = w5 at HX5 HK5 HD5 HU5 ⊢
    generalize w4.heap.size = x4 at HX5 ⊢
    have kd : Same w5 w5.drew := Keeps.drew (Keeps.refl (fun _ => True) w5)
    refine wp_region_plan (.take 0 (.take 1 (.take 2 (.take 3 (.take 4 (.take 5 (.take 6 (.take 7 (.take 9 (.one 8 (.one 10 (.take 11 (.take 12 (.one 13 (.take 14 (.take 15 .done)))))))))))))))) (fun w' => w'.heap[x4]? = some (.cells #[.int .i64 M.T, .slice aa M.acc.length ac, .slice na M.next.length nc] 33 (0, 0))) (by kernel_rfl) (by kernel_rfl) (kd.at HX5.out trivial) ?_
    iterate 9
      (first
         | (apply pl_pass
            case ho => rfl
            case hw => rfl
            go_simp)
         | (apply pl_take
            case ho => rfl
            case hw => rfl
            case hv =>
              intro w' hS
              (have q0 := cell_at hS 0; have q1 := cell_at hS 1; have q2 := cell_at hS 2; simp only [List.getElem?_toArray, List.getElem?_cons_zero, List.getElem?_cons_succ] at q0 q1 q2)
              go_simp
              exact rfl
            go_simp))
    refine pl_one (up_do rfl rfl fun K hK1 => ?_)
    go_simp
    refine dfaTo (HD5.out.same kd) ?_; rintro e w6 v6 rfl o6 k6
    have c6 := kd.tr k6
    refine hK1 _ _ _ (c6.at HX5.out trivial) (fun _ h => h) ?_
    clear hK1 K
    refine pl_one (up_do rfl rfl fun K hK1 => ?_)
    go_simp
    refine refSameA (o6.auto HOK.out) (AutoAt.same HU5.out c6) ?_; rintro e w7 rfl k7
    have c7 := c6.tr k7
    refine hK1 _ _ _ (c7.at HX5.out trivial) (fun _ h => h) ?_
    clear hK1 K
    iterate 2
      (first
         | (apply pl_pass
            case ho => rfl
            case hw => rfl
            go_simp)
         | (apply pl_take
            case ho => rfl
            case hw => rfl
            case hv =>
              intro w' hS
              (skip)
              go_simp
              exact rfl
            go_simp))
    refine pl_one (up_do rfl rfl fun K hK1 => ?_)
    go_simp
    refine known25 ?_; rintro e w8 rfl k8
    have c8 := c7.tr k8
    refine hK1 _ _ _ (c8.at HX5.out trivial) (fun _ h => h) ?_
    clear hK1 K
    iterate 2
      (first
         | (apply pl_pass
            case ho => rfl
            case hw => rfl
            go_simp)
         | (apply pl_take
            case ho => rfl
            case hw => rfl
            case hv =>
              intro w' hS
              (skip)
              go_simp
              exact rfl
            go_simp))
    refine pl_done ?_
    have HC8 := hide (HK5.out.tr c8)
    clear kd k6 c6 k7 c7 k8 c8 o6
    go_wp2_with fail
    exact HR.out _ _ rfl (HC8.out.mono fun _ _ _ => trivial)
  · go_wp2_with fail
    refine atomOfBad HV2.out hg ?_; rintro e w3 rfl k3
    have HK3 := hide (HK2.out.tr k3)
    have q0 := Keeps.cell k3 q0 trivial; have q1 := Keeps.cell k3 q1 trivial; have q2 := Keeps.cell k3 q2 trivial; have q3 := Keeps.cell k3 q3 trivial; have q4 := Keeps.cell k3 q4 trivial; have q5 := Keeps.cell k3 q5 trivial
    have HV3 := hide (CoreIn.same k3 HV2.out)
    clear k3
    go_wp2_with fail
    refine refOfBad HV3.out hg ?_; rintro e w4 rfl k4
    have HK4 := hide ((HK3.out.tr k4).alloc (.cells #[.int .i64 0, .slice none 0 0, .slice none 0 0] 33))
    clear q0 q1 q2 q3 q4 q5 k4
    go_wp2_with fail
    refine known25 ?_; rintro e w5 rfl k5
    have HK5 := hide (HK4.out.tr k5)
    clear k5
    go_wp2_with fail
    exact HR.out _ _ rfl (HK5.out.mono fun _ _ _ => trivial)

end Go.Proofs.Ytgpgbkoaopfjkaa
