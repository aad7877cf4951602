/- The walks of core.is, core.Is at an atom. -/
import Derived.Test.YtgpgbkoaopfjkaaCoreIs
namespace Go.Proofs.Ytgpgbkoaopfjkaa
open Go.RowKit

attribute [local irreducible] wpQuiet wpPlan wpPlanZ wpUp

variable {R : Ending → World → Prop} {w : World}

theorem indexCore0 {ka : Option Addr} {kc : Nat} (g : Value) (hR : ∀ e, e = .returned (.int .i64 (-1)) → R e w) :
    Calls Try.prog 92 #[.slice ka 0 kc, g] w R := by
  have HR := hide hR
  clear hR
  go_enter Try.func92, Try.ntmps92
  go_wp2_with fail
  go_loopw [8] (fun i wr => i = .int .i64 0 ∧ wr = w) (fun _ _ => 0)
  case atStart => exact ⟨rfl, rfl⟩
  case round =>
    obtain ⟨rfl, rfl⟩ := hrel
    go_wp2_with fail
    exact HR.out _ rfl

theorem containsCore0 {ka : Option Addr} {kc : Nat} (g : Value) (hR : ∀ e, e = .returned (.bool false) → R e w) :
    Calls Try.prog 75 #[.slice ka 0 kc, g] w R := by
  have HR := hide hR
  clear hR
  go_enter Try.func75, Try.ntmps75
  go_wp2_with fail
  refine indexCore0 _ ?_; rintro e rfl
  go_wp2_with fail
  exact HR.out _ rfl

set_option maxRecDepth 10000 in
set_option maxHeartbeats 1000000 in
theorem coreIsN {o : AOp} {a b c N n : Int} {ka : Option Addr} {kn kc : Nat} (hkc : kn ≤ kc ∧ kc ≤ maxLen) (hR : ∀ e w' r, e = .returned (.bool r) → (r = true ↔ FieldsOk o a b c N n kn) → Same w w' → R e w') :
    Calls Try.prog 50 #[.agg #[.string o.name, .int .i64 a, .int .i64 b, .int .i64 c, .int .i64 N, .slice ka kn kc], .int .i64 n] w R := by
  have HR := hide hR
  clear hR
  have HKC := hide hkc
  have HX := hide (name_ex o)
  have hk1 : Same w ((w.alloc (.cells #[.string o.name, .int .i64 a, .int .i64 b, .int .i64 c, .int .i64 N, .slice ka kn kc] 24)).alloc (.cells #[.int .i64 n] 3)) := ((Keeps.refl _ w).alloc _).alloc _
  have hb1 : ((w.alloc (.cells #[.string o.name, .int .i64 a, .int .i64 b, .int .i64 c, .int .i64 N, .slice ka kn kc] 24)).alloc (.cells #[.int .i64 n] 3)).heap[w.heap.size]? = some (.cells #[.string o.name, .int .i64 a, .int .i64 b, .int .i64 c, .int .i64 N, .slice ka kn kc] 24 (0, 0)) := heap_old (heap_new w _) _
  have HK1 := hide hk1
  have HB1 := hide hb1
  clear hkc hk1 hb1
  go_enter Try.func50, Try.ntmps50
  go_wp2_with fail
  refine coreFields HKC.out ?_; rintro e w2 r rfl hr k2
  have HRR := hide hr
  have hb2 := k2.at HB1.out trivial
  have q0 := cell_at hb2 0; have q5 := cell_at hb2 5
  simp only [List.getElem?_toArray, List.getElem?_cons_zero, List.getElem?_cons_succ] at q0 q5
  have HK2 := hide (HK1.out.tr k2)
  clear k2 hr hb2 HB1
  have hxn := HX.out
  cases r with
  | false =>
    clear q0 q5 hxn
    go_wp2_with fail
    exact HR.out _ _ false rfl HRR.out HK2.out
  | true =>
    have hfo := HRR.out.1 rfl
    have hk0 : kn = 0 := hfo.1
    subst hk0
    have HFO := hide hfo
    clear hfo HRR
    generalize o.name = op at q0 q5 hxn ⊢
    go_wp2_with fail
    refine containsCore0 _ ?_; rintro e rfl
    go_wp2_with fail
    exact HR.out _ _ true rfl ⟨fun _ => HFO.out, fun _ => rfl⟩ HK2.out

set_option maxRecDepth 10000 in
set_option maxHeartbeats 1000000 in
theorem coreIs {o : AOp} {a b c N n : Int} {ka : Option Addr} {kn kc h : Nat} (hv : CoreIn w h (.agg #[.string o.name, .int .i64 a, .int .i64 b, .int .i64 c, .int .i64 N, .slice ka kn kc])) (hR : ∀ e w' r, e = .returned (.bool r) → (r = true ↔ (0 ≤ n ∧ n ≤ 6 ∧ FieldsOk o a b c N n kn)) → Same w w' → R e w') :
    Calls Try.prog 21 #[.agg #[.string o.name, .int .i64 a, .int .i64 b, .int .i64 c, .int .i64 N, .slice ka kn kc], .int .i64 n] w R := by
  have HR := hide hR
  clear hR
  obtain ⟨h', op, a', b', c', n', ka', kn', kc', e1, e2, hc⟩ := hv.open
  simp only [Value.agg.injEq, Array.mk.injEq, List.cons.injEq, and_true, Value.string.injEq, Value.int.injEq, true_and, Value.slice.injEq] at e2
  obtain ⟨rfl, rfl, rfl, rfl, rfl, rfl, rfl, rfl⟩ := e2
  have HKC := hide (And.intro hc.le hc.mx)
  have hk1 : Same w (w.alloc (.cells #[.string o.name, .int .i64 a, .int .i64 b, .int .i64 c, .int .i64 N, .slice ka kn kc] 24)) := (Keeps.refl _ w).alloc _
  have HV := hide (CoreIn.same hk1 hv)
  have HK1 := hide hk1
  have HB1 := hide (heap_new w (.cells #[.string o.name, .int .i64 a, .int .i64 b, .int .i64 c, .int .i64 N, .slice ka kn kc] 24))
  clear hv hc e1 hk1
  by_cases h0 : n < 0
  · have HNF := hide (no_iff (P := 0 ≤ n ∧ n ≤ 6 ∧ FieldsOk o a b c N n kn) fun h => by omega)
    go_enter Try.func21, Try.ntmps21
    go_wp2_with fail
    exact HR.out _ _ false rfl HNF.out HK1.out
  by_cases h6 : 6 < n
  · have HNF := hide (no_iff (P := 0 ≤ n ∧ n ≤ 6 ∧ FieldsOk o a b c N n kn) fun h => by omega)
    go_enter Try.func21, Try.ntmps21
    go_wp2_with fail
    exact HR.out _ _ false rfl HNF.out HK1.out
  by_cases hkn : kn = 0
  · subst hkn
    go_enter Try.func21, Try.ntmps21
    go_wp2_with fail
    refine coreSize0 ?_; rintro e w2 rfl k2
    have hb2 := k2.at HB1.out trivial
    have HK2 := hide (HK1.out.tr k2)
    have q0 := cell_at hb2 0; have q1 := cell_at hb2 1; have q2 := cell_at hb2 2; have q3 := cell_at hb2 3; have q4 := cell_at hb2 4; have q5 := cell_at hb2 5
    simp only [List.getElem?_toArray, List.getElem?_cons_zero, List.getElem?_cons_succ] at q0 q1 q2 q3 q4 q5
    clear k2 hb2
    go_wp2_with fail
    refine coreIsN HKC.out ?_; rintro e w3 r rfl hr k3
    have HRR : Hid (r = true ↔ (0 ≤ n ∧ n ≤ 6 ∧ FieldsOk o a b c N n 0)) := hide ⟨fun h => ⟨by omega, by omega, hr.1 h⟩, fun h => hr.2 h.2.2⟩
    have HK3 := hide (HK2.out.tr k3)
    clear q0 q1 q2 q3 q4 q5 hr k3
    cases r with
    | false =>
      have HNF := hide (show ¬ (0 ≤ n ∧ n ≤ 6 ∧ FieldsOk o a b c N n 0) from fun h => by cases HRR.out.2 h)
      clear HRR
      go_wp2_with fail
      exact HR.out _ _ false rfl (no_iff HNF.out) HK3.out
    | true =>
      have HYF := hide (HRR.out.1 rfl)
      clear HRR
      go_wp2_with fail
      exact HR.out _ _ true rfl ⟨fun _ => HYF.out, fun _ => rfl⟩ HK3.out
  · have HNF := hide (no_iff (P := 0 ≤ n ∧ n ≤ 6 ∧ FieldsOk o a b c N n kn) fun h => hkn h.2.2.1)
    go_enter Try.func21, Try.ntmps21
    go_wp2_with fail
    refine coreSize HV.out ?_; rintro e w2 r2 rfl _ _ k2
    have hb2 := k2.at HB1.out trivial
    have HK2 := hide (HK1.out.tr k2)
    have q0 := cell_at hb2 0; have q1 := cell_at hb2 1; have q2 := cell_at hb2 2; have q3 := cell_at hb2 3; have q4 := cell_at hb2 4; have q5 := cell_at hb2 5
    simp only [List.getElem?_toArray, List.getElem?_cons_zero, List.getElem?_cons_succ] at q0 q1 q2 q3 q4 q5
    clear k2 hb2
    by_cases hsz : r2 ≤ 2000
    · go_wp2_with fail
      refine coreIsN HKC.out ?_; rintro e w3 r rfl hr k3
      have HK3 := hide (HK2.out.tr k3)
      obtain rfl : r = false := by
        cases r with
        | false => rfl
        | true => exact absurd (hr.1 rfl).1 hkn
      clear q0 q1 q2 q3 q4 q5 hr k3
      go_wp2_with fail
      exact HR.out _ _ _ rfl HNF.out HK3.out
    · clear q0 q1 q2 q3 q4 q5
      go_wp2_with fail
      exact HR.out _ _ _ rfl HNF.out HK2.out

end Go.Proofs.Ytgpgbkoaopfjkaa
