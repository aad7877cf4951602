/- The walk of AtomEnds. -/
import Derived.Test.YtgpgbkoaopfjkaaKnown25
import Derived.Test.YtgpgbkoaopfjkaaRef9c
import Derived.Test.YtgpgbkoaopfjkaaEndsLaw
import Derived.Test.YtgpgbkoaopfjkaaTrim
import Derived.Test.YtgpgbkoaopfjkaaPkB
namespace Go.Proofs.Ytgpgbkoaopfjkaa
open Go.RowKit

attribute [local irreducible] wpQuiet wpPlan wpPlanZ wpUp

/-- An atom's variables as numbers. -/
theorem good_nat {op : ByteArray} {a b c N n : Int} {kn : Nat} (h : GoodC op a b c N n kn) : ∃ (o : AOp) (A B C N' n' : Nat), op = o.name ∧ a = A ∧ b = B ∧ c = C ∧ N = N' ∧ n = n' ∧ kn = 0 ∧ N' ≤ 20 ∧ n' ≤ 6 ∧ A ≤ 6 ∧ B ≤ 6 ∧ C ≤ 6 ∧ FieldsOk o (A : Int) (B : Int) (C : Int) (N' : Int) (n' : Int) 0 := by
  obtain ⟨h0, h6, o, ho, hf⟩ := h
  have hf2 := hf
  obtain ⟨k0, _, n0, n20, fa, fb, fc⟩ := hf
  have hb : ∀ j v, okVar o n j v → 0 ≤ v ∧ v ≤ 6 := by
    intro j v hv
    unfold okVar at hv
    split at hv <;> omega
  have ha := hb _ _ fa
  have hb2 := hb _ _ fb
  have hc := hb _ _ fc
  obtain ⟨A, rfl⟩ := Int.eq_ofNat_of_zero_le ha.1
  obtain ⟨B, rfl⟩ := Int.eq_ofNat_of_zero_le hb2.1
  obtain ⟨C, rfl⟩ := Int.eq_ofNat_of_zero_le hc.1
  obtain ⟨N', rfl⟩ := Int.eq_ofNat_of_zero_le n0
  obtain ⟨n', rfl⟩ := Int.eq_ofNat_of_zero_le h0
  subst k0
  exact ⟨o, A, B, C, N', n', ho, rfl, rfl, rfl, rfl, rfl, rfl, by omega, by omega, by omega, by omega, by omega, hf2⟩

set_option maxRecDepth 10000 in
set_option maxHeartbeats 4000000 in
theorem atomEndsWalk (vc : Value) (h : Nat) (n : Int) (vl : Value) (l : List Int) (w : World) (hv : CoreIn w h vc) (_ : InI64 n) (hl : IntsAt w vl l) :
    Calls Try.prog 6 #[vc, .int .i64 n, vl] w fun e w' => e = .returned (.bool true) ∧ Below w.heap.size w w' := by
  refine law_of fun R HR => ?_
  obtain ⟨h', op, a, b, c, N, ka, kn, kc, e1, rfl, hc⟩ := hv.open
  have HL := hide hl
  obtain ⟨la, lc, rfl, hlc1, hlc2, _⟩ := hl.open
  unfold maxLen at hlc2
  have hkc1 := hc.le
  have hkc2 := hc.mx
  unfold maxLen at hkc2
  have HV := hide hv
  have hk1 : Same w (w.alloc (.cells #[.string op, .int .i64 a, .int .i64 b, .int .i64 c, .int .i64 N, .slice ka kn kc] 24)) := (Keeps.refl _ w).alloc _
  have HK1 := hide hk1
  have HB1 := hide (heap_new w (.cells #[.string op, .int .i64 a, .int .i64 b, .int .i64 c, .int .i64 N, .slice ka kn kc] 24))
  clear hv hl hc e1 hk1
  go_enter Try.func6, Try.ntmps6
  go_wp2_with fail
  generalize w.alloc (.cells #[.string op, .int .i64 a, .int .i64 b, .int .i64 c, .int .i64 N, .slice ka kn kc] 24) = w1 at HK1 HB1 ⊢
  generalize w.heap.size = x at HB1 ⊢
  refine refIs9 (CoreIn.same HK1.out HV.out) ?_; rintro e w2 r rfl hr _ k2
  have HK2 := hide (HK1.out.tr k2)
  have HB2 := hide (k2.at HB1.out trivial)
  clear k2
  cases r with
  | false =>
    clear hr
    go_wp2_with fail
    exact HR.out _ _ rfl (HK2.out.mono fun _ _ _ => trivial)
  | true =>
  have q0 := cell_at HB2.out 0; have q1 := cell_at HB2.out 1; have q2 := cell_at HB2.out 2; have q3 := cell_at HB2.out 3; have q4 := cell_at HB2.out 4; have q5 := cell_at HB2.out 5
  simp only [List.getElem?_toArray, List.getElem?_cons_zero, List.getElem?_cons_succ] at q0 q1 q2 q3 q4 q5
  by_cases hkn : 0 < kn
  · clear hr
    go_wp2_with fail
    exact HR.out _ _ rfl (HK2.out.mono fun _ _ _ => trivial)
  obtain hg : GoodC op a b c N n kn := by
    rcases hr rfl with hh | ⟨hh, _⟩
    · exact hh
    · omega
  clear hr hkn
  by_cases hlen : 100 < l.length
  · have hk0 : kn = 0 := by obtain ⟨_, _, o, _, hf⟩ := hg; exact hf.1
    subst hk0
    clear hg
    go_wp2_with fail
    exact HR.out _ _ rfl (HK2.out.mono fun _ _ _ => trivial)
  obtain ⟨o, A, B, C, N, n, rfl, rfl, rfl, rfl, rfl, rfl, rfl, hN, hn, hA, hB, hC, hF⟩ := good_nat hg
  have HF := hide hF
  have HOK := hide (machAu_ok (o := o) (A := A) (B := B) (C := C) hN hn)
  clear hg hF
  go_wp2_with fail
  refine atomOfGood hN hn hA hB hC HF.out (CoreIn.same HK2.out HV.out) ?_; rintro e w3 d rfl dd k3
  have HD3 := hide dd
  have HK3 := hide (HK2.out.tr k3)
  clear dd k3 q0 q1 q2 q3 q4 q5
  have HEL := hide (fun h0 => ends_law HOK.out l h0)
  generalize minAu (machAu o N A B C n) = M at HD3 HEL
  go_wp2_with fail
  refine dfaRun HD3.out (HL.out.same HK3.out) ?_; rintro e w4 rfl k4
  have HK4 := hide (HK3.out.tr k4)
  have HD4 := hide (HD3.out.same k4)
  clear k4
  obtain ⟨v5, w5, hr1, h5⟩ := copied (w := w4) (wr := w4) (HL.out.same HK4.out) (Keeps.refl _ _) (by omega)
  obtain ⟨s5, c5, hv5⟩ := h5.out.1.shape
  subst hv5
  have ho5 := h5.out.1
  obtain ⟨g, cap, w6, hr2, hown6, hk6, hg6, _⟩ := append_one (P := Try.prog) w5 42 42 3 Try.underlying42 int_info rfl ho5 h5.out.2.size (.int .i64 0) rfl (by omega) (by decide)
  have HO6 : Hid (OwnInts w6 w4.heap.size (.slice (some ⟨g, 0, none⟩) (l.length + 1) cap) (l ++ [0])) := hide (by
    unfold OwnInts
    rw [List.length_append, List.map_append]
    exact hown6)
  have HK46 : Hid (Same w4 w6) := hide (h5.out.2.trans hk6 fun y hy _ => ⟨trivial, fun e => by
    have := (ownsRow_block ho5 e).1
    omega⟩)
  have HB6 : Hid (∀ y ∈ l ++ [0], InI64 y) := hide (fun y hy => by
    rcases List.mem_append.1 hy with hy | hy
    · exact HL.out.2 y hy
    · simp at hy; subst hy; unfold InI64; decide)
  generalize hac : accA M (runA M l) = ac at HEL ⊢
  generalize runA M l = r1 at hac ⊢
  clear hac ho5 hown6 hk6 hg6
  go_wp2_with (at_builtin; first | (refine wpList_append_run rfl _ _ _ rfl rfl rfl hr1 ?_; clear hr1) | (refine wpList_append_run rfl _ _ _ rfl rfl rfl hr2 ?_; clear hr2))
  refine dfaRun (HD4.out.same HK46.out) (HO6.out.ints HB6.out) ?_; rintro e w7 rfl k7
  have HK7 := hide ((HK4.out.tr HK46.out).tr k7)
  clear k7
  generalize hac2 : accA M (runA M (l ++ [0])) = ac2 at HEL ⊢
  generalize runA M (l ++ [0]) = r2 at HEL hac2 ⊢
  clear hac2
  by_cases hs : r2 < 0
  · go_wp2_with fail
    refine known25 ?_; rintro e w8 rfl k8
    have HK8 := hide (HK7.out.tr k8)
    clear k8
    go_wp2_with fail
    exact HR.out _ _ rfl (HK8.out.mono fun _ _ _ => trivial)
  · obtain rfl : ac = ac2 := HEL.out (by omega)
    cases ac <;>
    · go_wp2_with fail
      refine known25 ?_; rintro e w8 rfl k8
      have HK8 := hide (HK7.out.tr k8)
      clear k8
      go_wp2_with fail
      exact HR.out _ _ rfl (HK8.out.mono fun _ _ _ => trivial)

end Go.Proofs.Ytgpgbkoaopfjkaa
