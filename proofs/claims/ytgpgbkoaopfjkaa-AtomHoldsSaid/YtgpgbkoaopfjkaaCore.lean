/- Formulas in memory; the walks of core.size, core.Size. -/
import Derived.Test.YtgpgbkoaopfjkaaShapes
import Derived.Test.YtgpgbkoaopfjkaaPkA
namespace Go.Proofs.Ytgpgbkoaopfjkaa
open Go.RowKit

attribute [local irreducible] wpQuiet wpPlan wpPlanZ wpUp

variable {R : Ending → World → Prop} {w : World}

/-- The value v reads as a formula of at most so many levels. -/
def CoreIn (w : World) : Nat → Value → Prop
  | 0, _ => False
  | h + 1, v => ∃ (op : ByteArray) (a b c n : Int) (ka : Option Addr) (kn kc : Nat), v = .agg #[.string op, .int .i64 a, .int .i64 b, .int .i64 c, .int .i64 n, .slice ka kn kc] ∧
      (InI64 a ∧ InI64 b ∧ InI64 c ∧ InI64 n ∧ op.size ≤ maxLen ∧ kn ≤ kc ∧ kc ≤ maxLen) ∧
      (kn = 0 ∨ ∃ bl off cur e fr, ka = some ⟨bl, off, none⟩ ∧ w.heap[bl]? = some (.cells cur e fr) ∧ ∀ i, i < kn → ∃ v0 v1 v2 v3 v4 v5,
        (cur[off + i * 6]? = some v0 ∧ cur[off + i * 6 + 1]? = some v1 ∧ cur[off + i * 6 + 2]? = some v2 ∧ cur[off + i * 6 + 3]? = some v3 ∧ cur[off + i * 6 + 4]? = some v4 ∧ cur[off + i * 6 + 5]? = some v5) ∧ CoreIn w h (.agg #[v0, v1, v2, v3, v4, v5]))

theorem CoreIn.same {w' : World} (k : Same w w') : ∀ {h : Nat} {v : Value}, CoreIn w h v → CoreIn w' h v
  | 0, _, hh => hh.elim
  | h + 1, v, ⟨op, a, b, c, n, ka, kn, kc, e, q, hk⟩ => by
    refine ⟨op, a, b, c, n, ka, kn, kc, e, q, ?_⟩
    rcases hk with hk | ⟨bl, off, cur, t, fr, e1, e2, e3⟩
    · exact .inl hk
    · refine .inr ⟨bl, off, cur, t, fr, e1, k.at e2 trivial, fun i hi => ?_⟩
      obtain ⟨v0, v1, v2, v3, v4, v5, hc, hh⟩ := e3 i hi
      exact ⟨v0, v1, v2, v3, v4, v5, hc, CoreIn.same k hh⟩

/-- A formula whose op and fields are known. -/
structure CoreOf (w : World) (h : Nat) (op : ByteArray) (a b c n : Int) (ka : Option Addr) (kn kc : Nat) : Prop where
  ia : InI64 a
  ib : InI64 b
  ic : InI64 c
  iN : InI64 n
  sz : op.size ≤ maxLen
  le : kn ≤ kc
  mx : kc ≤ maxLen
  kid : ∀ k, k < kn → ∃ bl off, ka = some ⟨bl, off, none⟩ ∧ ∃ op' a' b' c' n' ka' kn' kc', CoreIn w h (.agg #[.string op', .int .i64 a', .int .i64 b', .int .i64 c', .int .i64 n', .slice ka' kn' kc']) ∧
      w.cell? ⟨bl, off + k * 6, none⟩ = some (.string op') ∧ w.cell? ⟨bl, off + k * 6 + 1, none⟩ = some (.int .i64 a') ∧ w.cell? ⟨bl, off + k * 6 + 2, none⟩ = some (.int .i64 b') ∧ w.cell? ⟨bl, off + k * 6 + 3, none⟩ = some (.int .i64 c') ∧ w.cell? ⟨bl, off + k * 6 + 4, none⟩ = some (.int .i64 n') ∧ w.cell? ⟨bl, off + k * 6 + 5, none⟩ = some (.slice ka' kn' kc')

theorem CoreIn.open {h : Nat} {v : Value} (hh : CoreIn w h v) : ∃ h' op a b c n ka kn kc, h = h' + 1 ∧ v = .agg #[.string op, .int .i64 a, .int .i64 b, .int .i64 c, .int .i64 n, .slice ka kn kc] ∧ CoreOf w h' op a b c n ka kn kc := by
  cases h with
  | zero => exact hh.elim
  | succ h =>
    obtain ⟨op, a, b, c, n, ka, kn, kc, e, ⟨q1, q2, q3, q4, q5, q6, q7⟩, hk⟩ := hh
    refine ⟨h, op, a, b, c, n, ka, kn, kc, rfl, e, ⟨q1, q2, q3, q4, q5, q6, q7, fun k hlt => ?_⟩⟩
    rcases hk with rfl | ⟨bl, off, cur, t, fr, rfl, e2, e3⟩
    · omega
    · obtain ⟨v0, v1, v2, v3, v4, v5, ⟨c0, c1, c2, c3, c4, c5⟩, hi⟩ := e3 k hlt
      refine ⟨bl, off, rfl, ?_⟩
      cases h with
      | zero => exact hi.elim
      | succ h =>
        have hi0 := hi
        obtain ⟨op', a', b', c', n', ka', kn', kc', e', _⟩ := hi
        simp only [Value.agg.injEq, Array.mk.injEq, List.cons.injEq, and_true] at e'
        obtain ⟨rfl, rfl, rfl, rfl, rfl, rfl⟩ := e'
        exact ⟨op', a', b', c', n', ka', kn', kc', hi0, by rw [cell_at e2]; exact c0, by rw [cell_at e2]; exact c1, by rw [cell_at e2]; exact c2, by rw [cell_at e2]; exact c3, by rw [cell_at e2]; exact c4, by rw [cell_at e2]; exact c5⟩

set_option maxRecDepth 10000 in
set_option maxHeartbeats 2000000 in
theorem coreSizeN : ∀ (h : Nat) (w : World) (v : Value) (most : Int) (R : Ending → World → Prop), CoreIn w h v → most ≤ 3000 → -3000 ≤ most →
    (∀ e w' r, e = .returned (.int .i64 r) → (most ≤ 0 → r = 0) → (0 < most → 1 ≤ r ∧ r ≤ most) → Same w w' → R e w') → Calls Try.prog 73 #[v, .int .i64 most] w R := by
  intro h
  induction h with
  | zero => intro w v most R hv; exact hv.elim
  | succ h ih =>
    intro w v most R hv hm hm2 hR
    have HR := hide hR
    have IH := hide ih
    clear hR ih
    obtain ⟨h', op, a, b, c, n, ka, kn, kc, e, rfl, hc⟩ := hv.open
    obtain rfl : h = h' := by omega
    have HC := hide hc.kid
    have hkc1 := hc.le
    have hkc2 := hc.mx
    unfold maxLen at hkc2
    have hk1 : Same w (w.alloc (.cells #[.string op, .int .i64 a, .int .i64 b, .int .i64 c, .int .i64 n, .slice ka kn kc] 24)) := (Keeps.refl _ w).alloc _
    have HK1 := hide hk1
    clear hv hc hk1 e
    by_cases h0 : most ≤ 0
    · go_enter Try.func73, Try.ntmps73
      go_wp2_with fail
      exact HR.out _ _ 0 rfl (fun _ => rfl) (fun hh => by omega) HK1.out
    go_enter Try.func73, Try.ntmps73
    go_wp2_with fail
    generalize w.alloc (.cells #[.string op, .int .i64 a, .int .i64 b, .int .i64 c, .int .i64 n, .slice ka kn kc] 24) = w1 at HK1 ⊢
    go_loopw [5, 7, 13] (fun u _ i wr => ∃ (k : Nat) (r : Int), i = .int .i64 k ∧ k ≤ kn ∧ u = .int .i64 r ∧ 1 ≤ r ∧ r ≤ most ∧ Same w wr) (fun _ _ i _ => kn - (intOf i).toNat)
    case atStart => exact ⟨0, 1, rfl, Nat.zero_le _, rfl, by omega, by omega, HK1.out⟩
    case round =>
      obtain ⟨k, r, rfl, hk, rfl, hr1, hr2, hK⟩ := hrel
      by_cases hlt : k < kn
      · obtain ⟨bl, off, rfl, op', a', b', c', n', ka', kn', kc', hkid, c0, c1, c2, c3, c4, c5⟩ := HC.out k hlt
        have c0 := Keeps.cell hK c0 trivial
        have c1 := Keeps.cell hK c1 trivial
        have c2 := Keeps.cell hK c2 trivial
        have c3 := Keeps.cell hK c3 trivial
        have c4 := Keeps.cell hK c4 trivial
        have c5 := Keeps.cell hK c5 trivial
        have HKid := hide (CoreIn.same (hK.alloc (.cells #[.string op', .int .i64 a', .int .i64 b', .int .i64 c', .int .i64 n', .slice ka' kn' kc'] 24)) hkid)
        have HKK := hide hK
        clear hkid hK
        by_cases hge : most ≤ r
        · go_wp2_with fail
          exact HR.out _ _ r rfl (fun hh => by omega) (fun _ => ⟨hr1, hr2⟩) (HKK.out.alloc _)
        · go_wp2_with fail
          refine IH.out _ _ _ _ HKid.out (by omega) (by omega) ?_; rintro e w2 r2 rfl _ hr3 k2
          obtain ⟨hr3, hr4⟩ := hr3 (by omega)
          have HK2 := hide ((HKK.out.alloc _).tr k2)
          clear k2 c0 c1 c2 c3 c4 c5
          go_wp2_with fail
          go_roundw
          case rel => exact ⟨k + 1, r + r2, by go_num, by omega, by go_num, by omega, by omega, HK2.out⟩
          case measure => simp [intOf]; omega
      · have HKK := hide hK
        clear hK
        go_wp2_with fail
        exact HR.out _ _ r rfl (fun hh => by omega) (fun _ => ⟨hr1, hr2⟩) HKK.out

theorem coreSize {h : Nat} {v : Value} (hv : CoreIn w h v) (hR : ∀ e w' r, e = .returned (.int .i64 r) → 1 ≤ r → r ≤ 2001 → Same w w' → R e w') : Calls Try.prog 49 #[v] w R := by
  have HR := hide hR
  clear hR
  obtain ⟨h', op, a, b, c, n, ka, kn, kc, e, rfl, hc⟩ := hv.open
  have HV := hide (CoreIn.same ((Keeps.refl (fun _ => True) w).alloc (.cells #[.string op, .int .i64 a, .int .i64 b, .int .i64 c, .int .i64 n, .slice ka kn kc] 24)) hv)
  clear hv hc e
  go_enter Try.func49, Try.ntmps49
  go_wp2_with fail
  refine coreSizeN _ _ _ _ _ HV.out (by omega) (by omega) ?_; rintro e w2 r rfl _ hr k2
  have HK := hide (((Keeps.refl (fun _ => True) w).alloc (.cells #[.string op, .int .i64 a, .int .i64 b, .int .i64 c, .int .i64 n, .slice ka kn kc] 24)).tr k2)
  clear k2
  obtain ⟨h1, h2⟩ := hr (by omega)
  go_wp2_with fail
  exact HR.out _ _ r rfl h1 h2 HK.out

set_option maxRecDepth 10000 in
set_option maxHeartbeats 1000000 in
theorem coreSizeN0 {op : ByteArray} {a b c n : Int} {ka : Option Addr} {kc : Nat} (hR : ∀ e w', e = .returned (.int .i64 1) → Same w w' → R e w') : Calls Try.prog 73 #[.agg #[.string op, .int .i64 a, .int .i64 b, .int .i64 c, .int .i64 n, .slice ka 0 kc], .int .i64 2001] w R := by
  have HR := hide hR
  clear hR
  have HK := hide ((Keeps.refl (fun _ => True) w).alloc (.cells #[.string op, .int .i64 a, .int .i64 b, .int .i64 c, .int .i64 n, .slice ka 0 kc] 24))
  go_enter Try.func73, Try.ntmps73
  go_wp2_with fail
  generalize w.alloc (.cells #[.string op, .int .i64 a, .int .i64 b, .int .i64 c, .int .i64 n, .slice ka 0 kc] 24) = w1 at HK ⊢
  go_loopw [5, 7, 13] (fun u _ i wr => i = .int .i64 0 ∧ u = .int .i64 1 ∧ Same w wr) (fun _ _ _ _ => 0)
  case atStart => exact ⟨rfl, rfl, HK.out⟩
  case round =>
    obtain ⟨rfl, rfl, hK⟩ := hrel
    have HK := hide hK
    clear hK
    go_wp2_with fail
    exact HR.out _ _ rfl HK.out

/-- A formula with no kids is one node. -/
theorem coreSize0 {op : ByteArray} {a b c n : Int} {ka : Option Addr} {kc : Nat} (hR : ∀ e w', e = .returned (.int .i64 1) → Same w w' → R e w') : Calls Try.prog 49 #[.agg #[.string op, .int .i64 a, .int .i64 b, .int .i64 c, .int .i64 n, .slice ka 0 kc]] w R := by
  have HR := hide hR
  clear hR
  have HK := hide ((Keeps.refl (fun _ => True) w).alloc (.cells #[.string op, .int .i64 a, .int .i64 b, .int .i64 c, .int .i64 n, .slice ka 0 kc] 24))
  go_enter Try.func49, Try.ntmps49
  go_wp2_with fail
  refine coreSizeN0 ?_; rintro e w2 rfl k2
  have HK2 := hide (HK.out.tr k2)
  clear k2
  go_wp2_with fail
  exact HR.out _ _ rfl HK2.out

end Go.Proofs.Ytgpgbkoaopfjkaa
