/- The walks of sibylref9.count, Size, is, Is. -/
import Derived.Test.YtgpgbkoaopfjkaaRef9
import Derived.Test.YtgpgbkoaopfjkaaCoreIs
namespace Go.Proofs.Ytgpgbkoaopfjkaa
open Go.RowKit

attribute [local irreducible] wpQuiet wpPlan wpPlanZ wpUp

variable {R : Ending → World → Prop} {w : World}

set_option maxRecDepth 10000 in
set_option maxHeartbeats 2000000 in
theorem refCount : ∀ (h : Nat) (w : World) (v : Value) (most : Int) (R : Ending → World → Prop), CoreIn w h v → most ≤ 3000 → 1 ≤ most →
    (∀ e w' r, e = .returned (.int .i64 r) → 1 ≤ r → r ≤ most → Same w w' → R e w') → Calls Try.prog 19 #[v, .int .i64 most] w R := by
  intro h
  induction h with
  | zero => intro w v most R hv; exact hv.elim
  | succ h ih =>
    intro w v most R hv hm hm2 hR
    have HR := hide hR
    have IH := hide ih
    clear hR ih
    obtain ⟨h', op, a, b, c, n, ka, kn, kc, e, rfl, hc⟩ := hv.open
    obtain rfl : h = h' := by omega
    have HC := hide hc.kid
    have hkc1 := hc.le
    have hkc2 := hc.mx
    unfold maxLen at hkc2
    have HK1 := hide ((Keeps.refl (fun _ => True) w).alloc (.cells #[.string op, .int .i64 a, .int .i64 b, .int .i64 c, .int .i64 n, .slice ka kn kc] 24))
    have HB1 := hide (heap_new w (.cells #[.string op, .int .i64 a, .int .i64 b, .int .i64 c, .int .i64 n, .slice ka kn kc] 24))
    clear hv hc e
    go_enter Try.func19, Try.ntmps19
    go_wp2_with fail
    generalize w.alloc (.cells #[.string op, .int .i64 a, .int .i64 b, .int .i64 c, .int .i64 n, .slice ka kn kc] 24) = w1 at HK1 HB1 ⊢
    generalize w.heap.size = x at HB1 ⊢
    go_loopw [5, 6] (fun u i wr => ∃ (k : Nat) (r : Int), i = .int .i64 k ∧ k ≤ kn ∧ u = .int .i64 r ∧ 1 ≤ r ∧ r ≤ most ∧ Same w1 wr) (fun _ i _ => kn - (intOf i).toNat)
    case atStart => exact ⟨0, 1, rfl, Nat.zero_le _, rfl, by omega, by omega, Keeps.refl _ _⟩
    case round =>
      obtain ⟨k, r, rfl, hk, rfl, hr1, hr2, hK⟩ := hrel
      have q5 := cell_at (hK.at HB1.out trivial) 5
      simp only [List.getElem?_toArray, List.getElem?_cons_zero, List.getElem?_cons_succ] at q5
      by_cases hlt : k < kn
      · obtain ⟨bl, off, rfl, op', a', b', c', n', ka', kn', kc', hkid, c0, c1, c2, c3, c4, c5⟩ := HC.out k hlt
        have c0 := Keeps.cell (HK1.out.tr hK) c0 trivial
        have c1 := Keeps.cell (HK1.out.tr hK) c1 trivial
        have c2 := Keeps.cell (HK1.out.tr hK) c2 trivial
        have c3 := Keeps.cell (HK1.out.tr hK) c3 trivial
        have c4 := Keeps.cell (HK1.out.tr hK) c4 trivial
        have c5 := Keeps.cell (HK1.out.tr hK) c5 trivial
        have HKid := hide (CoreIn.same (HK1.out.tr hK) hkid)
        have HKK := hide hK
        clear hkid hK
        by_cases hge : most ≤ r
        · obtain rfl : r = most := by omega
          go_wp2_with fail
          exact HR.out _ _ r rfl hr1 hr2 (HK1.out.tr HKK.out)
        · go_wp2_with fail
          refine IH.out _ _ _ _ HKid.out (by omega) (by omega) ?_; rintro e w2 r2 rfl hr3 hr4 k2
          have HK2 := hide (HKK.out.tr k2)
          clear k2 c0 c1 c2 c3 c4 c5 q5
          go_wp2_with fail
          go_roundw
          case rel => exact ⟨k + 1, r + r2, by go_num, by omega, by go_num, by omega, by omega, HK2.out⟩
          case measure => simp [intOf]; omega
      · have HKK := hide hK
        clear hK
        go_wp2_with fail
        exact HR.out _ _ r rfl hr1 hr2 (HK1.out.tr HKK.out)

theorem refSize {h : Nat} {v : Value} (hv : CoreIn w h v) (hR : ∀ e w' r, e = .returned (.int .i64 r) → 1 ≤ r → r ≤ 2001 → Same w w' → R e w') : Calls Try.prog 8 #[v] w R := by
  have HR := hide hR
  clear hR
  obtain ⟨h', op, a, b, c, n, ka, kn, kc, e, rfl, hc⟩ := hv.open
  have HV := hide (CoreIn.same ((Keeps.refl (fun _ => True) w).alloc (.cells #[.string op, .int .i64 a, .int .i64 b, .int .i64 c, .int .i64 n, .slice ka kn kc] 24)) hv)
  have HK1 := hide ((Keeps.refl (fun _ => True) w).alloc (.cells #[.string op, .int .i64 a, .int .i64 b, .int .i64 c, .int .i64 n, .slice ka kn kc] 24))
  clear hv hc e
  go_enter Try.func8, Try.ntmps8
  go_wp2_with fail
  refine refCount _ _ _ _ _ HV.out (by omega) (by omega) ?_; rintro e w2 r rfl h1 h2 k2
  have HK := hide (HK1.out.tr k2)
  clear k2
  go_wp2_with fail
  exact HR.out _ _ r rfl h1 h2 HK.out

/-- What a name's fields are. -/
def hasO (o : AOp) : ByteArray :=
  match o with
  | .tru => ⟨#[]⟩
  | .non | .sing | .flag => ⟨#[65]⟩
  | .sub | .less => ⟨#[65, 66]⟩
  | .plus => ⟨#[65, 66, 78]⟩
  | .num => ⟨#[65, 78]⟩
  | .uni | .int | .mns => ⟨#[65, 66, 67]⟩

/-- The table's rows: an atom's, or one of the three others. -/
theorem ops_row {k : Nat} (hk : k < 14) : (∃ o : AOp, opsL[k] = o.name ∧ hasL[k] = hasO o ∧ kidsL[k] = 0) ∨ (k = 11 ∨ k = 12 ∨ k = 13) := by
  match k, hk with
  | 0, _ => exact .inl ⟨.tru, rfl, rfl, rfl⟩
  | 1, _ => exact .inl ⟨.sub, rfl, rfl, rfl⟩
  | 2, _ => exact .inl ⟨.sing, rfl, rfl, rfl⟩
  | 3, _ => exact .inl ⟨.flag, rfl, rfl, rfl⟩
  | 4, _ => exact .inl ⟨.non, rfl, rfl, rfl⟩
  | 5, _ => exact .inl ⟨.less, rfl, rfl, rfl⟩
  | 6, _ => exact .inl ⟨.plus, rfl, rfl, rfl⟩
  | 7, _ => exact .inl ⟨.num, rfl, rfl, rfl⟩
  | 8, _ => exact .inl ⟨.uni, rfl, rfl, rfl⟩
  | 9, _ => exact .inl ⟨.int, rfl, rfl, rfl⟩
  | 10, _ => exact .inl ⟨.mns, rfl, rfl, rfl⟩
  | 11, _ => exact .inr (.inl rfl)
  | 12, _ => exact .inr (.inr (.inl rfl))
  | 13, _ => exact .inr (.inr (.inr rfl))

/-- Each atom stands in the table. -/
theorem name_row (o : AOp) : ∃ k, ∃ hk : k < 14, opsL[k] = o.name := by
  cases o with
  | tru => exact ⟨0, by omega, rfl⟩
  | sub => exact ⟨1, by omega, rfl⟩
  | sing => exact ⟨2, by omega, rfl⟩
  | flag => exact ⟨3, by omega, rfl⟩
  | non => exact ⟨4, by omega, rfl⟩
  | less => exact ⟨5, by omega, rfl⟩
  | plus => exact ⟨6, by omega, rfl⟩
  | num => exact ⟨7, by omega, rfl⟩
  | uni => exact ⟨8, by omega, rfl⟩
  | int => exact ⟨9, by omega, rfl⟩
  | mns => exact ⟨10, by omega, rfl⟩

theorem name_inj {o o' : AOp} (h : o.name = o'.name) : o = o' := by
  cases o <;> cases o' <;> first | rfl | exact absurd h (by decide)

theorem name_others (o : AOp) : opsL[11] ≠ o.name ∧ opsL[12] ≠ o.name ∧ opsL[13] ≠ o.name := by cases o <;> decide

/-- The fields stand just if the atom may be. -/
theorem fields_ok (o : AOp) (a b c N n : Int) : FieldsOk o a b c N n 0 ↔ (fieldB (hasO o) 78 N 21 = true ∧ fieldB (hasO o) 65 a n = true ∧ fieldB (hasO o) 66 b n = true ∧ fieldB (hasO o) 67 c n = true) := by
  cases o <;> simp [FieldsOk, fieldB, hasO, okVar, AOp.vars, AOp.isNum] <;> omega

end Go.Proofs.Ytgpgbkoaopfjkaa
