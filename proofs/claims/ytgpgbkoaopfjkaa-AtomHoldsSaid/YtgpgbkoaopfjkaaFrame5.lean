/- What an argument that reads as data gives the walks: a formula. -/
import Derived.Test.YtgpgbkoaopfjkaaPkA
import Derived.Test.YtgpgbkoaopfjkaaCore
namespace Go.Proofs.Ytgpgbkoaopfjkaa
open Go.ChangeShapes Go.WideShapes Go.ChangeAt Go.RowKit Go.Deep

set_option maxRecDepth 100000

theorem CoreIn.le {w : World} : ∀ {h h' : Nat} {v : Value}, h ≤ h' → CoreIn w h v → CoreIn w h' v
  | 0, _, _, _, hh => hh.elim
  | h + 1, 0, _, hle, _ => absurd hle (Nat.not_succ_le_zero h)
  | h + 1, h' + 1, v, hle, ⟨op, a, b, c, n, ka, kn, kc, e, q, hk⟩ => by
    refine ⟨op, a, b, c, n, ka, kn, kc, e, q, ?_⟩
    rcases hk with hk | ⟨bl, off, cur, t, fr, e1, e2, e3⟩
    · exact .inl hk
    · refine .inr ⟨bl, off, cur, t, fr, e1, e2, fun i hi => ?_⟩
      obtain ⟨v0, v1, v2, v3, v4, v5, hc, hh⟩ := e3 i hi
      exact ⟨v0, v1, v2, v3, v4, v5, hc, CoreIn.le (Nat.le_of_succ_le_succ hle) hh⟩

theorem core_of_trod {H : Type} {enc : TypeId × Value → H} {w : World} {base : Nat} {held : Bool} : ∀ (fuel : Nat) (cs : List Value) (x : DataW H × List MemPlace),
    DataW.trod enc Try.prog w base (fun _ => true) held fuel 24 cs = some x → CoreIn w fuel (.agg cs.toArray) := by
  intro fuel
  induction fuel using Nat.strongRecOn with
  | ind fuel ih =>
    intro cs x h
    obtain ⟨xs, n, rfl, _, hl, hxl, hf⟩ := DataW.trod_struct Try.underlying24 h
    have hc6 : Try.prog.cellsOf 24 = 6 := by kernel_rfl
    rw [hc6] at hl
    match cs, hl with
    | [c0, c1, c2, c3, c4, c5], _ =>
      match xs, hxl with
      | [y0, y1, y2, y3, y4, y5], _ =>
        have e0 : DataW.trod enc Try.prog w base (fun _ => true) held n 9 [c0] = some y0 := hf 0 _ rfl
        have e1 : DataW.trod enc Try.prog w base (fun _ => true) held n 3 [c1] = some y1 := hf 1 _ rfl
        have e2 : DataW.trod enc Try.prog w base (fun _ => true) held n 3 [c2] = some y2 := hf 2 _ rfl
        have e3 : DataW.trod enc Try.prog w base (fun _ => true) held n 3 [c3] = some y3 := hf 3 _ rfl
        have e4 : DataW.trod enc Try.prog w base (fun _ => true) held n 3 [c4] = some y4 := hf 4 _ rfl
        have e5 : DataW.trod enc Try.prog w base (fun _ => true) held n 22 [c5] = some y5 := hf 5 _ rfl
        obtain ⟨s, q0, _, hs⟩ := DataW.trod_string Try.underlying9 e0
        obtain ⟨a, q1, _, wa⟩ := DataW.trod_int Try.underlying3 e1
        obtain ⟨b, q2, _, wb⟩ := DataW.trod_int Try.underlying3 e2
        obtain ⟨c, q3, _, wc⟩ := DataW.trod_int Try.underlying3 e3
        obtain ⟨d, q4, _, wd⟩ := DataW.trod_int Try.underlying3 e4
        simp only [List.cons.injEq, and_true] at q0 q1 q2 q3 q4
        subst q0; subst q1; subst q2; subst q3; subst q4
        rcases DataW.trod_slice Try.underlying22 e5 with ⟨q5, _⟩ | ⟨ad, len, cap, elems, rest, m, hm, q5, _, _, hlc, hcm, hlen, hel, _⟩
        · simp only [List.cons.injEq, and_true] at q5
          subst q5
          exact ⟨s, a, b, c, d, none, 0, 0, rfl, ⟨bounds_i64 wa, bounds_i64 wb, bounds_i64 wc, bounds_i64 wd, hs, Nat.le_refl _, Nat.zero_le _⟩, .inl rfl⟩
        · simp only [List.cons.injEq, and_true] at q5
          subst q5
          refine ⟨s, a, b, c, d, some ad, len, cap, rfl, ⟨bounds_i64 wa, bounds_i64 wb, bounds_i64 wc, bounds_i64 wd, hs, hlc, hcm⟩, ?_⟩
          by_cases h0 : len = 0
          · exact .inl h0
          right
          have each : ∀ i, i < len → ∃ v0 v1 v2 v3 v4 v5, (w.cell? (ad.add (i * 6)) = some v0 ∧ w.cell? (ad.add (i * 6 + 1)) = some v1 ∧ w.cell? (ad.add (i * 6 + 2)) = some v2 ∧ w.cell? (ad.add (i * 6 + 3)) = some v3 ∧ w.cell? (ad.add (i * 6 + 4)) = some v4 ∧ w.cell? (ad.add (i * 6 + 5)) = some v5) ∧ CoreIn w n (.agg #[v0, v1, v2, v3, v4, v5]) := by
            intro i hi
            have h1 := hel i hi
            rw [List.getElem?_eq_getElem (by omega), hc6] at h1
            obtain ⟨cs', g1, g2⟩ := Option.bind_eq_some_iff.1 h1
            obtain ⟨_, gl, hcell⟩ := World.cells?_some g1
            have hin := CoreIn.le (show m ≤ n by omega) (ih m (by omega) _ _ g2)
            match cs', gl with
            | [v0, v1, v2, v3, v4, v5], _ =>
              have t0 := hcell 0 (by omega)
              have t1 := hcell 1 (by omega)
              have t2 := hcell 2 (by omega)
              have t3 := hcell 3 (by omega)
              have t4 := hcell 4 (by omega)
              have t5 := hcell 5 (by omega)
              rw [add_add] at t0 t1 t2 t3 t4 t5
              exact ⟨v0, v1, v2, v3, v4, v5, ⟨by simpa using t0, by simpa using t1, by simpa using t2, by simpa using t3, by simpa using t4, by simpa using t5⟩, hin⟩
          obtain ⟨_, _, _, _, _, _, ⟨h1, _⟩, _⟩ := each 0 (by omega)
          obtain ⟨bl, off, spot⟩ := ad
          have hsp : spot = none := by simpa [Addr.add] using World.cell?_spot h1
          subst hsp
          have h2 := h1
          rw [add_plain] at h2
          unfold World.cell? at h2
          split at h2
          · rename_i cur ee fr hh
            refine ⟨bl, off, cur, ee, fr, rfl, hh, fun i hi => ?_⟩
            obtain ⟨v0, v1, v2, v3, v4, v5, ⟨t0, t1, t2, t3, t4, t5⟩, hin⟩ := each i hi
            rw [add_plain, cell_at hh] at t0 t1 t2 t3 t4 t5
            exact ⟨v0, v1, v2, v3, v4, v5, ⟨t0, t1, t2, t3, t4, t5⟩, hin⟩
          · cases h2

theorem core_arg {H : Type} {enc : TypeId × Value → H} {w : World} {base b0 : Nat} {held : Bool} {r : Reach} {v : Value} {d : DataW H} {p : List MemPlace}
    (hv : Value.okWide Try.prog w r b0 24 v) (h : DataW.Trod enc Try.prog w base (fun _ => true) held 24 v d p) : ∃ k, CoreIn w k v := by
  obtain ⟨cs, rfl, _⟩ := okWide_struct Try.underlying24 hv
  obtain ⟨fuel, hf⟩ := h
  have := core_of_trod fuel _ _ hf
  exact ⟨fuel, by simpa [Value.cells] using this⟩

end Go.Proofs.Ytgpgbkoaopfjkaa
