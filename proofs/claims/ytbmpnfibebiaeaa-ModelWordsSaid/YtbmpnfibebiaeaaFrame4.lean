/- What an argument that reads as data gives the walks: values, variables. -/
import Derived.Test.YtbmpnfibebiaeaaPkA
import Derived.Test.YtbmpnfibebiaeaaVals
import Derived.Deep.Strs
namespace Go.Proofs.Ytbmpnfibebiaeaa
open Go.ChangeShapes Go.WideShapes Go.ChangeAt Go.RowKit Go.Deep

section
variable {H : Type} {enc : TypeId × Value → H} {P : Program} {w : World} {base : Nat} {held : Bool}

theorem tri_of_trod {t e : TypeId} {f0 f1 f2 : Field} {fuel : Nat} {cs : List Value} {x : DataW H × List MemPlace} (ht : P.underlying t = some (.slice e)) (he : P.underlying e = some (.struct #[f0, f1, f2]))
    (ce : P.cellsOf e = 3) (o0 : f0.offset = 0) (o1 : f1.offset = 1) (o2 : f2.offset = 2) (c0 : P.cellsOf f0.type = 1) (c1 : P.cellsOf f1.type = 1) (c2 : P.cellsOf f2.type = 1)
    (h : DataW.trod enc P w base (fun _ => true) held fuel t cs = some x) :
    ∃ v vs, cs = [v] ∧ TriAt w v vs ∧ ∀ y ∈ vs, ∃ n D0 D1 D2, DataW.trod enc P w base (fun _ => true) held n f0.type [y.1] = some D0 ∧ DataW.trod enc P w base (fun _ => true) held n f1.type [y.2.1] = some D1 ∧ DataW.trod enc P w base (fun _ => true) held n f2.type [y.2.2] = some D2 := by
  rcases open_slice ht h with ⟨rfl, _⟩ | ⟨a, len, cap, m, n, D, Pl, rfl, hb, hl, hm, hmm, rfl, hx⟩
  · exact ⟨_, [], rfl, ⟨none, 0, rfl, Nat.le_refl _, Nat.zero_le _, .inl rfl⟩, by simp⟩
  · simp only [if_true] at hmm
    subst hmm
    have each : ∀ i, i < m → ∃ q : Value × Value × Value, (w.cell? (a.add (i * 3)) = some q.1 ∧ w.cell? (a.add (i * 3 + 1)) = some q.2.1 ∧ w.cell? (a.add (i * 3 + 2)) = some q.2.2) ∧
        ∃ n D0 D1 D2, DataW.trod enc P w base (fun _ => true) held n f0.type [q.1] = some D0 ∧ DataW.trod enc P w base (fun _ => true) held n f1.type [q.2.1] = some D1 ∧ DataW.trod enc P w base (fun _ => true) held n f2.type [q.2.2] = some D2 := by
      intro i hi
      obtain ⟨cs', h1, h2⟩ := hx i hi
      rw [ce] at h1
      obtain ⟨_, hlen, hcell⟩ := World.cells?_some h1
      obtain ⟨y0, y1, y2, n', _, _, g0, g1, g2⟩ := trod_struct3 he h2
      match cs', hlen with
      | [v0, v1, v2], _ =>
        simp [o0, o1, o2, c0, c1, c2] at g0 g1 g2
        have e0 := hcell 0 (by omega)
        have e1 := hcell 1 (by omega)
        have e2 := hcell 2 (by omega)
        rw [add_add] at e0 e1 e2
        exact ⟨(v0, v1, v2), ⟨by simpa using e0, by simpa using e1, by simpa using e2⟩, n', y0, y1, y2, g0, g1, g2⟩
    obtain ⟨V, hV⟩ := choose_lt each
    refine ⟨_, (List.range len).map V, rfl, ⟨some a, m, by simp, by simpa using hl, hm, ?_⟩, ?_⟩
    · by_cases h0 : len = 0
      · subst h0; exact .inl rfl
      · right
        have h1 := (hV 0 (by omega)).1.1
        obtain ⟨b, off, spot⟩ := a
        have hs : spot = none := by simpa [Addr.add] using World.cell?_spot h1
        subst hs
        have h2 := h1
        rw [add_plain] at h2
        unfold World.cell? at h2
        split at h2
        · rename_i cur ee fr hh
          refine ⟨b, off, cur, ee, fr, rfl, hh, fun i y hy => ?_⟩
          simp only [List.getElem?_map, Option.map_eq_some_iff] at hy
          obtain ⟨j, hj, rfl⟩ := hy
          obtain ⟨hj1, hj2⟩ := List.getElem?_eq_some_iff.1 hj
          simp only [List.length_range] at hj1
          simp only [List.getElem_range] at hj2
          subst hj2
          have := (hV i (by omega)).1
          rw [add_plain, add_plain, add_plain, cell_at hh, cell_at hh, cell_at hh] at this
          exact this
        · cases h2
    · intro y hy
      simp only [List.mem_map, List.mem_range] at hy
      obtain ⟨i, hi, rfl⟩ := hy
      exact (hV i (by omega)).2

theorem vals_of_reads {f0 f1 f2 i : TypeId} {vs : List (Value × Value × Value)} (h0 : P.underlying f0 = some .string) (h1 : P.underlying f1 = some (.int .i64)) (h2 : P.underlying f2 = some (.slice i)) (hi : P.underlying i = some (.int .i64)) (hc : P.cellsOf i = 1)
    (h : ∀ y ∈ vs, ∃ n D0 D1 D2, DataW.trod enc P w base (fun _ => true) held n f0 [y.1] = some D0 ∧ DataW.trod enc P w base (fun _ => true) held n f1 [y.2.1] = some D1 ∧ DataW.trod enc P w base (fun _ => true) held n f2 [y.2.2] = some D2) :
    ∃ L : List Vl, vs.length = L.length ∧ ∀ (j : Nat) (x : Value × Value × Value) (l : Vl), vs[j]? = some x → L[j]? = some l → x.1 = .string l.name ∧ x.2.1 = .int .i64 l.ord ∧ IntsAt w x.2.2 l.set ∧ InI64 l.ord ∧ l.name.size ≤ maxLen := by
  induction vs with
  | nil => exact ⟨[], rfl, by simp⟩
  | cons y ys ih =>
    obtain ⟨L, q1, q2⟩ := ih fun z hz => h z (by simp [hz])
    obtain ⟨n, D0, D1, D2, t0, t1, t2⟩ := h y (by simp)
    obtain ⟨s, e0, _, hs⟩ := DataW.trod_string h0 t0
    obtain ⟨a, e1, _, wa⟩ := DataW.trod_int h1 t1
    obtain ⟨v, l, e2, hl⟩ := ints_of_trod h2 hi hc t2
    simp only [List.cons.injEq, and_true] at e0 e1 e2
    refine ⟨⟨s, a, l⟩ :: L, by simp [q1], fun j x m hx hm => ?_⟩
    cases j with
    | zero =>
      simp at hx hm
      subst hx; subst hm
      exact ⟨e0, e1, by rw [e2]; exact hl, bounds_i64 wa, hs⟩
    | succ j => exact q2 j x m (by simpa using hx) (by simpa using hm)

theorem decls_of_reads {f0 f1 f2 : TypeId} {vs : List (Value × Value × Value)} (h0 : P.underlying f0 = some .string) (h1 : P.underlying f1 = some (.int .i64)) (h2 : P.underlying f2 = some (.int .i64))
    (h : ∀ y ∈ vs, ∃ n D0 D1 D2, DataW.trod enc P w base (fun _ => true) held n f0 [y.1] = some D0 ∧ DataW.trod enc P w base (fun _ => true) held n f1 [y.2.1] = some D1 ∧ DataW.trod enc P w base (fun _ => true) held n f2 [y.2.2] = some D2) :
    ∃ D : List Dl, vs = D.map (fun d => (.string d.name, .int .i64 d.ord, .int .i64 d.spot)) ∧ ∀ d ∈ D, InI64 d.ord ∧ InI64 d.spot ∧ d.name.size ≤ maxLen := by
  induction vs with
  | nil => exact ⟨[], rfl, by simp⟩
  | cons y ys ih =>
    obtain ⟨L, rfl, q2⟩ := ih fun z hz => h z (by simp [hz])
    obtain ⟨n, D0, D1, D2, t0, t1, t2⟩ := h y (by simp)
    obtain ⟨s, e0, _, hs⟩ := DataW.trod_string h0 t0
    obtain ⟨a, e1, _, wa⟩ := DataW.trod_int h1 t1
    obtain ⟨b, e2, _, wb⟩ := DataW.trod_int h2 t2
    simp only [List.cons.injEq, and_true] at e0 e1 e2
    refine ⟨⟨s, a, b⟩ :: L, ?_, ?_⟩
    · obtain ⟨y0, y1, y2⟩ := y
      simp only at e0 e1 e2
      subst e0; subst e1; subst e2
      rfl
    · intro d hd
      rcases List.mem_cons.1 hd with rfl | hd
      · exact ⟨bounds_i64 wa, bounds_i64 wb, hs⟩
      · exact q2 d hd

end

theorem vals_of_trod {H : Type} {enc : TypeId × Value → H} {w : World} {base : Nat} {held : Bool} {fuel : Nat} {cs : List Value} {x : DataW H × List MemPlace}
    (h : DataW.trod enc Try.prog w base (fun _ => true) held fuel 28 cs = some x) : ∃ v L, cs = [v] ∧ ValsAt w v L := by
  obtain ⟨v, vs, rfl, h1, h2⟩ := tri_of_trod Try.underlying28 Try.underlying39 (by kernel_rfl) rfl rfl rfl (by kernel_rfl) (by kernel_rfl) (by kernel_rfl) h
  obtain ⟨L, h3, h4⟩ := vals_of_reads Try.underlying9 Try.underlying3 Try.underlying37 Try.underlying3 (by kernel_rfl) h2
  exact ⟨v, L, rfl, vs, h1, h3, h4⟩

theorem decls_of_trod {H : Type} {enc : TypeId × Value → H} {w : World} {base : Nat} {held : Bool} {fuel : Nat} {cs : List Value} {x : DataW H × List MemPlace}
    (h : DataW.trod enc Try.prog w base (fun _ => true) held fuel 26 cs = some x) : ∃ v D, cs = [v] ∧ DeclsAt w v D := by
  obtain ⟨v, vs, rfl, h1, h2⟩ := tri_of_trod Try.underlying26 Try.underlying55 (by kernel_rfl) rfl rfl rfl (by kernel_rfl) (by kernel_rfl) (by kernel_rfl) h
  obtain ⟨D, rfl, h4⟩ := decls_of_reads Try.underlying9 Try.underlying3 Try.underlying3 h2
  exact ⟨v, D, rfl, h1, h4⟩

end Go.Proofs.Ytbmpnfibebiaeaa
