/- Slices whose elements are structs of three fields; values and variables in memory. -/
import Derived.Test.YtbmpnfibebiaeaaPkA
namespace Go.Proofs.Ytbmpnfibebiaeaa
open Go.RowKit

variable {w : World}

/-- A value: its name, its order, its set. -/
structure Vl where
  name : ByteArray
  ord : Int
  set : List Int
  deriving DecidableEq

/-- The slice value v reads as elements of three cells each. -/
def TriAt (w : World) (v : Value) (vs : List (Value × Value × Value)) : Prop :=
  ∃ a c, v = .slice a vs.length c ∧ vs.length ≤ c ∧ c ≤ maxLen ∧
    (vs = [] ∨ ∃ b off cur e fr, a = some ⟨b, off, none⟩ ∧ w.heap[b]? = some (.cells cur e fr) ∧ ∀ i x, vs[i]? = some x → cur[off + i * 3]? = some x.1 ∧ cur[off + i * 3 + 1]? = some x.2.1 ∧ cur[off + i * 3 + 2]? = some x.2.2)

theorem TriAt.keep {S : Nat → Prop} {w' : World} {v : Value} {vs : List (Value × Value × Value)} (h : TriAt w v vs) (k : Keeps S w w') (hs : ∀ b, live v = some b → S b) : TriAt w' v vs := by
  obtain ⟨a, c, rfl, h1, h2, h3⟩ := h
  refine ⟨a, c, rfl, h1, h2, ?_⟩
  rcases h3 with h3 | ⟨b, off, cur, e, fr, rfl, h4, h5⟩
  · exact .inl h3
  · cases vs with
    | nil => exact .inl rfl
    | cons x xs => exact .inr ⟨b, off, cur, e, fr, rfl, k.at h4 (hs b rfl), h5⟩

theorem TriAt.same {w' : World} {v : Value} {vs : List (Value × Value × Value)} (h : TriAt w v vs) (k : Same w w') : TriAt w' v vs := h.keep k fun _ _ => trivial

theorem TriAt.open {v : Value} {vs : List (Value × Value × Value)} (h : TriAt w v vs) : ∃ a c, v = .slice a vs.length c ∧ vs.length ≤ c ∧ c ≤ maxLen ∧
    (∀ k (_ : k < vs.length), ∃ b off, a = some ⟨b, off, none⟩ ∧ b < w.heap.size ∧ ∀ i (hi : i < vs.length), w.cell? ⟨b, off + i * 3, none⟩ = some vs[i].1 ∧ w.cell? ⟨b, off + i * 3 + 1, none⟩ = some vs[i].2.1 ∧ w.cell? ⟨b, off + i * 3 + 2, none⟩ = some vs[i].2.2) := by
  obtain ⟨a, c, rfl, h1, h2, h3⟩ := h
  refine ⟨a, c, rfl, h1, h2, fun k hk => ?_⟩
  rcases h3 with rfl | ⟨b, off, cur, e, fr, rfl, h6, h7⟩
  · simp at hk
  · refine ⟨b, off, rfl, heap_lt h6, fun i hi => ?_⟩
    rw [cell_at h6, cell_at h6, cell_at h6]
    exact h7 i _ (List.getElem?_eq_getElem hi)

/-- The cells of elements of three. -/
def flat3 (vs : List (Value × Value × Value)) : List Value := vs.flatMap fun x => [x.1, x.2.1, x.2.2]

theorem flat3_length (vs : List (Value × Value × Value)) : (flat3 vs).length = vs.length * 3 := by
  induction vs with
  | nil => rfl
  | cons x xs ih => simp only [flat3, List.flatMap_cons, List.length_append, List.length_cons, List.length_nil] at ih ⊢; omega

theorem flat3_snoc (vs : List (Value × Value × Value)) (x : Value × Value × Value) : flat3 (vs ++ [x]) = flat3 vs ++ [x.1, x.2.1, x.2.2] := by
  simp [flat3, List.flatMap_append]

theorem flat3_get : ∀ {vs : List (Value × Value × Value)} {i : Nat} {x : Value × Value × Value}, vs[i]? = some x → (flat3 vs)[i * 3]? = some x.1 ∧ (flat3 vs)[i * 3 + 1]? = some x.2.1 ∧ (flat3 vs)[i * 3 + 2]? = some x.2.2
  | [], i, x, h => by simp at h
  | y :: vs, 0, x, h => by
    simp at h
    subst h
    simp [flat3]
  | y :: vs, i + 1, x, h => by
    simp at h
    have := flat3_get h
    rw [show (i + 1) * 3 = i * 3 + 3 by omega]
    simpa [flat3] using this

/-- What the call owns reads as elements of three. -/
theorem tri_of_owns {e : TypeId} {B : Nat} {v : Value} {vs : List (Value × Value × Value)} (h : w.ownsRow B e 3 v vs.length (flat3 vs)) : TriAt w v vs := by
  rcases h.2 with ⟨rfl, h0⟩ | ⟨g, cap, cur, rfl, hB, hg, q1, q2, q3, q4⟩
  · have : vs = [] := List.eq_nil_of_length_eq_zero h0
    subst this
    exact ⟨none, 0, rfl, Nat.le_refl _, Nat.zero_le _, .inl rfl⟩
  · refine ⟨_, cap, rfl, q1, q2, .inr ⟨g, 0, cur, _, _, rfl, hg, fun i x hx => ?_⟩⟩
    have hl := (List.getElem?_eq_some_iff.1 hx).1
    have h3 := flat3_get hx
    rw [← q4] at h3
    simp only [List.getElem?_take] at h3
    rw [if_pos (by omega), if_pos (by omega), if_pos (by omega)] at h3
    simp only [Nat.zero_add]
    refine ⟨by simpa using h3.1, by simpa using h3.2.1, by simpa using h3.2.2⟩

/-- 's = append(s, x)', s the call's own, an element of three cells (of at most 64 bytes). -/
theorem append_tri {P : Program} (w : World) (t ty e : TypeId) {z : Value} {bytes : Nat} (ht : P.underlying t = some (.slice e)) (hi : (P.info? e).map (fun i => (i.zero, i.size, i.bytes)) = some (some z, 3, bytes))
    (hzs : z.cells.size = 3) {base : Nat} {v : Value} {vs : List (Value × Value × Value)} {n : Nat} (hn' : n = vs.length) (hown : w.ownsRow base e 3 v n (flat3 vs)) (hbase : base ≤ w.heap.size) (x : Value × Value × Value) (h0 : x.1.oneCell' = true) (h1 : x.2.1.oneCell' = true) (h2 : x.2.2.oneCell' = true) (hn : n + 1 ≤ 1000000) (hby : bytes ≤ 64) :
    ∃ g cap w', (Builtin.append_ #[t, t] ty #[v, .slice (some ⟨w.heap.size, 0, none⟩) 1 1]).run P (w.alloc (.cells #[x.1, x.2.1, x.2.2] e)) = .ok (.slice (some ⟨g, 0, none⟩) (n + 1) cap) w' ∧
      w'.ownsRow base e 3 (.slice (some ⟨g, 0, none⟩) (n + 1) cap) (n + 1) (flat3 (vs ++ [x])) ∧ Keeps (fun b => v.ownBlock ≠ some b) w w' ∧ (v.ownBlock = some g ∨ w.heap.size ≤ g) ∧ g < w'.heap.size := by
  obtain ⟨i0, hi0, hz0, hz1, hz2⟩ := info_parts hi
  have hb : (n + 1) * bytes ≤ 140737488355328 := Nat.le_trans (Nat.mul_le_mul hn hby) (by omega)
  obtain ⟨g, cap, w', h1, h2, h3, h4, h5⟩ := run_append_lies (P := P) _ t ty base e i0 z 3 bytes ht hi0 hz0 hz1 hz2 hzs (by decide) v n (flat3 vs) (hown.alloc (.cells #[x.1, x.2.1, x.2.2] e))
    ⟨w.heap.size, 0, none⟩ 1 1 [x.1, x.2.1, x.2.2] rfl (World.news_of_block (cs := #[x.1, x.2.1, x.2.2]) (heap_new w (.cells #[x.1, x.2.1, x.2.2] e))) (by simp [h0, h1, h2]) (by decide) (by unfold maxLen; omega) hb (by simp; omega) (w.heap.size + 1) (by simp)
  refine ⟨g, cap, w', h1, by rw [flat3_snoc]; exact h2, ((Keeps.refl _ w).alloc _).grown h3 (by intro k hk hh; exact hh.2 hk), ?_, h5⟩
  rcases h4 with h4 | h4
  · exact .inl h4
  · exact .inr (by omega)

theorem own_nil3 (w : World) (e : TypeId) {B : Nat} (hB : B ≤ w.heap.size) : (w.alloc (.cells #[] e)).ownsRow B e 3 (.slice (some ⟨w.heap.size, 0, none⟩) 0 0) 0 [] :=
  World.ownsRow_lit (base := B) (e := e) (size := 3) w #[] 0 hB (Nat.zero_le _) rfl

/-- The slice value v reads as the values L. -/
def ValsAt (w : World) (v : Value) (L : List Vl) : Prop :=
  ∃ vs, TriAt w v vs ∧ vs.length = L.length ∧ ∀ (i : Nat) (x : Value × Value × Value) (l : Vl), vs[i]? = some x → L[i]? = some l → x.1 = .string l.name ∧ x.2.1 = .int .i64 l.ord ∧ IntsAt w x.2.2 l.set ∧ InI64 l.ord ∧ l.name.size ≤ maxLen

theorem ValsAt.same {w' : World} {v : Value} {L : List Vl} (h : ValsAt w v L) (k : Same w w') : ValsAt w' v L := by
  obtain ⟨vs, h1, h2, h3⟩ := h
  refine ⟨vs, h1.same k, h2, fun i x l hx hl => ?_⟩
  obtain ⟨q1, q2, q3, q4⟩ := h3 i x l hx hl
  exact ⟨q1, q2, q3.same k, q4⟩

theorem ValsAt.open {v : Value} {L : List Vl} (h : ValsAt w v L) : ∃ a c, ∃ us : List Value, v = .slice a L.length c ∧ L.length ≤ c ∧ c ≤ maxLen ∧ us.length = L.length ∧ (∀ (i : Nat) (u : Value) (l : Vl), us[i]? = some u → L[i]? = some l → IntsAt w u l.set ∧ InI64 l.ord ∧ l.name.size ≤ maxLen) ∧
    (∀ k (_ : k < L.length), ∃ b off, a = some ⟨b, off, none⟩ ∧ b < w.heap.size ∧ ∀ (i : Nat) (u : Value) (l : Vl), us[i]? = some u → L[i]? = some l → w.cell? ⟨b, off + i * 3, none⟩ = some (.string l.name) ∧ w.cell? ⟨b, off + i * 3 + 1, none⟩ = some (.int .i64 l.ord) ∧ w.cell? ⟨b, off + i * 3 + 2, none⟩ = some u) := by
  obtain ⟨vs, h1, h2, h3⟩ := h
  obtain ⟨a, c, rfl, q1, q2, q3⟩ := h1.open
  refine ⟨a, c, vs.map (·.2.2), by rw [h2], by omega, q2, by simpa using h2, fun i u l hu hl => ?_, fun k hk => ?_⟩
  · simp only [List.getElem?_map, Option.map_eq_some_iff] at hu
    obtain ⟨x, hx, rfl⟩ := hu
    exact (h3 i x l hx hl).2.2
  · obtain ⟨b, off, rfl, hb, hc⟩ := q3 k (by omega)
    refine ⟨b, off, rfl, hb, fun i u l hu hl => ?_⟩
    simp only [List.getElem?_map, Option.map_eq_some_iff] at hu
    obtain ⟨x, hx, rfl⟩ := hu
    obtain ⟨hi, rfl⟩ := List.getElem?_eq_some_iff.1 hx
    obtain ⟨c0, c1, c2⟩ := hc i hi
    obtain ⟨e0, e1, _⟩ := h3 i _ l (List.getElem?_eq_getElem hi) hl
    exact ⟨by rw [c0, e0], by rw [c1, e1], c2⟩

/-- A variable: its name, its order, where it stands. -/
structure Dl where
  name : ByteArray
  ord : Int
  spot : Int

/-- The slice value v reads as the variables D. -/
def DeclsAt (w : World) (v : Value) (D : List Dl) : Prop :=
  TriAt w v (D.map fun d => (.string d.name, .int .i64 d.ord, .int .i64 d.spot)) ∧ ∀ d ∈ D, InI64 d.ord ∧ InI64 d.spot ∧ d.name.size ≤ maxLen

theorem DeclsAt.same {w' : World} {v : Value} {D : List Dl} (h : DeclsAt w v D) (k : Same w w') : DeclsAt w' v D := ⟨h.1.same k, h.2⟩

theorem DeclsAt.open {v : Value} {D : List Dl} (h : DeclsAt w v D) : ∃ a c, v = .slice a D.length c ∧ D.length ≤ c ∧ c ≤ maxLen ∧
    (∀ k (_ : k < D.length), ∃ b off, a = some ⟨b, off, none⟩ ∧ b < w.heap.size ∧ ∀ i (hi : i < D.length), w.cell? ⟨b, off + i * 3, none⟩ = some (.string D[i].name) ∧ w.cell? ⟨b, off + i * 3 + 1, none⟩ = some (.int .i64 D[i].ord) ∧ w.cell? ⟨b, off + i * 3 + 2, none⟩ = some (.int .i64 D[i].spot)) := by
  obtain ⟨a, c, rfl, q1, q2, q3⟩ := h.1.open
  simp only [List.length_map] at *
  refine ⟨a, c, rfl, q1, q2, fun k hk => ?_⟩
  obtain ⟨b, off, rfl, hb, hc⟩ := q3 k (by simpa using hk)
  refine ⟨b, off, rfl, hb, fun i hi => ?_⟩
  have := hc i (by simpa using hi)
  simpa using this

end Go.Proofs.Ytbmpnfibebiaeaa
