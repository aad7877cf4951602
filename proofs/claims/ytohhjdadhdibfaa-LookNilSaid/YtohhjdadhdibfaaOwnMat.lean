/- A slice of slices of ints, all of it the call's own. -/
import Derived.Test.YtohhjdadhdibfaaOwnRows
namespace Go.Proofs.Ytohhjdadhdibfaa
open Go.RowKit

variable {R : Ending → World → Prop} {w : World}

/-- 's = append(s, x)', s the call's own, an element of one cell (of at most 24 bytes). -/
theorem append_wide {P : Program} (w : World) (t ty e : TypeId) {z : Value} {bytes : Nat} (ht : P.underlying t = some (.slice e)) (hi : (P.info? e).map (fun i => (i.zero, i.size, i.bytes)) = some (some z, 1, bytes))
    (hzs : z.cells.size = 1) {base : Nat} {v : Value} {n : Nat} {xs : List Value} (hown : w.ownsRow base e 1 v n xs) (hbase : base ≤ w.heap.size) (x : Value) (hx : x.oneCell' = true) (hn : n + 1 ≤ 1000000) (hby : bytes ≤ 24) :
    ∃ g cap w', (Builtin.append_ #[t, t] ty #[v, .slice (some ⟨w.heap.size, 0, none⟩) 1 1]).run P (w.alloc (.cells #[x] e)) = .ok (.slice (some ⟨g, 0, none⟩) (n + 1) cap) w' ∧
      w'.ownsRow base e 1 (.slice (some ⟨g, 0, none⟩) (n + 1) cap) (n + 1) (xs ++ [x]) ∧ Keeps (fun b => v.ownBlock ≠ some b) w w' ∧ (v.ownBlock = some g ∨ w.heap.size ≤ g) ∧ g < w'.heap.size := by
  obtain ⟨i0, hi0, hz0, hz1, hz2⟩ := info_parts hi
  have hb : (n + 1) * bytes ≤ 140737488355328 := Nat.le_trans (Nat.mul_le_mul hn hby) (by omega)
  obtain ⟨g, cap, w', h1, h2, h3, h4, h5⟩ := run_append_lies (P := P) _ t ty base e i0 z 1 bytes ht hi0 hz0 hz1 hz2 hzs (by decide) v n xs (hown.alloc (.cells #[x] e))
    ⟨w.heap.size, 0, none⟩ 1 1 [x] rfl (World.news_of_block (cs := #[x]) (heap_new w (.cells #[x] e))) (by simp [hx]) (by decide) (by unfold maxLen; omega) hb (by simp; omega) (w.heap.size + 1) (by simp)
  refine ⟨g, cap, w', h1, h2, ((Keeps.refl _ w).alloc _).grown h3 (by intro k hk hh; exact hh.2 hk), ?_, h5⟩
  rcases h4 with h4 | h4
  · exact .inl h4
  · exact .inr (by omega)

theorem ownsRow_below {e : TypeId} {z B B' n : Nat} {v : Value} {xs : List Value} (h : w.ownsRow B e z v n xs) (hB : B' ≤ B) : w.ownsRow B' e z v n xs := by
  refine ⟨h.1, ?_⟩
  rcases h.2 with h0 | ⟨g, cap, cur, e, hg, rest⟩
  · exact .inl h0
  · exact .inr ⟨g, cap, cur, e, Nat.le_trans hB hg, rest⟩

theorem ownsRow_keep {S : Nat → Prop} {w' : World} {e : TypeId} {z B n : Nat} {v : Value} {xs : List Value} (h : w.ownsRow B e z v n xs) (k : Keeps S w w') (hs : ∀ b, v.ownBlock = some b → S b) : w'.ownsRow B e z v n xs := by
  refine ⟨h.1, ?_⟩
  rcases h.2 with h0 | ⟨g, cap, cur, rfl, hb, hg, rest⟩
  · exact .inl h0
  · exact .inr ⟨g, cap, cur, rfl, hb, k.at hg (hs g rfl), rest⟩

/-- The block of a row that is the call's own holds cells of its type. -/
theorem ownsRow_block {e : TypeId} {z B n : Nat} {v : Value} {xs : List Value} (h : w.ownsRow B e z v n xs) {g : Nat} (hg : v.ownBlock = some g) : B ≤ g ∧ ∃ cur, w.heap[g]? = some (.cells cur e (0, 0)) := by
  rcases h.2 with ⟨rfl, h0⟩ | ⟨g', cap, cur, rfl, hb, hh, rest⟩
  · simp [Value.ownBlock] at hg
  · simp [Value.ownBlock] at hg
    subst hg
    exact ⟨hb, cur, hh⟩

theorem ownsRow_shape {e : TypeId} {z B n : Nat} {v : Value} {xs : List Value} (h : w.ownsRow B e z v n xs) : ∃ s c, v = .slice s n c := by
  rcases h.2 with ⟨e, h0⟩ | ⟨g', cap', cur, e, _⟩
  · exact ⟨none, 0, by rw [e, h0]⟩
  · exact ⟨_, _, e⟩

theorem OwnInts.shape {B : Nat} {v : Value} {l : List Int} (h : OwnInts w B v l) : ∃ s c, v = .slice s l.length c := by
  rcases h.2 with ⟨e, h0⟩ | ⟨g', cap', cur, e, _⟩
  · exact ⟨none, 0, by rw [e, h0]⟩
  · exact ⟨_, _, e⟩

/-- v is a slice of rows of ints; its block, and each row's, is the call's own (from B on). -/
def OwnMat (w : World) (B : Nat) (v : Value) (rows : List (List Int)) : Prop :=
  ∃ vs : List Value, w.ownsRow B 40 1 v rows.length vs ∧ vs.length = rows.length ∧ ∀ (i : Nat) (u : Value) (l : List Int), vs[i]? = some u → rows[i]? = some l → OwnInts w B u l

theorem OwnMat.nil (w : World) (B : Nat) : OwnMat w B (.slice none 0 0) [] := ⟨[], World.ownsRow_nil _ _ _ _, rfl, by simp⟩

theorem OwnMat.keep {S : Nat → Prop} {w' : World} {B : Nat} {v : Value} {rows : List (List Int)} (h : OwnMat w B v rows) (k : Keeps S w w') (hs : ∀ b cur e, w.heap[b]? = some (.cells cur e (0, 0)) → B ≤ b → S b) : OwnMat w' B v rows := by
  obtain ⟨vs, h1, h2, h3⟩ := h
  refine ⟨vs, ownsRow_keep h1 k fun b hb => ?_, h2, fun i u l hu hl => (h3 i u l hu hl).keep k fun b hb => ?_⟩
  · obtain ⟨hB, cur, hc⟩ := ownsRow_block h1 hb
    exact hs b cur _ hc hB
  · obtain ⟨hB, cur, hc⟩ := ownsRow_block (h3 i u l hu hl) hb
    exact hs b cur _ hc hB

theorem OwnMat.same {w' : World} {B : Nat} {v : Value} {rows : List (List Int)} (h : OwnMat w B v rows) (k : Same w w') : OwnMat w' B v rows := h.keep k fun _ _ _ _ _ => trivial

theorem OwnMat.below {B B' : Nat} {v : Value} {rows : List (List Int)} (h : OwnMat w B v rows) (hB : B' ≤ B) : OwnMat w B' v rows := by
  obtain ⟨vs, h1, h2, h3⟩ := h
  exact ⟨vs, ownsRow_below h1 hB, h2, fun i u l hu hl => ownsRow_below (h3 i u l hu hl) hB⟩

theorem OwnMat.shape {B : Nat} {v : Value} {rows : List (List Int)} (h : OwnMat w B v rows) : ∃ s c, v = .slice s rows.length c := by
  obtain ⟨vs, h1, h2, h3⟩ := h
  rcases h1.2 with ⟨e, h0⟩ | ⟨g', cap', cur, e, _⟩
  · exact ⟨none, 0, by rw [e, h0]⟩
  · exact ⟨_, _, e⟩

/-- What the call owns reads as rows. -/
theorem OwnMat.rows {B : Nat} {v : Value} {rows : List (List Int)} (h : OwnMat w B v rows) (hb : ∀ l ∈ rows, ∀ x ∈ l, InI64 x) : RowsAt w v rows := by
  obtain ⟨vs, h1, h2, h3⟩ := h
  refine ⟨vs, ?_, h2, fun i u l hu hl => (h3 i u l hu hl).ints (hb l (List.mem_of_getElem? hl))⟩
  rcases h1.2 with ⟨rfl, h0⟩ | ⟨g, cap, cur, rfl, hB, hg, q1, q2, q3, q4⟩
  · have : vs = [] := List.eq_nil_of_length_eq_zero (by omega)
    subst this
    exact ⟨none, 0, rfl, Nat.le_refl _, Nat.zero_le _, .inl rfl⟩
  · refine ⟨_, cap, by rw [h2], by omega, q2, .inr ⟨g, 0, cur, _, _, rfl, hg, fun i x hx => ?_⟩⟩
    rw [← q4] at hx
    rw [List.getElem?_take] at hx
    split at hx
    · simpa using hx
    · cases hx

/-- A row more at the end. -/
theorem OwnMat.push {B : Nat} {v u : Value} {rows : List (List Int)} {l : List Int} (h : OwnMat w B v rows) (hB : B ≤ w.heap.size) (hu : OwnInts w B u l) (hn : rows.length + 1 ≤ 1000000) :
    ∃ g cap w', (Builtin.append_ #[23, 23] 23 #[v, .slice (some ⟨w.heap.size, 0, none⟩) 1 1]).run Try.prog (w.alloc (.cells #[u] 40)) = .ok (.slice (some ⟨g, 0, none⟩) (rows.length + 1) cap) w' ∧
      OwnMat w' B (.slice (some ⟨g, 0, none⟩) (rows.length + 1) cap) (rows ++ [l]) ∧ Keeps (fun b => v.ownBlock ≠ some b) w w' ∧ Keeps (· < B) w w' ∧ g < w'.heap.size ∧ (v.ownBlock = some g ∨ w.heap.size ≤ g) := by
  obtain ⟨vs, h1, h2, h3⟩ := h
  have hone : u.oneCell' = true := by
    rcases hu.2 with ⟨rfl, _⟩ | ⟨g, cap, cur, rfl, _⟩ <;> rfl
  obtain ⟨g, cap, w', q1, q2, q3, q4, q5⟩ := append_wide (P := Try.prog) w 23 23 40 Try.underlying23 ints_info rfl h1 hB u hone hn (by decide)
  refine ⟨g, cap, w', q1, ⟨vs ++ [u], by simpa using q2, by simp [h2], fun i z m hz hm => ?_⟩, q3, q3.mono fun x _ hx e => ?_, q5, q4⟩
  · have hne : ∀ {z : Value} {m : List Int}, OwnInts w B z m → OwnInts w' B z m := fun hh => hh.keep q3 fun b hb e => by
      obtain ⟨_, cur, hc⟩ := ownsRow_block h1 e
      exact hh.ne_block hc (by decide) hb
    by_cases hi : i < rows.length
    · rw [List.getElem?_append_left (by omega)] at hz
      rw [List.getElem?_append_left hi] at hm
      exact hne (h3 i z m hz hm)
    · have hi2 : i = rows.length := by
        have := (List.getElem?_eq_some_iff.1 hm).1
        simp at this; omega
      subst hi2
      rw [List.getElem?_append_right (by omega)] at hz hm
      simp [h2] at hz hm
      subst hz; subst hm
      exact hne hu
  · have : x < B := hx
    have := (ownsRow_block h1 e).1
    omega

end Go.Proofs.Ytohhjdadhdibfaa
