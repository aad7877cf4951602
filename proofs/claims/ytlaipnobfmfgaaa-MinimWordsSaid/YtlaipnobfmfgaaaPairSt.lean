/- The state of pair.maker's walk, and its steps. -/
import Derived.Test.YtlaipnobfmfgaaaPairLaw
namespace Go.Proofs.Ytlaipnobfmfgaaa
open Go.RowKit

variable {w : World} {a T m : Nat} {L : List Nd} {G : Int → Int → Option Int} {A : List ((Int × Int) × Value)} {K : World → Prop}

/-- The state: a Store, the memory, what stands still. -/
structure PS (K : World → Prop) (G : Int → Int → Option Int) (m a T : Nat) (w : World) (L : List Nd) (A : List ((Int × Int) × Value)) : Prop where
  st : StoreAt w a T L
  map : MapAt pairV w m A
  off : ¬ Foot w a m
  memo : PMemo L G A
  hold : K w

/-- What a step leaves. -/
structure PStep (a m : Nat) (w w' : World) : Prop where
  foot : ∀ b, Foot w' a b → Foot w a b ∨ w.heap.size ≤ b
  keeps : Keeps (fun b => ¬ Foot w a b ∧ b ≠ m) w w'

theorem PStep.refl (a m : Nat) (w : World) : PStep a m w w := ⟨fun _ h => .inl h, Keeps.refl _ _⟩

theorem PStep.trans {w1 w2 : World} (h : PStep a m w w1) (k : PStep a m w1 w2) : PStep a m w w2 := by
  refine ⟨fun b hb => ?_, h.keeps.trans k.keeps fun x hx hs => ⟨hs, fun hf => (h.foot x hf).elim hs.1 (by omega), hs.2⟩⟩
  rcases k.foot b hb with h1 | h1
  · exact h.foot b h1
  · exact .inr (Nat.le_trans h.keeps.size h1)

theorem PStep.grew {w' : World} (g : Grew a w w') : PStep a m w w' := ⟨g.foot, g.keeps.mono fun _ _ h => h.1⟩

theorem PS.same_step {w' : World} (h : PS K G m a T w L A) (k : Same w w') : PStep a m w w' := PStep.grew (Grew.under h.st k)

/-- What stands still whatever a step does. -/
def SafeK (K : World → Prop) (a m : Nat) : Prop := ∀ w w', K w → PStep a m w w' → K w'

/-- Blocks that stand still, and ints. -/
structure Stand (a m : Nat) (bs : List (Nat × Array Value × TypeId)) (tv : Value) (tl : List Int) (w : World) : Prop where
  cells : ∀ p ∈ bs, w.heap[p.1]? = some (.cells p.2.1 p.2.2 (0, 0)) ∧ ¬ Foot w a p.1 ∧ p.1 ≠ m
  ints : IntsAt w tv tl
  off : ∀ b, live tv = some b → ¬ Foot w a b ∧ b ≠ m

theorem PStep.off {w' : World} (k : PStep a m w w') {b : Nat} (hb : b < w.heap.size) (h : ¬ Foot w a b) : ¬ Foot w' a b := fun hh => (k.foot b hh).elim h (by omega)

theorem Stand.safe (bs : List (Nat × Array Value × TypeId)) (tv : Value) (tl : List Int) : SafeK (Stand a m bs tv tl) a m := fun _ _ h k =>
  ⟨fun p hp => ⟨k.keeps.at (h.cells p hp).1 (h.cells p hp).2, k.off (heap_lt (h.cells p hp).1) (h.cells p hp).2.1, (h.cells p hp).2.2⟩,
    h.ints.keep k.keeps h.off, fun b hb => ⟨k.off (h.ints.lt b hb) (h.off b hb).1, (h.off b hb).2⟩⟩

theorem PS.same {w' : World} (h : PS K G m a T w L A) (hs : SafeK K a m) (k : Same w w') : PS K G m a T w' L A := by
  obtain ⟨v, m', e1, _⟩ := h.st.st
  exact ⟨h.st.same k, h.map.keep k trivial, fun hh => h.off ((foot_same ((k.at e1 trivial).trans e1.symm) m).1 hh), h.memo, hs _ _ h.hold (h.same_step k)⟩

theorem PS.grew {w' : World} {L' : List Nd} (h : PS K G m a T w L A) (hs : SafeK K a m) (g : Grew a w w') (st : StoreAt w' a T L') (hp : L <+: L') : PS K G m a T w' L' A := by
  have hm := h.map
  obtain ⟨es, clk, hmm, _⟩ := hm
  exact ⟨st, h.map.keep g.keeps h.off, fun hh => (g.foot m hh).elim h.off (by have := heap_lt hmm; omega), h.memo.prefx h.st.wf st.wf hp, hs _ _ h.hold (PStep.grew g)⟩

/-- The answer is written down. -/
theorem PS.update (h : PS K G m a T w L A) (hs : SafeK K a m) {f g : Nat} {r : Int} (hf : f < L.length) (hg : g < L.length) (hr : PairAns L G f g r) :
    ∃ w' A', (Instr.mapUpdate 135 (.map (some m)) (.agg #[.int .i64 (f : Int), .int .i64 (g : Int)]) (.int .i64 r)).run Try.prog w = .ok () w' ∧ PS K G m a T w' L A' ∧ PStep a m w w' := by
  obtain ⟨w6, A6, hr6, m6, q6, kk6⟩ := run_update_any pairKeys Try.underlying135 h.map ((f : Int), (g : Int)) (.int .i64 r)
  have hf6 : ∀ b, Foot w6 a b ↔ Foot w a b := by
    obtain ⟨v, m', e1, _⟩ := h.st.st
    exact foot_same ((kk6.at e1 (by rintro rfl; exact h.off (.inl rfl))).trans e1.symm)
  have t6 : PStep a m w w6 := ⟨fun b hb => .inl ((hf6 b).1 hb), kk6.mono fun _ _ h => h.2⟩
  refine ⟨w6, A6, hr6, ⟨h.st.keep kk6 (fun b hb => by rintro rfl; exact h.off hb), m6, fun hh => h.off ((hf6 m).1 hh), fun p hpA => ?_, hs _ _ h.hold t6⟩, t6⟩
  rcases q6 p hpA with h1 | h1
  · exact h.memo p h1
  · exact ⟨f, g, r, h1, hf, hg, hr⟩

end Go.Proofs.Ytlaipnobfmfgaaa
