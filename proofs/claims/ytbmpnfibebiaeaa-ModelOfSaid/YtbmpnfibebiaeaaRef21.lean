/- The walk of sibylref21.Reach. -/
import Derived.Test.YtbmpnfibebiaeaaAdd14
import Derived.Test.YtbmpnfibebiaeaaReach
import Derived.Test.YtbmpnfibebiaeaaPkA
namespace Go.Proofs.Ytbmpnfibebiaeaa
open Go.RowKit

attribute [local irreducible] wpQuiet wpPlan wpPlanZ wpUp

variable {R : Ending → World → Prop} {w : World} {A : Au}

/-- The state of the reference's search: the states found in order, and rising. -/
structure RfSt (W1 : Nat) (w1 wr : World) (vl vo : Value) (l o : List Int) : Prop where
  own : OwnInts wr W1 vl l
  out : IntsAt wr vo o
  apart : ∀ b, live vo = some b → vl.ownBlock ≠ some b
  keep : Same w1 wr
  low : W1 = w1.heap.size
  rise : o.Pairwise (· < ·)
  mem : ∀ y, y ∈ o ↔ y ∈ l

theorem RfSt.same {W1 : Nat} {w1 wr wr' : World} {vl vo : Value} {l o : List Int} (h : RfSt W1 w1 wr vl vo l o) (k : Same wr wr') : RfSt W1 w1 wr' vl vo l o :=
  ⟨h.own.same k, h.out.same k, h.apart, h.keep.tr k, h.low, h.rise, h.mem⟩

theorem RfSt.swap {W1 : Nat} {w1 wr : World} {vl vo vo2 : Value} {l o o2 : List Int} (h : RfSt W1 w1 wr vl vo l o) (hi : IntsAt wr vo2 o2) (hb : ∀ b, live vo2 = some b → vl.ownBlock ≠ some b) (hr : o2.Pairwise (· < ·)) (hm : ∀ y, y ∈ o2 ↔ y ∈ l) :
    RfSt W1 w1 wr vl vo2 l o2 := ⟨h.own, hi, hb, h.keep, h.low, hr, hm⟩

theorem BfsI.out_len (h : AuOk A) {i : Nat} {l o : List Int} (hb : BfsI A i l) (ho : o.Pairwise (· < ·)) (hm : ∀ y, y ∈ o ↔ y ∈ l) : o.length ≤ A.acc.length := by
  have := nodup_lt A.acc.length (o.map Int.toNat) (by
    rw [List.nodup_iff_pairwise_ne, List.pairwise_map]
    refine List.Pairwise.imp_of_mem ?_ ho
    intro a b ha hb' hab e
    obtain ⟨s, rfl, _⟩ := hb.rch a ((hm a).1 ha)
    obtain ⟨t, rfl, _⟩ := hb.rch b ((hm b).1 hb')
    simp at e; omega) (by
    intro x hx
    obtain ⟨y, hy, rfl⟩ := List.mem_map.1 hx
    obtain ⟨s, rfl, hr⟩ := hb.rch y ((hm y).1 hy)
    simpa using hr.lt h)
  simpa using this

theorem RfSt.push {W1 : Nat} {w1 wr : World} {vl vo vo2 : Value} {l o o2 : List Int} {x : Int} (h : RfSt W1 w1 wr vl vo l o) (hl : l.length ≤ 1000) (hi : IntsAt wr vo2 o2) (hb : ∀ b, live vo2 = some b → vl.ownBlock ≠ some b) (hr : o2.Pairwise (· < ·)) (hm : ∀ y, y ∈ o2 ↔ y = x ∨ y ∈ o) :
    ∃ g cap w', (Builtin.append_ #[37, 37] 37 #[vl, .slice (some ⟨wr.heap.size, 0, none⟩) 1 1]).run Try.prog (wr.alloc (.cells #[.int .i64 x] 3)) = .ok (.slice (some ⟨g, 0, none⟩) (l.length + 1) cap) w' ∧
      RfSt W1 w1 w' (.slice (some ⟨g, 0, none⟩) (l.length + 1) cap) vo2 (l ++ [x]) o2 := by
  obtain ⟨g, cap, w', hr2, hown2, hk2, hg, _⟩ := append_one (P := Try.prog) wr 37 37 3 Try.underlying37 int_info rfl h.own (by rw [h.low]; exact h.keep.size) (.int .i64 x) rfl (by omega) (by decide)
  refine ⟨g, cap, w', hr2, ⟨?_, hi.keep hk2 hb, fun b hb2 e => ?_, h.keep.trans hk2 fun y hy _ => ⟨trivial, fun e => ?_⟩, h.low, hr, fun y => ?_⟩⟩
  · unfold OwnInts; simpa using hown2
  · simp [Value.ownBlock] at e
    subst e
    rcases hg with hg | hg
    · exact hb _ hb2 hg
    · have := hi.lt _ hb2; omega
  · have := (h.own.low e).1
    have := h.low; omega
  · rw [hm, h.mem, List.mem_append, List.mem_singleton]
    exact Or.comm

end Go.Proofs.Ytbmpnfibebiaeaa
