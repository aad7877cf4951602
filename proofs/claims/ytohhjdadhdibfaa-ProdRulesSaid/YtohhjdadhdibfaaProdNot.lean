/- The walk of prod.Not. -/
import Derived.Test.YtohhjdadhdibfaaPkB
namespace Go.Proofs.Ytohhjdadhdibfaa
open Go.RowKit

attribute [local irreducible] wpPlanZ wpPlan wpUp wpQuiet

variable {R : Ending → World → Prop} {w : World} {A : Au} {B d x : Nat} {T : Int} {u vn : Value} {acc : List Bool} {rows : List (List Int)}

/-- What is not accepted. -/
def notAu (A : Au) : Au := ⟨A.T, A.acc.map (!·), A.next⟩

theorem notAu_ok (h : AuOk A) : AuOk (notAu A) := by
  refine ⟨?_, fun l hl => ?_⟩
  · have := h.1
    simpa [notAu] using this
  · have := h.2 l hl
    simpa [notAu] using this

theorem notAu_not (A : Au) : notAu (notAu A) = A := by
  obtain ⟨T, acc, next⟩ := A
  simp [notAu, Function.comp_def]

/-- A bool in place. -/
theorem ToIn.flip {g n c k : Nat} {y : Bool} (h : ToIn w B x T (.slice (some ⟨g, 0, none⟩) n c) vn acc rows) (hk : k < acc.length) : ToIn (w.setCell ⟨g, k, none⟩ (.bool y)) B x T (.slice (some ⟨g, 0, none⟩) n c) vn (acc.set k y) rows := by
  obtain ⟨hBg, cur, hc⟩ := ownsRow_block h.acc (g := g) (by simp [Value.ownBlock])
  have ks : Keeps (· ≠ g) w (w.setCell ⟨g, k, none⟩ (.bool y)) := (Keeps.refl (· ≠ g) w).setCell (fun hh => hh.2 rfl) _
  have hgx : x ≠ g := by rintro rfl; rw [h.blk] at hc; simp at hc
  have hn : n = acc.length := by
    obtain ⟨s, c', e⟩ := ownsRow_shape h.acc
    simp only [Value.slice.injEq] at e
    exact e.2.1
  subst hn
  refine ⟨ks.at h.blk hgx, h.low, ?_, h.mat.keepT ks fun b cur' e hb he _ => ?_⟩
  · have := own_set (y := .bool y) h.acc hk
    unfold OwnBools
    rw [List.length_set, List.map_set]
    exact this
  · rintro rfl
    rw [hc] at hb
    simp only [Option.some.injEq, Obj.cells.injEq] at hb
    obtain ⟨_, rfl, _⟩ := hb
    rcases he with he | he <;> exact absurd he (by decide)

theorem prodNotNil (hR : ∀ e, e = .returned (.tuple #[.pointer none, .int .i64 1]) → R e w) :
    Calls Try.prog 16 #[.pointer none] w R := by
  have HR := hide hR
  clear hR
  go_enter Try.func16, Try.ntmps16
  go_wp2_with fail
  exact HR.out _ rfl

set_option maxRecDepth 10000 in
set_option maxHeartbeats 1000000 in
theorem prodNot (h : DFAAt w B d A) (hR : ∀ e w' d', e = .returned (.tuple #[.pointer (some ⟨d', 0, none⟩), .int .i64 0]) → DFAAt w' w.heap.size d' (notAu A) → Same w w' → R e w') :
    Calls Try.prog 16 #[.pointer (some ⟨d, 0, none⟩)] w R := by
  have HR := hide hR
  clear hR
  have HOK := hide h.ok
  have HNO := hide (notAu_ok h.ok)
  obtain ⟨W0, hW0⟩ : ∃ W0, W0 = w.heap.size := ⟨_, rfl⟩
  have HW0 := hide hW0
  clear hW0
  go_enter Try.func16, Try.ntmps16
  go_wp2_with fail
  refine dfaTo h ?_; rintro e w1 v1 rfl o1 k1
  obtain ⟨va, vn, rfl, ob1, om1⟩ := o1
  have h1n : 0 < A.acc.length := by have := HOK.out.1.2.2.1; omega
  have hn4 : A.acc.length ≤ 400 := HOK.out.1.2.2.2.1
  obtain ⟨gg, nc, rfl⟩ : ∃ gg nc, va = .slice (some ⟨gg, 0, none⟩) A.acc.length nc := own_shape_pos ob1 h1n
  obtain ⟨ma, mc, rfl⟩ := om1.shape
  have OB := hide ob1
  have OM := hide om1
  have K1 := hide k1
  clear ob1 om1 k1 h
  go_wp2_with fail
  have hto : ToIn (w1.alloc (.cells #[.int .i64 A.T, .slice (some ⟨gg, 0, none⟩) A.acc.length nc, .slice ma A.next.length mc] 25)) W0 w1.heap.size A.T (.slice (some ⟨gg, 0, none⟩) A.acc.length nc) (.slice ma A.next.length mc) A.acc A.next := by
    have ka : Same w1 (w1.alloc (.cells #[.int .i64 A.T, .slice (some ⟨gg, 0, none⟩) A.acc.length nc, .slice ma A.next.length mc] 25)) := (Keeps.refl _ w1).alloc _
    exact ⟨heap_new _ _, by rw [HW0.out]; exact K1.out.size, ownsRow_below (ownsRow_keep OB.out ka fun _ _ => trivial) (by rw [HW0.out]; exact Nat.le_refl _), (OM.out.same ka).below (by rw [HW0.out]; exact Nat.le_refl _)⟩
  have hk2 : Same w (w1.alloc (.cells #[.int .i64 A.T, .slice (some ⟨gg, 0, none⟩) A.acc.length nc, .slice ma A.next.length mc] 25)) := K1.out.alloc _
  generalize w1.alloc (.cells #[.int .i64 A.T, .slice (some ⟨gg, 0, none⟩) A.acc.length nc, .slice ma A.next.length mc] 25) = w2 at hto hk2 ⊢
  generalize w1.heap.size = x at hto ⊢
  have HT0 := hide hto
  have HK2 := hide hk2
  clear OB OM K1 hto hk2
  go_loopw [14] (fun i wr => ∃ k : Nat, i = .int .i64 k ∧ k ≤ A.acc.length ∧ Hid (ToIn wr W0 x A.T (.slice (some ⟨gg, 0, none⟩) A.acc.length nc) (.slice ma A.next.length mc) ((A.acc.take k).map (!·) ++ A.acc.drop k) A.next) ∧ Same w wr) (fun i _ => A.acc.length - (intOf i).toNat)
  case atStart => exact ⟨0, rfl, Nat.zero_le _, hide (by simpa using HT0.out), HK2.out⟩
  case round =>
    obtain ⟨k, rfl, hk, hto, hK⟩ := hrel
    by_cases hlt : k < A.acc.length
    · have hlen : ((A.acc.take k).map (!·)).length = k := by simp; omega
      have hek : ((A.acc.take k).map (!·) ++ A.acc.drop k)[k]? = some A.acc[k] := by
        rw [List.getElem?_append_right (by omega), hlen, Nat.sub_self, List.getElem?_drop, Nat.add_zero, List.getElem?_eq_getElem hlt]
      have hset : ((A.acc.take k).map (!·) ++ A.acc.drop k).set k (!A.acc[k]) = (A.acc.take (k + 1)).map (!·) ++ A.acc.drop (k + 1) := by
        rw [List.set_append_right _ _ (by omega), hlen, Nat.sub_self, List.drop_eq_getElem_cons hlt, List.set_cons_zero, List.take_succ_eq_append_getElem hlt, List.map_append, List.append_assoc]
        rfl
      have hkl := (List.getElem?_eq_some_iff.1 hek).1
      generalize A.acc[k] = b at hek hset
      generalize (A.acc.take k).map (!·) ++ A.acc.drop k = cur at hek hset hkl hto
      have hto1 := hto.out
      obtain ⟨_, cc, hcc⟩ := ownsRow_block hto1.acc (g := gg) (by simp [Value.ownBlock])
      have q1 := cell_at hto1.blk 1
      simp only [List.getElem?_toArray, List.getElem?_cons_zero, List.getElem?_cons_succ] at q1
      have z1 : wr.cell? ⟨gg, k, none⟩ = some (.bool b) := by
        obtain ⟨_, _, e1, _, _, hcl⟩ := hto1.acc.bools.open
        simp only [Value.slice.injEq] at e1
        obtain ⟨rfl, _, _⟩ := e1
        obtain ⟨bb, oo, e2, _, hcl2⟩ := hcl k hkl
        simp only [Option.some.injEq, Addr.mk.injEq] at e2
        obtain ⟨rfl, rfl, _⟩ := e2
        have := hcl2 k hkl
        rw [Nat.zero_add] at this
        rw [this]
        have e3 := (List.getElem?_eq_some_iff.1 hek).2
        rw [e3]
      have z2 : wr.frozen? ⟨gg, k, none⟩ = false := free_at hcc k
      have hto2 := hto1.flip (y := !b) hkl
      rw [hset] at hto2
      have hk4 : Same w (wr.setCell ⟨gg, k, none⟩ (.bool (!b))) := hK.setCell (fun hh => by
        have := (ownsRow_block hto1.acc (g := gg) (by simp [Value.ownBlock])).1
        rw [HW0.out] at this
        have h2 := hh.1
        simp at h2; omega) _
      have HF := hide (And.intro hto2 hk4)
      clear hto hto1 hto2 hk4 hK hset hek hcc hlen
      go_wp2_with fail
      go_roundw
      case rel => exact ⟨k + 1, by go_num, by omega, HF.out.1 |> hide, HF.out.2⟩
      case measure => simp [intOf]; omega
    · obtain rfl : k = A.acc.length := by omega
      have hto2 := hto.out
      rw [List.take_length, List.drop_length, List.append_nil] at hto2
      have x0 := cell_at hto2.blk 0
      have x1 := cell_at hto2.blk 1
      have x2 := cell_at hto2.blk 2
      simp only [List.getElem?_toArray, List.getElem?_cons_zero, List.getElem?_cons_succ] at x0 x1 x2
      have HAT : Hid (AutoAt wr (.agg #[.int .i64 A.T, .slice (some ⟨gg, 0, none⟩) A.acc.length nc, .slice ma A.next.length mc]) (notAu A)) := hide (by
        have hb := HNO.out.bounds
        exact ⟨_, _, rfl, hto2.acc.bools, hto2.mat.rows hb.2, hb.1⟩)
      have HKW := hide hK
      clear hto hto2 hK
      go_wp2_with fail
      refine autoFrom HAT.out HNO.out ?_; rintro e w4 d4 rfl dd4 k4
      have HF := hide (And.intro (dd4.below HKW.out.size) (HKW.out.tr k4))
      clear dd4 k4
      go_wp2_with fail
      exact HR.out _ _ d4 rfl HF.out.1 HF.out.2

end Go.Proofs.Ytohhjdadhdibfaa
