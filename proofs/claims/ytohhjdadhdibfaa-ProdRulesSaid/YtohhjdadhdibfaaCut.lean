/- The walks of cut.is, cut.fix, cut.Fix, cut.Asks. -/
import Derived.Test.YtohhjdadhdibfaaPkA
namespace Go.Proofs.Ytohhjdadhdibfaa
open Go.RowKit

variable {R : Ending → World → Prop} {w : World} {a T : Nat} {L : List Nd}

/-- Node k is node f, track t's bit being up. -/
structure FixOk (L : List Nd) (f t : Nat) (up : Bool) (k : Nat) : Prop where
  lt : k < L.length
  val : ∀ c, val L k c = val L f (setB c t up)
  frm : ∀ t0, From L f t0 → From L k t0

theorem FixOk.prefx {L L' : List Nd} {f t k : Nat} {up : Bool} (h : FixOk L f t up k) (hw : WF T L) (hw' : WF T L') (hp : L <+: L') (hf : f < L.length) : FixOk L' f t up k :=
  ⟨Nat.lt_of_lt_of_le h.lt hp.length_le, fun c => by rw [val_prefix hw hw' hp c k h.lt, val_prefix hw hw' hp _ f hf, h.val],
    fun t0 h0 => (h.frm t0 (fun u lo hi e => h0 u lo hi (by
      obtain ⟨M, rfl⟩ := hp
      rw [List.getElem?_append_left hf]; exact e))).prefx hp h.lt⟩

/-- What is below the track does not look at it. -/
theorem fixOk_self (h : WF T L) {f t : Nat} (hf : f < L.length) (hfr : From L f (t + 1)) (up : Bool) : FixOk L f t up f :=
  ⟨hf, fun c => (val_agree h f (t + 1) _ _ hfr (setB_agree c t up)).symm, fun _ h => h⟩

/-- The pairs of the memory of fix. -/
def Memo (L : List Nd) (t : Nat) (up : Bool) (A : List (Int × Value)) : Prop :=
  ∀ p ∈ A, ∃ f k : Nat, p = ((f : Int), Value.int .i64 (k : Int)) ∧ f < L.length ∧ FixOk L f t up k

theorem Memo.prefx {L L' : List Nd} {t : Nat} {up : Bool} {A : List (Int × Value)} (h : Memo L t up A) (hw : WF T L) (hw' : WF T L') (hp : L <+: L') : Memo L' t up A := fun p hpA => by
  obtain ⟨f, k, e, hf, hk⟩ := h p hpA
  exact ⟨f, k, e, Nat.lt_of_lt_of_le hf hp.length_le, hk.prefx hw hw' hp hf⟩

def Nd.track : Nd → Int
  | .fork u _ _ => u
  | .leaf _ => -1

theorem trackA_nat {f : Nat} {n : Nd} (hn : L[f]? = some n) : trackA L f = n.track := by
  have := (List.getElem?_eq_some_iff.1 hn).1
  unfold trackA
  rw [if_pos ⟨by omega, by omega⟩, Int.toNat_natCast, hn]
  cases n <;> rfl

theorem kidsA_nat {f u lo hi : Nat} (hn : L[f]? = some (.fork u lo hi)) : kidsA L f = ((lo : Int), (hi : Int)) := by
  have := (List.getElem?_eq_some_iff.1 hn).1
  unfold kidsA
  rw [if_pos ⟨by omega, by omega⟩, Int.toNat_natCast, hn]

/-- The map of fix is none of the Store's blocks. -/
theorem foot_map {A : List (Int × Value)} {m : Nat} (h : StoreAt w a T L) (hm : MapAt (Value.int .i64) w m A) (hne : ∀ v m', w.heap[a]? = some (.cells #[.int .i64 T, v, .map (some m')] 91 (0, 0)) → m ≠ m') : ¬ Foot w a m := by
  obtain ⟨v, m', e1, e2, e3⟩ := h.st
  obtain ⟨es, clk, e4, _⟩ := hm
  rintro (rfl | ⟨t', v', m'', e5, e6⟩)
  · rw [e1] at e4; cases e4
  · rw [e1] at e5
    simp only [Option.some.injEq, Obj.cells.injEq, Array.mk.injEq, List.cons.injEq, Value.map.injEq] at e5
    obtain ⟨⟨_, rfl, rfl, _⟩, _⟩ := e5
    rcases e6 with e6 | e6
    · exact hne _ _ e1 e6
    · rcases e2.2 with ⟨rfl, _⟩ | ⟨g, cap, cur, rfl, _, hg, _⟩
      · simp [Value.ownBlock] at e6
      · simp [Value.ownBlock] at e6
        subst e6
        rw [hg] at e4; cases e4

end Go.Proofs.Ytohhjdadhdibfaa
