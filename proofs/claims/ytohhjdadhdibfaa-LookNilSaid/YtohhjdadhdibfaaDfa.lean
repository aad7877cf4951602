/- An automaton in memory. -/
import Derived.Test.YtohhjdadhdibfaaAuto2
import Derived.Test.YtohhjdadhdibfaaApp
import Derived.Test.YtohhjdadhdibfaaOrd3
namespace Go.Proofs.Ytohhjdadhdibfaa
open Go.RowKit

variable {R : Ending → World → Prop} {w : World} {T : Nat} {L : List Nd}

theorem np_normal {Q : Exit → Act → World → Prop} {a : Act} {w : World} (h : Q .normal a w) : NP Q .normal a w := h

/-- The roots give the rows. -/
def RootsOk (T : Nat) (L : List Nd) (roots : List Int) (next : List (List Int)) : Prop :=
  roots.length = next.length ∧ ∀ (i : Nat) (r : Int) (l : List Int), roots[i]? = some r → next[i]? = some l → ∃ k : Nat, r = (k : Int) ∧ k < L.length ∧ ∀ c, c < 2 ^ T → val L k c = l.getD c 0

theorem RootsOk.grow {L' : List Nd} {roots : List Int} {next : List (List Int)} (h : RootsOk T L roots next) (hw : WF T L) (hw' : WF T L') (hp : L <+: L') : RootsOk T L' roots next := by
  refine ⟨h.1, fun i r l hr hl => ?_⟩
  obtain ⟨k, e, hk, hv⟩ := h.2 i r l hr hl
  exact ⟨k, e, Nat.lt_of_lt_of_le hk hp.length_le, fun c hc => (val_prefix hw hw' hp c k hk).trans (hv c hc)⟩

theorem RootsOk.snoc {roots : List Int} {next : List (List Int)} {k : Nat} {l : List Int} (h : RootsOk T L roots next) (hk : k < L.length) (hv : ∀ c, c < 2 ^ T → val L k c = l.getD c 0) : RootsOk T L (roots ++ [(k : Int)]) (next ++ [l]) := by
  refine ⟨by simp [h.1], fun i r m hr hm => ?_⟩
  by_cases hi : i < roots.length
  · rw [List.getElem?_append_left hi] at hr
    rw [List.getElem?_append_left (by rw [← h.1]; exact hi)] at hm
    exact h.2 i r m hr hm
  · have hi2 : i = roots.length := by
      have := (List.getElem?_eq_some_iff.1 hr).1
      simp at this; omega
    subst hi2
    rw [List.getElem?_append_right (Nat.le_refl _)] at hr
    rw [h.1, List.getElem?_append_right (Nat.le_refl _)] at hm
    simp at hr hm
    subst hr; subst hm
    exact ⟨k, rfl, hk, hv⟩

theorem own_not_foot {s : Nat} {e : TypeId} {z B n : Nat} {v : Value} {xs : List Value} (h : w.ownsRow B e z v n xs) (hs : StoreAt w s T L) (h1 : e ≠ 91) (h2 : e ≠ 98) : ∀ b, v.ownBlock = some b → ¬ Foot w s b := fun b hb => by
  obtain ⟨_, cur, hc⟩ := ownsRow_block h hb
  exact not_foot hs hc h1 h2

/-- The block d is a DFA: which states accept, roots, its Store; all of it from B on. -/
structure DfaIn (w : World) (B d s : Nat) (va vr : Value) (T : Nat) (acc : List Bool) (L : List Nd) (roots : List Int) : Prop where
  blk : w.heap[d]? = some (.cells #[va, vr, .pointer (some ⟨s, 0, none⟩)] 75 (0, 0))
  low : B ≤ d
  acc : OwnBools w B va acc
  roots : OwnInts w B vr roots
  store : StoreAt w s T L
  foot : ∀ x, Foot w s x → B ≤ x

variable {B d s : Nat} {va vr : Value} {acc : List Bool} {roots : List Int}

theorem DfaIn.keep {S : Nat → Prop} {w' : World} (h : DfaIn w B d s va vr T acc L roots) (k : Keeps S w w') (hs : ∀ b, B ≤ b → b < w.heap.size → S b) : DfaIn w' B d s va vr T acc L roots := by
  have hsz : w.heap[s]? = w'.heap[s]? := by
    obtain ⟨v, m, e1, _⟩ := h.store.st
    exact e1.trans (k.at e1 (hs s (h.foot s (.inl rfl)) (heap_lt e1))).symm
  refine ⟨k.at h.blk (hs d h.low (heap_lt h.blk)), h.low, ownsRow_keep h.acc k fun b hb => ?_, ownsRow_keep h.roots k fun b hb => ?_, h.store.keep k fun b hb => hs b (h.foot b hb) (foot_old h.store hb), fun x hx => h.foot x ((foot_same hsz.symm x).1 hx)⟩
  · obtain ⟨h1, cur, hc⟩ := ownsRow_block h.acc hb
    exact hs b h1 (heap_lt hc)
  · obtain ⟨h1, cur, hc⟩ := ownsRow_block h.roots hb
    exact hs b h1 (heap_lt hc)

theorem DfaIn.same {w' : World} (h : DfaIn w B d s va vr T acc L roots) (k : Same w w') : DfaIn w' B d s va vr T acc L roots := h.keep k fun _ _ _ => trivial

/-- The Store has grown. -/
theorem DfaIn.grew {w' : World} {L' : List Nd} (h : DfaIn w B d s va vr T acc L roots) (g : Grew s w w') (st : StoreAt w' s T L') (hB : B ≤ w.heap.size) : DfaIn w' B d s va vr T acc L' roots :=
  ⟨g.keeps.at h.blk (not_foot h.store h.blk (by decide) (by decide)), h.low, ownsRow_keep h.acc g.keeps (own_not_foot h.acc h.store (by decide) (by decide)), ownsRow_keep h.roots g.keeps (own_not_foot h.roots h.store (by decide) (by decide)), st, g.footB h.foot hB⟩

/-- Other roots. -/
theorem DfaIn.root {w' : World} {vr' : Value} {roots' : List Int} (h : DfaIn w B d s va vr T acc L roots) (k : Keeps (fun b => vr.ownBlock ≠ some b) w w') (ho : OwnInts w' B vr' roots') : DfaIn (w'.setCell ⟨d, 1, none⟩ vr') B d s va vr' T acc L roots' := by
  have hd : vr.ownBlock ≠ some d := fun e => by
    obtain ⟨_, cur, hc⟩ := ownsRow_block h.roots e
    rw [h.blk] at hc
    simp at hc
  have hb := k.at h.blk hd
  have ka : Keeps (fun b => vr.ownBlock ≠ some b ∧ b ≠ d) w (w'.setCell ⟨d, 1, none⟩ vr') := (k.mono (fun _ _ h => h.1)).setCell (fun hh => hh.2.2 rfl) _
  have ks : Keeps (· ≠ d) w' (w'.setCell ⟨d, 1, none⟩ vr') := (Keeps.refl (· ≠ d) w').setCell (fun hh => hh.2 rfl) _
  have hf : ∀ b, Foot w s b → vr.ownBlock ≠ some b ∧ b ≠ d := fun b hb => ⟨fun e => own_not_foot h.roots h.store (by decide) (by decide) b e hb, fun e => not_foot h.store h.blk (by decide) (by decide) (e ▸ hb)⟩
  have hsz : (w'.setCell ⟨d, 1, none⟩ vr').heap[s]? = w.heap[s]? := by
    obtain ⟨v, m, e1, _⟩ := h.store.st
    exact (ka.at e1 (hf s (.inl rfl))).trans e1.symm
  refine ⟨by rw [heap_setCell_at hb]; simp, h.low, ownsRow_keep h.acc ka fun b hb2 => ⟨fun e => ?_, ?_⟩, ownsRow_keep ho ks fun b hb2 => ?_, h.store.keep ka hf, fun x hx => h.foot x ((foot_same hsz x).1 hx)⟩
  · obtain ⟨_, c1, h1⟩ := ownsRow_block h.acc hb2
    obtain ⟨_, c2, h2⟩ := ownsRow_block h.roots e
    rw [h1] at h2; simp at h2
  · rintro rfl
    obtain ⟨_, c1, h1⟩ := ownsRow_block h.acc hb2
    rw [h.blk] at h1; simp at h1
  · rintro rfl
    obtain ⟨_, c1, h1⟩ := ownsRow_block ho hb2
    rw [hb] at h1; simp at h1

/-- The pointer to block d reads as the automaton A. -/
structure DFAAt (w : World) (B d : Nat) (A : Au) : Prop where
  ok : AuOk A
  st : ∃ va vr s L roots, DfaIn w B d s va vr A.T.toNat A.acc L roots ∧ L.length ≤ 127 * A.acc.length ∧ RootsOk A.T.toNat L roots A.next

theorem DFAAt.keep {S : Nat → Prop} {w' : World} {A : Au} (h : DFAAt w B d A) (k : Keeps S w w') (hs : ∀ b, B ≤ b → b < w.heap.size → S b) : DFAAt w' B d A := by
  obtain ⟨va, vr, s, L, roots, h1, h2⟩ := h.st
  exact ⟨h.ok, va, vr, s, L, roots, h1.keep k hs, h2⟩

theorem DFAAt.same {w' : World} {A : Au} (h : DFAAt w B d A) (k : Same w w') : DFAAt w' B d A := h.keep k fun _ _ _ => trivial

theorem DfaIn.below {B' : Nat} (h : DfaIn w B d s va vr T acc L roots) (hB : B' ≤ B) : DfaIn w B' d s va vr T acc L roots :=
  ⟨h.blk, Nat.le_trans hB h.low, ownsRow_below h.acc hB, ownsRow_below h.roots hB, h.store, fun x hx => Nat.le_trans hB (h.foot x hx)⟩

theorem DFAAt.below {B' : Nat} {A : Au} (h : DFAAt w B d A) (hB : B' ≤ B) : DFAAt w B' d A := by
  obtain ⟨va, vr, s, L, roots, h1, h2⟩ := h.st
  exact ⟨h.ok, va, vr, s, L, roots, h1.below hB, h2⟩

/-- A row that may be is one that a Store makes. -/
theorem RowOk.all {n : Nat} {l : List Int} (h : RowOk T n l) (hn : n ≤ 400) : l.all isVal = true := by
  rw [List.all_eq_true]
  intro x hx
  have := h.2 x hx
  unfold isVal
  simp; omega

theorem RowOk.bounds {n : Nat} {l : List Int} (h : RowOk T n l) (hn : n ≤ 400) : ∀ x ∈ l, InI64 x := fun x hx => by
  have := h.2 x hx
  unfold InI64; omega

end Go.Proofs.Ytohhjdadhdibfaa
