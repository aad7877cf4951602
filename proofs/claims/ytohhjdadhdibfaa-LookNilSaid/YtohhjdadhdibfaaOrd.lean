/- A region that draws its order, walked once in an order that we name: what only reads is taken as soon as it may come, what calls or writes when nothing else may come. -/
import Derived.OrdersHeld
import Derived.Still
import Derived.Deep.Quiet
import Derived.Tactics
import Derived.Tactics2
import Derived.KernelRfl
import Derived.Test.YtohhjdadhdibfaaBase
namespace Go.Proofs.Ytohhjdadhdibfaa

section
variable {P : Program} {ops : Array Oper} {Q : Exit → Act → World → Prop}

/-- An operation in state a yields v in this world, and leaves it. -/
def yieldsNow (v : Value) (w : World) : Result Next → Prop
  | .ok (.value u) w' => w' = w ∧ u = v
  | _ => False

/-- The walk in the order named: (i, true): number i reads only; (i, false): number i is the only one that may come. -/
def wpHO (P : Program) (ops : Array Oper) (Q : Exit → Act → World → Prop) : List (Nat × Bool) → (World → Prop) → Act → World → Prop
  | [], _, a, w => Q .normal a w
  | (i, true) :: r, S, a, w => ∃ o v, ops[i]? = some o ∧
      ((Region.wanted o (yielded ops a.tmps) = true ∧ ∀ w', S w' → yieldsNow v w' ((execOp a.eval o).run P w')) ∨ (Region.wanted o (yielded ops a.tmps) = false ∧ v = undef)) ∧
      wpHO P ops Q r S (a.put o.dst v) w
  | (i, false) :: r, S, a, w => ∀ K : Act → World → Prop, (∀ (S' : World → Prop) a' w', S' w' → (∀ x, S' x → S x) → wpHO P ops Q r S' a' w' → K a' w') → wpOp P ops Q i K a w

/-- The Bool that the order must meet. -/
def ordB (ops : Array Oper) : List (Nat × Bool) → Array Bool → Bool
  | [], listed => (Region.ready .any ops listed).isEmpty
  | (i, true) :: r, listed => (Region.ready .any ops listed).contains i && Region.free .any ops listed i && ordB ops r (listed.setIfInBounds i true)
  | (i, false) :: r, listed => (Region.ready .any ops listed == [i]) && ordB ops r (listed.setIfInBounds i true)

theorem wpAnyH_weak {S S' : World → Prop} (hS : ∀ x, S' x → S x) : ∀ (fuel : Nat) (listed : Array Bool) (a : Act) (w : World), wpAnyH P .any ops Q S' fuel listed a w → wpAnyH P .any ops Q S fuel listed a w
  | 0, _, _, _, h => h
  | fuel + 1, _, _, _, h => ⟨h.1, fun i hi => wpOp_mono (fun a' w' h' => ⟨hS _ h'.1, wpAnyH_weak hS fuel _ a' w' h'.2⟩) (h.2 i hi)⟩

theorem wpAnyH_ord (hs : Region.noSelect ops = true) (hQ : ∀ c d v a w, Q (.panic c) (Act.put a d v) w → Q (.panic c) a w) :
    ∀ (π : List (Nat × Bool)) (listed : Array Bool) (S : World → Prop) (a : Act) (w : World), ordB ops π listed = true → S w → wpHO P ops Q π S a w → wpAnyH P .any ops Q S π.length listed a w
  | [], listed, S, a, w, hB, _, h => ⟨by simpa [ordB] using hB, h⟩
  | (i, true) :: r, listed, S, a, w, hB, hS, h => by
    obtain ⟨o, v, ho, hy, h⟩ := h
    simp only [ordB, Bool.and_eq_true] at hB
    obtain ⟨⟨hr, hf⟩, hB'⟩ := hB
    refine wpAnyH_take ho hs hf hr (fun c a w => hQ c _ _ a w) ?_ hS (wpAnyH_ord hs hQ r _ S _ w hB' hS h)
    rcases hy with ⟨h1, h2⟩ | h1
    · refine .inl ⟨h1, fun w' hw' => ?_⟩
      have := h2 w' hw'
      unfold yieldsNow at this
      split at this
      · obtain ⟨rfl, rfl⟩ := this; assumption
      · exact this.elim
    · exact .inr h1
  | (i, false) :: r, listed, S, a, w, hB, hS, h => by
    simp only [ordB, Bool.and_eq_true, beq_iff_eq] at hB
    obtain ⟨hr, hB'⟩ := hB
    refine wpAnyH_all hr (by simp) fun j hj => ?_
    simp only [List.mem_singleton] at hj
    subst hj
    exact h _ fun S' a' w' h1 h2 h3 => ⟨h2 _ h1, wpAnyH_weak h2 _ _ _ _ (wpAnyH_ord hs hQ r _ S' a' w' hB' h1 h3)⟩

/-- Q, but never at a panic. -/
def NP (Q : Exit → Act → World → Prop) : Exit → Act → World → Prop
  | .panic _, _, _ => False
  | e, a, w => Q e a w

theorem NP.imp {Q : Exit → Act → World → Prop} : ∀ (e : Exit) (a : Act) (w : World), NP Q e a w → Q e a w := fun e a w h => by
  cases e <;> first | exact h | exact (h : False).elim

/-- A region that draws its order, by an order of our own. It must not panic. -/
theorem wp_region_ord {id : Nat} {a : Act} {w : World} (π : List (Nat × Bool)) (S : World → Prop) (hm : P.follows .mixedOrders = true)
    (hB : (Region.noSelect ops && (π.length == ops.size) && ordB ops π (Array.replicate ops.size false)) = true) (hS : S w.drew) (h : wpHO P ops (NP Q) π S a w.drew) : (Code.region id ops true).wp P Q a w := by
  refine Code.wp_mono NP.imp ?_
  simp only [Bool.and_eq_true, beq_iff_eq] at hB
  obtain ⟨⟨h1, h2⟩, h3⟩ := hB
  refine wp_region_held (S := S) hm ?_
  rw [← h2]
  rw [← h2] at h3
  exact wpAnyH_ord h1 (fun c d v a w h => h) π _ S a _ h3 hS h

theorem ho_done {S : World → Prop} {a : Act} {w : World} (h : Q .normal a w) : wpHO P ops (NP Q) [] S a w := h

theorem ho_take {i : Nat} {r : List (Nat × Bool)} {S : World → Prop} {a : Act} {w : World} {o : Oper} {v : Value} (ho : ops[i]? = some o) (hw : Region.wanted o (yielded ops a.tmps) = true)
    (hv : ∀ w', S w' → yieldsNow v w' ((execOp a.eval o).run P w')) (h : wpHO P ops Q r S (a.put o.dst v) w) : wpHO P ops Q ((i, true) :: r) S a w := ⟨o, v, ho, .inl ⟨hw, hv⟩, h⟩

theorem ho_pass {i : Nat} {r : List (Nat × Bool)} {S : World → Prop} {a : Act} {w : World} {o : Oper} (ho : ops[i]? = some o) (hw : Region.wanted o (yielded ops a.tmps) = false)
    (h : wpHO P ops Q r S (a.put o.dst undef) w) : wpHO P ops Q ((i, true) :: r) S a w := ⟨o, _, ho, .inr ⟨hw, rfl⟩, h⟩

theorem ho_pass' {i : Nat} {r : List (Nat × Bool)} {S : World → Prop} {a : Act} {w : World} {o : Oper} (ho : ops[i]? = some o) (hw : Region.wanted o (yielded ops a.tmps) = false) (hS : S w)
    (h : wpHO P ops Q r S (a.put o.dst undef) w) : wpHO P ops Q ((i, false) :: r) S a w := fun K hK => by
  unfold wpOp
  simp only [ho, hw]
  exact hK S _ _ hS (fun _ h => h) h

theorem ho_do {i : Nat} {r : List (Nat × Bool)} {S : World → Prop} {a : Act} {w : World} {o : Oper} (ho : ops[i]? = some o) (hw : Region.wanted o (yielded ops a.tmps) = true)
    (h : ∀ K : Act → World → Prop, (∀ (S' : World → Prop) a' w', S' w' → (∀ x, S' x → S x) → wpHO P ops Q r S' a' w' → K a' w') → o.wp P a w K Q) : wpHO P ops Q ((i, false) :: r) S a w := fun K hK => by
  unfold wpOp
  simp only [ho, hw, if_true]
  exact .inl (h K hK)

end
/-- A region that draws its order, whose operations only read or call what only makes memory: walked once, in the order of the text. -/
theorem wp_region_same {P : Program} {id : Nat} {Q : Exit → Act → World → Prop} {a : Act} {w : World} {l : List Oper} (hm : P.follows .mixedOrders = true) (hB : Region.lexB .any l.toArray = true)
    (h : wpQuiet P l.toArray (fun w' => Same w w') (fun a' => ∀ w', Same w w' → Q .normal a' w') l a) : (Code.region id l.toArray true).wp P Q a w :=
  wp_region_quiet (C := fun w' => Same w w') hm hB (Keeps.drew (Keeps.refl _ w)) (by simpa using h)

theorem quiet_do {P : Program} {o : Oper} {a : Act} {C : World → Prop} {K : Act → Prop} {v : Value} {E : Prop} {y : Nat → Option Bool} (hw : Region.wanted o y = true) (h : ∀ w', C w' → o.quietAt P a C w' v) (hk : K (a.put o.dst v)) :
    if Region.wanted o y then o.quiet P a C K else E := by
  rw [hw, if_pos rfl]; exact ⟨v, h, hk⟩

theorem quiet_skip {P : Program} {o : Oper} {a : Act} {C : World → Prop} {K : Act → Prop} {E : Prop} {y : Nat → Option Bool} (hw : Region.wanted o y = false) (hk : E) :
    if Region.wanted o y then o.quiet P a C K else E := by
  rw [hw]; exact hk

attribute [go_sem] yieldsNow
end Go.Proofs.Ytohhjdadhdibfaa
