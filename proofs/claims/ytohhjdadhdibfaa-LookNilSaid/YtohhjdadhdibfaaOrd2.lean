/- As Ord, but at a step two operations may come: each is walked. -/
import Derived.Test.YtohhjdadhdibfaaOrd
namespace Go.Proofs.Ytohhjdadhdibfaa

/-- How a region is walked: an operation that reads is taken; one alone comes up; one of two comes up. -/
inductive Plan where
  | done
  | take (i : Nat) (r : Plan)
  | one (i : Nat) (r : Plan)
  | two (i j : Nat) (r s : Plan)

def Plan.len : Plan → Nat
  | .done => 0
  | .take _ r => r.len + 1
  | .one _ r => r.len + 1
  | .two _ _ r _ => r.len + 1

section
variable {P : Program} {ops : Array Oper} {Q : Exit → Act → World → Prop}

/-- An operation comes up: what it does, and the rest behind it. -/
def wpUp (P : Program) (ops : Array Oper) (Q : Exit → Act → World → Prop) (i : Nat) (N : (World → Prop) → Act → World → Prop) (S : World → Prop) (a : Act) (w : World) : Prop :=
  ∀ K : Act → World → Prop, (∀ (S' : World → Prop) a' w', S' w' → (∀ x, S' x → S x) → N S' a' w' → K a' w') → wpOp P ops Q i K a w

def wpPlan (P : Program) (ops : Array Oper) (Q : Exit → Act → World → Prop) : Plan → (World → Prop) → Act → World → Prop
  | .done, _, a, w => Q .normal a w
  | .take i r, S, a, w => ∃ o v, ops[i]? = some o ∧
      ((Region.wanted o (yielded ops a.tmps) = true ∧ ∀ w', S w' → yieldsNow v w' ((execOp a.eval o).run P w')) ∨ (Region.wanted o (yielded ops a.tmps) = false ∧ v = undef)) ∧
      wpPlan P ops Q r S (a.put o.dst v) w
  | .one i r, S, a, w => wpUp P ops Q i (wpPlan P ops Q r) S a w
  | .two i j r s, S, a, w => wpUp P ops Q i (wpPlan P ops Q r) S a w ∧ wpUp P ops Q j (wpPlan P ops Q s) S a w

def planB (ops : Array Oper) : Plan → Array Bool → Bool
  | .done, listed => (Region.ready .any ops listed).isEmpty
  | .take i r, listed => (Region.ready .any ops listed).contains i && Region.free .any ops listed i && planB ops r (listed.setIfInBounds i true)
  | .one i r, listed => (Region.ready .any ops listed == [i]) && planB ops r (listed.setIfInBounds i true)
  | .two i j r s, listed => (Region.ready .any ops listed == [i, j]) && (r.len == s.len) && planB ops r (listed.setIfInBounds i true) && planB ops s (listed.setIfInBounds j true)

theorem wpAnyH_plan (hs : Region.noSelect ops = true) (hQ : ∀ c d v a w, Q (.panic c) (Act.put a d v) w → Q (.panic c) a w) :
    ∀ (π : Plan) (listed : Array Bool) (S : World → Prop) (a : Act) (w : World), planB ops π listed = true → S w → wpPlan P ops Q π S a w → wpAnyH P .any ops Q S π.len listed a w
  | .done, listed, S, a, w, hB, _, h => ⟨by simpa [planB] using hB, h⟩
  | .take i r, listed, S, a, w, hB, hS, h => by
    obtain ⟨o, v, ho, hy, h⟩ := h
    simp only [planB, Bool.and_eq_true] at hB
    obtain ⟨⟨hr, hf⟩, hB'⟩ := hB
    refine wpAnyH_take ho hs hf hr (fun c a w => hQ c _ _ a w) ?_ hS (wpAnyH_plan hs hQ r _ S _ w hB' hS h)
    rcases hy with ⟨h1, h2⟩ | h1
    · refine .inl ⟨h1, fun w' hw' => ?_⟩
      have := h2 w' hw'
      unfold yieldsNow at this
      split at this
      · obtain ⟨rfl, rfl⟩ := this; assumption
      · exact this.elim
    · exact .inr h1
  | .one i r, listed, S, a, w, hB, hS, h => by
    simp only [planB, Bool.and_eq_true, beq_iff_eq] at hB
    obtain ⟨hr, hB'⟩ := hB
    refine wpAnyH_all hr (by simp) fun j hj => ?_
    simp only [List.mem_singleton] at hj
    subst hj
    exact h _ fun S' a' w' h1 h2 h3 => ⟨h2 _ h1, wpAnyH_weak h2 _ _ _ _ (wpAnyH_plan hs hQ r _ S' a' w' hB' h1 h3)⟩
  | .two i k r s, listed, S, a, w, hB, hS, h => by
    simp only [planB, Bool.and_eq_true, beq_iff_eq] at hB
    obtain ⟨⟨⟨hr, hl⟩, hB1⟩, hB2⟩ := hB
    refine wpAnyH_all hr (by simp) fun j hj => ?_
    rcases List.mem_cons.1 hj with rfl | hj
    · exact h.1 _ fun S' a' w' h1 h2 h3 => ⟨h2 _ h1, wpAnyH_weak h2 _ _ _ _ (wpAnyH_plan hs hQ r _ S' a' w' hB1 h1 h3)⟩
    · simp only [List.mem_singleton] at hj
      subst hj
      refine h.2 _ fun S' a' w' h1 h2 h3 => ⟨h2 _ h1, ?_⟩
      show wpAnyH P .any ops Q S r.len _ _ _
      rw [hl]
      exact wpAnyH_weak h2 _ _ _ _ (wpAnyH_plan hs hQ s _ S' a' w' hB2 h1 h3)

/-- A region that draws its order, by a plan. It must not panic. -/
theorem wp_region_plan {id : Nat} {a : Act} {w : World} (π : Plan) (S : World → Prop) (hm : P.follows .mixedOrders = true)
    (hB : (Region.noSelect ops && (π.len == ops.size) && planB ops π (Array.replicate ops.size false)) = true) (hS : S w.drew) (h : wpPlan P ops (NP Q) π S a w.drew) : (Code.region id ops true).wp P Q a w := by
  refine Code.wp_mono NP.imp ?_
  simp only [Bool.and_eq_true, beq_iff_eq] at hB
  obtain ⟨⟨h1, h2⟩, h3⟩ := hB
  refine wp_region_held (S := S) hm ?_
  rw [← h2]
  rw [← h2] at h3
  exact wpAnyH_plan h1 (fun c d v a w h => h) π _ S a _ h3 hS h

theorem pl_done {S : World → Prop} {a : Act} {w : World} (h : Q .normal a w) : wpPlan P ops (NP Q) .done S a w := h

theorem pl_take {i : Nat} {r : Plan} {S : World → Prop} {a : Act} {w : World} {o : Oper} {v : Value} (ho : ops[i]? = some o) (hw : Region.wanted o (yielded ops a.tmps) = true)
    (hv : ∀ w', S w' → yieldsNow v w' ((execOp a.eval o).run P w')) (h : wpPlan P ops Q r S (a.put o.dst v) w) : wpPlan P ops Q (.take i r) S a w := ⟨o, v, ho, .inl ⟨hw, hv⟩, h⟩

theorem pl_pass {i : Nat} {r : Plan} {S : World → Prop} {a : Act} {w : World} {o : Oper} (ho : ops[i]? = some o) (hw : Region.wanted o (yielded ops a.tmps) = false)
    (h : wpPlan P ops Q r S (a.put o.dst undef) w) : wpPlan P ops Q (.take i r) S a w := ⟨o, _, ho, .inr ⟨hw, rfl⟩, h⟩

theorem up_do {i : Nat} {N : (World → Prop) → Act → World → Prop} {S : World → Prop} {a : Act} {w : World} {o : Oper} (ho : ops[i]? = some o) (hw : Region.wanted o (yielded ops a.tmps) = true)
    (h : ∀ K : Act → World → Prop, (∀ (S' : World → Prop) a' w', S' w' → (∀ x, S' x → S x) → N S' a' w' → K a' w') → o.wp P a w K Q) : wpUp P ops Q i N S a w := fun K hK => by
  unfold wpOp
  simp only [ho, hw, if_true]
  exact .inl (h K hK)

theorem pl_one {i : Nat} {r : Plan} {S : World → Prop} {a : Act} {w : World} (h : wpUp P ops Q i (wpPlan P ops Q r) S a w) : wpPlan P ops Q (.one i r) S a w := h
theorem pl_two {i j : Nat} {r s : Plan} {S : World → Prop} {a : Act} {w : World} (h : wpUp P ops Q i (wpPlan P ops Q r) S a w) (h' : wpUp P ops Q j (wpPlan P ops Q s) S a w) : wpPlan P ops Q (.two i j r s) S a w := ⟨h, h'⟩

/-- An append whose run is known. -/
theorem up_append {i : Nat} {N : (World → Prop) → Act → World → Prop} {S : World → Prop} {a : Act} {w w' : World} {o : Oper} {v xv r : Value} (s x : Operand) (t : TypeId) (ho : ops[i]? = some o) (hw : Region.wanted o (yielded ops a.tmps) = true)
    (hop : o.op = .call { callee := .builtin .append, args := #[s, x], argTypes := #[t, t] }) (hs : a.eval s = v) (hx : a.eval x = xv)
    (hr : (Builtin.append_ #[t, t] o.type #[v, xv]).run P w = .ok r w') (S' : World → Prop) (hS' : S' w') (hle : ∀ x, S' x → S x) (h : N S' (a.put o.dst r) w') : wpUp P ops Q i N S a w :=
  up_do ho hw fun K hK => by
    unfold Oper.wp execOp
    simp only [hop, resolve, invoke, builtin, Sem.run_bind, Sem.run_pure, Result.andThen_ok, List.map_toArray, List.map_cons, List.map_nil, hs, hx, hr]
    exact hK S' _ _ hS' hle h

end
end Go.Proofs.Ytohhjdadhdibfaa
