/- As Ord2, where the last operation (a store that waits for all others) need not keep what the reads lean on. -/
import Derived.Test.YtohhjdadhdibfaaOrd2
namespace Go.Proofs.Ytohhjdadhdibfaa

section
variable {P : Program} {ops : Array Oper} {Q : Exit → Act → World → Prop} {md : Region.Mode} {S : World → Prop} {z : Nat}

/-- As the kit's wpAnyH, but behind operation z nothing is asked of the world. -/
def wpAnyZ (P : Program) (md : Region.Mode) (ops : Array Oper) (Q : Exit → Act → World → Prop) (S : World → Prop) (z : Nat) : Nat → Array Bool → Act → World → Prop
  | 0, listed, a, w => Region.ready md ops listed = [] ∧ Q .normal a w
  | fuel + 1, listed, a, w =>
    (Region.ready md ops listed = [] → Q .normal a w) ∧
    ∀ i ∈ Region.ready md ops listed, wpOp P ops Q i (fun a' w' => (i ≠ z → S w') ∧ wpAnyZ P md ops Q S z fuel (listed.setIfInBounds i true) a' w') a w

theorem wpAny_of_z : ∀ (fuel : Nat) (listed : Array Bool) (a : Act) (w : World), wpAnyZ P md ops Q S z fuel listed a w → wpAny P md ops Q fuel listed a w
  | 0, _, _, _, h => h
  | fuel + 1, _, _, _, h => ⟨h.1, fun i hi => wpOp_mono (fun a' w' h' => wpAny_of_z fuel _ a' w' h'.2) (h.2 i hi)⟩

/-- What is listed was free to come. -/
def Closed (md : Region.Mode) (ops : Array Oper) (listed : Array Bool) : Prop :=
  ∀ j oj, ops[j]? = some oj → listed.getD j false = true → ∀ e ∈ oj.after, Region.binds md e = true → listed.getD e.on false = true

theorem Closed.start (n : Nat) : Closed md ops (Array.replicate n false) := fun j oj _ hl => by
  rw [Array.getD_eq_getD_getElem?, Array.getElem?_replicate] at hl
  split at hl <;> simp at hl

theorem Closed.set {listed : Array Bool} (h : Closed md ops listed) {i : Nat} (hi : i ∈ Region.ready md ops listed) : Closed md ops (listed.setIfInBounds i true) := by
  intro j oj hj hl e he hb
  obtain ⟨h0, o, ho, hall⟩ := mem_ready.1 hi
  by_cases e1 : i = j
  · subst e1
    rw [ho] at hj; obtain rfl := Option.some.inj hj
    exact getD_set_true (hall e he hb)
  · rw [getD_set_ne false e1] at hl
    exact getD_set_true (h j oj hj hl e he hb)

def edgeB (md : Region.Mode) (ops : Array Oper) (j i : Nat) : Bool :=
  match ops[j]? with
  | some o => o.after.any fun e => Region.binds md e && (e.on == i)
  | none => false

/-- What z waits for, in some steps. -/
def behind (md : Region.Mode) (ops : Array Oper) (z : Nat) : Nat → List Nat
  | 0 => [z]
  | n + 1 => (List.range ops.size).filter fun i => (behind md ops z n).contains i || (behind md ops z n).any fun j => edgeB md ops j i

theorem behind_listed {listed : Array Bool} (hc : Closed md ops listed) (hz : z ∈ Region.ready md ops listed) : ∀ n, ∀ i ∈ behind md ops z n, i = z ∨ listed.getD i false = true
  | 0, i, hi => by simp [behind] at hi; exact .inl hi
  | n + 1, i, hi => by
    have ih := behind_listed hc hz n
    unfold behind at hi
    obtain ⟨_, hi2⟩ := List.mem_filter.1 hi
    rw [Bool.or_eq_true] at hi2
    rcases hi2 with hi2 | hi2
    · exact ih i (by simpa using hi2)
    · obtain ⟨j, hj, hji⟩ := List.any_eq_true.1 hi2
      unfold edgeB at hji
      split at hji
      · rename_i o ho
        obtain ⟨k, hk, hb⟩ := Array.any_eq_true.1 hji
        have he := Array.getElem_mem hk
        generalize o.after[k] = e at hb he
        rw [Bool.and_eq_true, beq_iff_eq] at hb
        obtain ⟨hb1, rfl⟩ := hb
        right
        rcases ih j hj with rfl | hl
        · obtain ⟨_, o', ho', hall⟩ := mem_ready.1 hz
          rw [ho] at ho'; obtain rfl := Option.some.inj ho'
          exact hall e he hb1
        · exact hc j o ho hl e he hb1
      · cases hji

/-- z waits for all others. -/
def lastB (md : Region.Mode) (ops : Array Oper) (z : Nat) : Bool := (List.range ops.size).all fun i => (behind md ops z 8).contains i

theorem last_listed {listed : Array Bool} (hB : lastB md ops z = true) (hc : Closed md ops listed) (hz : z ∈ Region.ready md ops listed) {i : Nat} (hi : i < ops.size) (hne : i ≠ z) : listed.getD i false = true := by
  have := List.all_eq_true.1 hB i (List.mem_range.2 hi)
  exact (behind_listed hc hz 8 i (by simpa using this)).resolve_left hne

theorem wpAnyZ_first {i : Nat} {oi : Oper} {v : Value} (hB : lastB md ops z = true) (hi : ops[i]? = some oi) (hsel : ∀ (j : Nat) (o : Oper) cs b, ops[j]? = some o → o.op ≠ .select cs b) (hiz : i ≠ z)
    (hQ : ∀ c a w, Q (.panic c) (a.put oi.dst v) w → Q (.panic c) a w) :
    ∀ (fuel : Nat) (listed : Array Bool) (a : Act) (w : World), Closed md ops listed →
      (∀ j oj, ops[j]? = some oj → j ≠ i → listed.getD j true = false → (∀ e ∈ oj.after, Region.binds md e = true → e.on ≠ i) → oi.apart ops oj = true) →
      i ∈ Region.ready md ops listed → YieldsIf P ops S oi v a → S w →
      wpAnyZ P md ops Q S z fuel (listed.setIfInBounds i true) (a.put oi.dst v) w → wpAnyZ P md ops Q S z (fuel + 1) listed a w := by
  intro fuel
  induction fuel with
  | zero =>
    intro listed a w _ _ hr hy hS H
    refine ⟨fun h => (by rw [h] at hr; cases hr), fun j hj => ?_⟩
    by_cases hji : j = i
    · subst hji; exact hy.wpOp hi hS ⟨fun _ => hS, H⟩
    · have := ready_mono hj hji
      rw [H.1] at this
      cases this
  | succ fuel ih =>
    intro listed a w hc hfree hr hy hS H
    refine ⟨fun h => (by rw [h] at hr; cases hr), fun j hj => ?_⟩
    by_cases hji : j = i
    · subst hji; exact hy.wpOp hi hS ⟨fun _ => hS, H⟩
    · have hjz : j ≠ z := by
        rintro rfl
        have h1 := last_listed hB hc hj (Array.getElem?_eq_some_iff.1 hi).1 hiz
        have h0 := (mem_ready.1 hr).1
        rcases Nat.lt_or_ge i listed.size with h' | h'
        · simp [h'] at h0 h1; rw [h0] at h1; cases h1
        · simp [Array.getElem?_eq_none h'] at h1
      have h1 := H.2 j (ready_mono hj hji)
      obtain ⟨hjun, oj, hoj, hall⟩ := mem_ready.1 hj
      have hnot : ∀ e ∈ oj.after, Region.binds md e = true → e.on ≠ i := fun e he hb heq => by
        have h1 := hall e he hb
        have h0 := (mem_ready.1 hr).1
        rw [heq] at h1
        rcases Nat.lt_or_ge i listed.size with h' | h'
        · simp [h'] at h0 h1; rw [h0] at h1; cases h1
        · simp [Array.getElem?_eq_none h'] at h1
      have h2 := wpOp_putIf hoj (hfree j oj hoj hji hjun hnot) (fun cs b => hsel i oi cs b hi) (fun cs b => hsel j oj cs b hoj) hQ hy h1
      have hfree' : ∀ k ok, ops[k]? = some ok → k ≠ i → (listed.setIfInBounds j true).getD k true = false →
          (∀ e ∈ ok.after, Region.binds md e = true → e.on ≠ i) → oi.apart ops ok = true := fun k ok hk hki hun hno => by
        refine hfree k ok hk hki ?_ hno
        by_cases hjk : j = k
        · subst hjk; exact hjun
        · rw [getD_set_ne true hjk] at hun; exact hun
      refine wpOp_mono (fun a' w' h3 => ⟨fun _ => h3.2.1 hjz, ih (listed.setIfInBounds j true) a' w' (hc.set hj) hfree' (ready_mono hr (Ne.symm hji)) h3.1 (h3.2.1 hjz) ?_⟩) h2
      rw [Array.setIfInBounds_comm _ _ hji]
      exact h3.2.2

theorem wpAnyZ_weak {S S' : World → Prop} (hS : ∀ x, S' x → S x) : ∀ (fuel : Nat) (listed : Array Bool) (a : Act) (w : World), wpAnyZ P .any ops Q S' z fuel listed a w → wpAnyZ P .any ops Q S z fuel listed a w
  | 0, _, _, _, h => h
  | fuel + 1, _, _, _, h => ⟨h.1, fun i hi => wpOp_mono (fun a' w' h' => ⟨fun hz => hS _ (h'.1 hz), wpAnyZ_weak hS fuel _ a' w' h'.2⟩) (h.2 i hi)⟩

/-- How a region is walked: as Plan; or z comes last. -/
inductive PlanZ where
  | done
  | last
  | take (i : Nat) (r : PlanZ)
  | one (i : Nat) (r : PlanZ)
  | two (i j : Nat) (r s : PlanZ)

def PlanZ.len : PlanZ → Nat
  | .done => 0
  | .last => 1
  | .take _ r => r.len + 1
  | .one _ r => r.len + 1
  | .two _ _ r _ => r.len + 1

def wpPlanZ (P : Program) (ops : Array Oper) (Q : Exit → Act → World → Prop) (z : Nat) : PlanZ → (World → Prop) → Act → World → Prop
  | .done, _, a, w => Q .normal a w
  | .last, _, a, w => ∀ K : Act → World → Prop, (∀ a' w', Q .normal a' w' → K a' w') → wpOp P ops Q z K a w
  | .take i r, S, a, w => ∃ o v, ops[i]? = some o ∧
      ((Region.wanted o (yielded ops a.tmps) = true ∧ ∀ w', S w' → yieldsNow v w' ((execOp a.eval o).run P w')) ∨ (Region.wanted o (yielded ops a.tmps) = false ∧ v = undef)) ∧
      wpPlanZ P ops Q z r S (a.put o.dst v) w
  | .one i r, S, a, w => wpUp P ops Q i (wpPlanZ P ops Q z r) S a w
  | .two i j r s, S, a, w => wpUp P ops Q i (wpPlanZ P ops Q z r) S a w ∧ wpUp P ops Q j (wpPlanZ P ops Q z s) S a w

def planZB (ops : Array Oper) (z : Nat) : PlanZ → Array Bool → Bool
  | .done, listed => (Region.ready .any ops listed).isEmpty
  | .last, listed => (Region.ready .any ops listed == [z]) && (Region.ready .any ops (listed.setIfInBounds z true)).isEmpty
  | .take i r, listed => (Region.ready .any ops listed).contains i && !(i == z) && Region.free .any ops listed i && planZB ops z r (listed.setIfInBounds i true)
  | .one i r, listed => (Region.ready .any ops listed == [i]) && planZB ops z r (listed.setIfInBounds i true)
  | .two i j r s, listed => (Region.ready .any ops listed == [i, j]) && (r.len == s.len) && planZB ops z r (listed.setIfInBounds i true) && planZB ops z s (listed.setIfInBounds j true)

theorem wpAnyZ_plan (hL : lastB .any ops z = true) (hs : Region.noSelect ops = true) (hQ : ∀ c d v a w, Q (.panic c) (Act.put a d v) w → Q (.panic c) a w) :
    ∀ (π : PlanZ) (listed : Array Bool) (S : World → Prop) (a : Act) (w : World), Closed .any ops listed → planZB ops z π listed = true → S w → wpPlanZ P ops Q z π S a w → wpAnyZ P .any ops Q S z π.len listed a w
  | .done, listed, S, a, w, _, hB, _, h => ⟨by simpa [planZB] using hB, h⟩
  | .last, listed, S, a, w, hc, hB, hS, h => by
    simp only [planZB, Bool.and_eq_true, beq_iff_eq] at hB
    obtain ⟨hr, hB'⟩ := hB
    refine ⟨fun h0 => (by rw [h0] at hr; cases hr), fun j hj => ?_⟩
    rw [hr] at hj
    simp only [List.mem_singleton] at hj
    subst hj
    exact h _ fun a' w' h3 => ⟨fun hne => absurd rfl hne, by simpa using hB', h3⟩
  | .take i r, listed, S, a, w, hc, hB, hS, h => by
    obtain ⟨o, v, ho, hy, h⟩ := h
    simp only [planZB, Bool.and_eq_true] at hB
    obtain ⟨⟨⟨hr, hiz⟩, hf⟩, hB'⟩ := hB
    have hri : i ∈ Region.ready .any ops listed := by simpa using hr
    refine wpAnyZ_first hL ho (Region.noSelect_spec hs) (by simpa using hiz) (fun c a w => hQ c _ _ a w) _ _ _ _ hc (Region.free_spec ho hf) hri ?_ hS (wpAnyZ_plan hL hs hQ r _ S _ w (hc.set hri) hB' hS h)
    rcases hy with ⟨h1, h2⟩ | h1
    · refine .inl ⟨h1, fun w' hw' => ?_⟩
      have := h2 w' hw'
      unfold yieldsNow at this
      split at this
      · obtain ⟨rfl, rfl⟩ := this; assumption
      · exact this.elim
    · exact .inr h1
  | .one i r, listed, S, a, w, hc, hB, hS, h => by
    simp only [planZB, Bool.and_eq_true, beq_iff_eq] at hB
    obtain ⟨hr, hB'⟩ := hB
    refine ⟨fun h0 => (by rw [h0] at hr; cases hr), fun j hj => ?_⟩
    have hcj := hc.set hj
    rw [hr] at hj
    simp only [List.mem_singleton] at hj
    subst hj
    exact h _ fun S' a' w' h1 h2 h3 => ⟨fun _ => h2 _ h1, wpAnyZ_weak h2 _ _ _ _ (wpAnyZ_plan hL hs hQ r _ S' a' w' hcj hB' h1 h3)⟩
  | .two i k r s, listed, S, a, w, hc, hB, hS, h => by
    simp only [planZB, Bool.and_eq_true, beq_iff_eq] at hB
    obtain ⟨⟨⟨hr, hl⟩, hB1⟩, hB2⟩ := hB
    refine ⟨fun h0 => (by rw [h0] at hr; cases hr), fun j hj => ?_⟩
    have hcj := hc.set hj
    rw [hr] at hj
    simp only [List.mem_cons, List.not_mem_nil, or_false] at hj
    rcases hj with rfl | rfl
    · exact h.1 _ fun S' a' w' h1 h2 h3 => ⟨fun _ => h2 _ h1, wpAnyZ_weak h2 _ _ _ _ (wpAnyZ_plan hL hs hQ r _ S' a' w' hcj hB1 h1 h3)⟩
    · refine h.2 _ fun S' a' w' h1 h2 h3 => ⟨fun _ => h2 _ h1, wpAnyZ_weak h2 _ _ _ _ ?_⟩
      show wpAnyZ P .any ops Q S' z r.len _ a' w'
      rw [hl]
      exact wpAnyZ_plan hL hs hQ s _ S' a' w' hcj hB2 h1 h3

/-- A region that draws its order, by a plan, operation z last. It must not panic. -/
theorem wp_region_planz {id : Nat} {a : Act} {w : World} (z : Nat) (π : PlanZ) (S : World → Prop) (hm : P.follows .mixedOrders = true)
    (hB : (Region.noSelect ops && (π.len == ops.size) && lastB .any ops z && planZB ops z π (Array.replicate ops.size false)) = true) (hS : S w.drew) (h : wpPlanZ P ops (NP Q) z π S a w.drew) : (Code.region id ops true).wp P Q a w := by
  refine Code.wp_mono NP.imp ?_
  simp only [Bool.and_eq_true, beq_iff_eq] at hB
  obtain ⟨⟨⟨h1, h2⟩, h4⟩, h3⟩ := hB
  refine wp_region_any hm (wpAny_of_z (S := S) (z := z) _ _ _ _ ?_)
  have := wpAnyZ_plan h4 h1 (fun c d v a w h => h) π (Array.replicate ops.size false) S a w.drew (Closed.start _) h3 hS h
  rw [h2] at this
  exact this

theorem pz_done {S : World → Prop} {a : Act} {w : World} (h : Q .normal a w) : wpPlanZ P ops (NP Q) z .done S a w := h

theorem pz_take {i : Nat} {r : PlanZ} {S : World → Prop} {a : Act} {w : World} {o : Oper} {v : Value} (ho : ops[i]? = some o) (hw : Region.wanted o (yielded ops a.tmps) = true)
    (hv : ∀ w', S w' → yieldsNow v w' ((execOp a.eval o).run P w')) (h : wpPlanZ P ops Q z r S (a.put o.dst v) w) : wpPlanZ P ops Q z (.take i r) S a w := ⟨o, v, ho, .inl ⟨hw, hv⟩, h⟩

theorem pz_pass {i : Nat} {r : PlanZ} {S : World → Prop} {a : Act} {w : World} {o : Oper} (ho : ops[i]? = some o) (hw : Region.wanted o (yielded ops a.tmps) = false)
    (h : wpPlanZ P ops Q z r S (a.put o.dst undef) w) : wpPlanZ P ops Q z (.take i r) S a w := ⟨o, _, ho, .inr ⟨hw, rfl⟩, h⟩

theorem pz_one {i : Nat} {r : PlanZ} {S : World → Prop} {a : Act} {w : World} (h : wpUp P ops Q i (wpPlanZ P ops Q z r) S a w) : wpPlanZ P ops Q z (.one i r) S a w := h

theorem pz_two {i j : Nat} {r s : PlanZ} {S : World → Prop} {a : Act} {w : World} (h : wpUp P ops Q i (wpPlanZ P ops Q z r) S a w) (h' : wpUp P ops Q j (wpPlanZ P ops Q z s) S a w) : wpPlanZ P ops Q z (.two i j r s) S a w := ⟨h, h'⟩

/-- The last one is carried out. -/
theorem pz_last {S : World → Prop} {a : Act} {w : World} {o : Oper} (ho : ops[z]? = some o) (hw : Region.wanted o (yielded ops a.tmps) = true)
    (h : ∀ K : Act → World → Prop, (∀ a' w', Q .normal a' w' → K a' w') → o.wp P a w K Q) : wpPlanZ P ops Q z .last S a w := fun K hK => by
  unfold wpOp
  simp only [ho, hw, if_true]
  exact .inl (h K hK)

end
end Go.Proofs.Ytohhjdadhdibfaa
