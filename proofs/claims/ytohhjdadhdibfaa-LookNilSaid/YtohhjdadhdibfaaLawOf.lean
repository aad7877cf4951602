/- What laws of stores lean on; sibylref16.Value. -/
import Derived.Test.YtohhjdadhdibfaaOfLaw
import Derived.Test.YtohhjdadhdibfaaSame
namespace Go.Proofs.Ytohhjdadhdibfaa
open Go.RowKit

variable {R : Ending → World → Prop} {w : World} {a T : Nat} {L : List Nd}

/-- A law's walk: true, and what was there is as it was. -/
theorem law_of {f : Nat} {args : Array Value} {w : World} (h : ∀ R : Ending → World → Prop, Hid (∀ e w', e = .returned (.bool true) → Keeps (· < w.heap.size) w w' → R e w') → Calls Try.prog f args w R) :
    Calls Try.prog f args w fun e w' => e = .returned (.bool true) ∧ Below w.heap.size w w' :=
  h _ (hide fun _ _ he hk => ⟨he, ⟨hk.os, hk.tape, hk.output, hk.size, fun k hk' => hk.block k hk' hk'⟩⟩)

theorem all_prefix {row : List Int} {k : Nat} (h : ∀ i, i < k → isVal (row.getD i 0) = true) (hk : row.length ≤ k) : row.all isVal = true := by
  rw [List.all_eq_true]
  intro x hx
  obtain ⟨i, hi, rfl⟩ := List.getElem_of_mem hx
  have := h i (by omega)
  simpa [List.getD, List.getElem?_eq_getElem hi] using this

theorem StoreAt.foot {w' : World} (h : StoreAt w a T L) (k : Same w w') {B : Nat} (hf : ∀ x, Foot w a x → B ≤ x) : ∀ x, Foot w' a x → B ≤ x := by
  obtain ⟨v, m, e, _⟩ := h.st
  exact fun x hx => hf x ((foot_same ((k.at e trivial).trans e.symm) x).1 hx)

theorem foot_old (h : StoreAt w a T L) {b : Nat} (hb : Foot w a b) : b < w.heap.size := by
  obtain ⟨v, m, e1, e2, es, clk, e3, _⟩ := h.st
  rcases hb with rfl | ⟨t', v', m', e4, e5⟩
  · exact heap_lt e1
  · rw [e1] at e4
    simp only [Option.some.injEq, Obj.cells.injEq, Array.mk.injEq, List.cons.injEq, Value.map.injEq] at e4
    obtain ⟨⟨_, rfl, rfl, _⟩, _⟩ := e4
    rcases e5 with rfl | e5
    · exact heap_lt e3
    · exact (e2.lt b e5).2

theorem OfA_wf (h : WF T L) (row : List Int) : WF T (OfA T L row).1 := by
  by_cases hc : row.length = 2 ^ T ∧ row.all isVal = true
  · obtain ⟨k, hk, _⟩ := OfA_made h hc.1 hc.2; exact hk.wf
  · rw [OfA_none hc]; exact h

theorem OfA_pre (h : WF T L) (row : List Int) : L <+: (OfA T L row).1 := by
  by_cases hc : row.length = 2 ^ T ∧ row.all isVal = true
  · obtain ⟨k, hk, _⟩ := OfA_made h hc.1 hc.2; exact hk.pre
  · rw [OfA_none hc]; exact List.prefix_rfl

theorem OfA_len (T : Nat) (L : List Nd) (row : List Int) (h6 : T ≤ 6) : (OfA T L row).1.length ≤ L.length + 127 := by
  unfold OfA
  split
  · have := ofA_len T row T L 0
    have : 2 ^ (T + 1) ≤ 128 := Nat.pow_le_pow_right (by decide) (show T + 1 ≤ 7 by omega)
    omega
  · simp

/-- Of again, in a store that has grown: nothing is made. -/
theorem OfA_again {L' : List Nd} (h : WF T L) (row : List Int) (h' : WF T L') (hp : (OfA T L row).1 <+: L') : OfA T L' row = (L', (OfA T L row).2) := by
  by_cases hc : row.length = 2 ^ T ∧ row.all isVal = true
  · obtain ⟨k, hk, hv⟩ := OfA_made h hc.1 hc.2
    rw [hk.num]
    exact OfA_have h' hc.1 hc.2 (Nat.lt_of_lt_of_le hk.lt hp.length_le) fun x hx => by rw [val_prefix hk.wf h' hp x k hk.lt, hv x hx]
  · rw [OfA_none hc, OfA_none hc]

theorem row_ext {a b : List Int} (hl : a.length = b.length) (h : ∀ x, x < a.length → a.getD x 0 = b.getD x 0) : a = b := same_prefix hl h (Nat.le_refl _)

theorem leafA_get {v : Int} (hv : isVal v = true) {k : Nat} (hk : (leafA L v).2 = (k : Int)) : (leafA L v).1[k]? = some (.leaf v) := by
  have hv' : 0 ≤ v ∧ v ≤ 1099511627776 := by simpa [isVal] using hv
  have e : leafA L v = ((idOf L (.leaf v)).1, ((idOf L (.leaf v)).2 : Int)) := if_pos hv'
  rw [e] at hk ⊢
  have : (idOf L (.leaf v)).2 = k := Int.ofNat_inj.1 hk
  rw [← this]
  exact idOf_get

theorem get_prefix {L L' : List Nd} (h : L <+: L') {k : Nat} {n : Nd} (hk : L[k]? = some n) : L'[k]? = some n := by
  obtain ⟨M, rfl⟩ := h
  rw [List.getElem?_append_left (List.getElem?_eq_some_iff.1 hk).1]
  exact hk

theorem leaf_under {k : Nat} {v : Int} (hk : L[k]? = some (.leaf v)) (t : Nat) : Under L k t :=
  ⟨(List.getElem?_eq_some_iff.1 hk).1, fun u lo hi e => by rw [hk] at e; cases e⟩

theorem OfA_cases {f : List Int} (h6 : T ≤ 6) (hl : f.length = 2 ^ T) : (∃ k : Nat, (OfA T [] f).2 = k ∧ k < (OfA T [] f).1.length ∧ (OfA T [] f).1.length ≤ 127 ∧ ∀ c, c < 2 ^ T → val (OfA T [] f).1 k c = f.getD c 0) ∨ (OfA T [] f).2 = -1 := by
  by_cases ha : f.all isVal = true
  · obtain ⟨k, hk, hv⟩ := OfA_made (WF.nil h6) hl ha
    exact .inl ⟨k, hk.num, hk.lt, by simpa using OfA_len T [] f h6, hv⟩
  · right; rw [OfA_none (fun h => ha h.2)]


end Go.Proofs.Ytohhjdadhdibfaa
