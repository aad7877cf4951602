/- A map of the call's own, whose keys' equality is known: what a lookup answers, what an update leaves. -/
import Derived.Test.YtohhjdadhdibfaaBase
import Derived.Carry
import Derived.Maps.Keyed
namespace Go.Proofs.Ytohhjdadhdibfaa
open Go.RowKit

/-- What the laws ask of a key's type: α's members as values; the search, the hash, the key that stays go through. -/
structure KeyT (P : Program) (kt : TypeId) {α : Type} [DecidableEq α] (enc : α → Value) : Prop where
  find : ∀ (x : α) (w : World) (es : List MapEntry) (A : List (α × Value)), es.map (fun e => (e.key, e.val)) = A.map (fun p => (enc p.1, p.2)) →
    (Instr.findKey kt (enc x) es).run P w = .ok (((A.zipIdx).find? fun p => decide (x = p.1.1)).map fun p => (p.2, p.1.2)) w
  check : ∀ b x w, (Instr.checkKey b 10000 kt (enc x)).run P w = .ok () w
  stays : ∀ x w, (Instr.keyThatStays (enc x) (enc x)).run P w = .ok (enc x) w

/-- The map at block m holds these pairs. -/
def MapAt {α : Type} (enc : α → Value) (w : World) (m : Nat) (A : List (α × Value)) : Prop :=
  ∃ es clk, w.heap[m]? = some (.map es clk) ∧ es.toList.map (fun e => (e.key, e.val)) = A.map fun p => (enc p.1, p.2)

section
variable {P : Program} {kt : TypeId} {α : Type} [DecidableEq α] {enc : α → Value}

theorem findAsking_run (heq : ∀ (x y : α) w, (Op.equal kt (enc x) (enc y)).run P w = .ok (decide (x = y)) w) (x : α) (w : World) : ∀ (es : List MapEntry) (A : List (α × Value)) (i : Nat), es.map (fun e => (e.key, e.val)) = A.map (fun p => (enc p.1, p.2)) →
    (Instr.findAsking kt (enc x) es i).run P w = .ok (((A.zipIdx i).find? fun p => decide (x = p.1.1)).map fun p => (p.2, p.1.2)) w
  | [], A, i, h => by
    have : A = [] := by simpa using h.symm
    subst this
    simp [Instr.findAsking]
  | e :: es, A, i, h => by
    cases A with
    | nil => simp at h
    | cons p A =>
      simp only [List.map_cons, List.cons.injEq, Prod.mk.injEq] at h
      obtain ⟨⟨h1, h2⟩, h3⟩ := h
      have ih := findAsking_run heq x w es A (i + 1) h3
      unfold Instr.findAsking
      simp only [Sem.run_bind, h1, heq, Result.andThen_ok]
      by_cases hx : x = p.1
      · simp [hx, h2]
      · simp [hx, ih]

/-- A key type whose equality is asked of the model. -/
theorem find_slow (hslow : ∀ d, P.underlying kt = some d → ∀ (x : α) y, Instr.sameNow d (enc x) y = none) (heq : ∀ (x y : α) w, (Op.equal kt (enc x) (enc y)).run P w = .ok (decide (x = y)) w) {d : TypeDesc} (hd : P.underlying kt = some d)
    (x : α) (w : World) (es : List MapEntry) (A : List (α × Value)) (h : es.map (fun e => (e.key, e.val)) = A.map (fun p => (enc p.1, p.2))) :
    (Instr.findKey kt (enc x) es).run P w = .ok (((A.zipIdx).find? fun p => decide (x = p.1.1)).map fun p => (p.2, p.1.2)) w := by
  unfold Instr.findKey
  simp only [Sem.run_bind, run_underlying hd, Result.andThen_ok]
  cases es with
  | nil =>
    have : A = [] := by simpa using h.symm
    subst this
    simp [Instr.findNow]
  | cons e es =>
    have : Instr.findNow d (enc x) (e :: es) 0 = none := by
      unfold Instr.findNow
      rw [hslow d hd]
    simp only [this]
    exact findAsking_run heq x w _ A 0 h

theorem findNow_int (x : Int) : ∀ (es : List MapEntry) (A : List (Int × Value)) (i : Nat), es.map (fun e => (e.key, e.val)) = A.map (fun p => (Value.int .i64 p.1, p.2)) →
    Instr.findNow (.int .i64) (.int .i64 x) es i = some (((A.zipIdx i).find? fun p => decide (x = p.1.1)).map fun p => (p.2, p.1.2))
  | [], A, i, h => by
    have : A = [] := by simpa using h.symm
    subst this
    simp [Instr.findNow]
  | e :: es, A, i, h => by
    cases A with
    | nil => simp at h
    | cons p A =>
      simp only [List.map_cons, List.cons.injEq, Prod.mk.injEq] at h
      obtain ⟨⟨h1, h2⟩, h3⟩ := h
      have ih := findNow_int x es A (i + 1) h3
      unfold Instr.findNow
      rw [h1]
      by_cases hx : x = p.1
      · simp [Instr.sameNow, hx, h2]
      · have hb : (x == p.1) = false := by simpa using hx
        simp [Instr.sameNow, hx, hb, ih]

/-- Ints as keys. -/
theorem intKeys (hk : P.underlying kt = some (.int .i64)) : KeyT P kt (Value.int .i64) where
  find := fun x w es A h => by
    unfold Instr.findKey
    simp only [Sem.run_bind, run_underlying hk, Result.andThen_ok, findNow_int x es A 0 h]
    rfl
  check := fun b x w => by
    show (Instr.checkKey b (9999 + 1) kt (.int .i64 x)).run P w = _
    unfold Instr.checkKey
    simp [run_underlying hk]
  stays := fun x w => by
    unfold Instr.keyThatStays
    rw [if_pos]
    · rfl
    · show Instr.sameBits (9999 + 1) _ _ = true
      simp [Instr.sameBits]

theorem find_zipIdx (A : List (α × Value)) (x : α) : ∀ i, ((A.zipIdx i).find? fun p => decide (x = p.1.1)).map (fun p => p.1.2) = A.lookup x := by
  induction A with
  | nil => intro i; rfl
  | cons p A ih =>
    intro i
    by_cases hx : x = p.1
    · subst hx; simp [List.lookup]
    · have h1 : (x == p.1) = false := by simpa using hx
      simp only [List.zipIdx_cons, List.find?_cons, hx, decide_false, List.lookup]
      rw [h1]
      exact ih (i + 1)

/-- 'v, ok := m[k]'. -/
theorem run_lookup_at (K : KeyT P kt enc) {t e : TypeId} {z : Value} (ht : P.underlying t = some (.map kt e)) {w : World} {m : Nat} {A : List (α × Value)} (hz : (zeroValue e).run P w = .ok z w)
    (hm : MapAt enc w m A) (x : α) :
    (Instr.lookup t (.map (some m)) (enc x) true).run P w = .ok (.tuple #[(A.lookup x).getD z, .bool (A.lookup x).isSome]) w := by
  obtain ⟨es, clk, h1, h2⟩ := hm
  have hf := K.find x w es.toList A h2
  have hl := find_zipIdx A x 0
  unfold Instr.lookup
  simp only [Sem.run_bind, run_underlying ht, Result.andThen_ok, MapKept.run_getObj_map h1, K.check, Sem.run_pure, hf]
  cases hc : (A.zipIdx).find? fun p => decide (x = p.1.1) with
  | none => rw [hc] at hl; simp at hl; simp [← hl, hz]
  | some p => rw [hc] at hl; simp at hl; simp [← hl]

/-- 'm[k] = v', the key not there yet. -/
theorem run_update_new (K : KeyT P kt enc) {t e : TypeId} (ht : P.underlying t = some (.map kt e)) {w : World} {m : Nat} {A : List (α × Value)}
    (hm : MapAt enc w m A) (x : α) (v : Value) (hx : A.lookup x = none) :
    ∃ w', (Instr.mapUpdate t (.map (some m)) (enc x) v).run P w = .ok () w' ∧ MapAt enc w' m (A ++ [(x, v)]) ∧ Keeps (· ≠ m) w w' := by
  obtain ⟨es, clk, h1, h2⟩ := hm
  have hf := K.find x w es.toList A h2
  have hl := find_zipIdx A x 0
  rw [hx] at hl
  have hn : ((A.zipIdx).find? fun p => decide (x = p.1.1)) = none := by
    cases hc : (A.zipIdx).find? fun p => decide (x = p.1.1) with
    | none => rfl
    | some p => rw [hc] at hl; simp at hl
  rw [hn] at hf
  refine ⟨ChangeMaps.setBlock w m (.map (es.push ⟨enc x, v, clk⟩) (clk + 1)), ?_, ⟨es.push ⟨enc x, v, clk⟩, clk + 1, ?_, ?_⟩, ?_⟩
  · unfold Instr.mapUpdate
    simp [run_underlying ht, MapKept.run_getObj_map h1, K.check, hf, MapKept.run_setObj_map _ h1, Result.andThen, ChangeMaps.setBlock]
  · have := heap_lt h1
    simp [ChangeMaps.setBlock, this]
  · simp [h2]
  · refine ⟨rfl, rfl, rfl, by simp [ChangeMaps.setBlock], fun k hk hne => ?_⟩
    simp [ChangeMaps.setBlock, Ne.symm hne]

/-- 'm[k] = v', whether the key is there or not. -/
theorem run_update_any (K : KeyT P kt enc) {t e : TypeId} (ht : P.underlying t = some (.map kt e)) {w : World} {m : Nat} {A : List (α × Value)}
    (hm : MapAt enc w m A) (x : α) (v : Value) :
    ∃ w' A', (Instr.mapUpdate t (.map (some m)) (enc x) v).run P w = .ok () w' ∧ MapAt enc w' m A' ∧ (∀ p ∈ A', p ∈ A ∨ p = (x, v)) ∧ Keeps (· ≠ m) w w' := by
  by_cases hx : A.lookup x = none
  · obtain ⟨w', h1, h2, h3⟩ := run_update_new K ht hm x v hx
    exact ⟨w', _, h1, h2, fun p hp => by simpa using hp, h3⟩
  · obtain ⟨es, clk, h1, h2⟩ := hm
    have hf := K.find x w es.toList A h2
    have hl := find_zipIdx A x 0
    obtain ⟨q, hq⟩ : ∃ q, ((A.zipIdx).find? fun p => decide (x = p.1.1)) = some q := by
      cases hc : (A.zipIdx).find? fun p => decide (x = p.1.1) with
      | none => rw [hc] at hl; exact absurd hl.symm hx
      | some q => exact ⟨q, rfl⟩
    rw [hq] at hf
    have hqx : x = q.1.1 := by have := List.find?_some hq; simpa using this
    have hqm : q ∈ A.zipIdx := List.mem_of_find?_eq_some hq
    obtain ⟨⟨qx, qv⟩, i⟩ := q
    simp only at hqx
    subst hqx
    have hAi : A[i]? = some (x, qv) := by
      have := List.mem_zipIdx_iff_getElem?.1 hqm
      simpa using this
    have hi : i < A.length := (List.getElem?_eq_some_iff.1 hAi).1
    have hei : ∃ e0, es[i]? = some e0 ∧ e0.key = enc x := by
      have h3 := congrArg (fun l => l[i]?) h2
      simp only [List.getElem?_map, hAi, Option.map_some, Array.getElem?_toList] at h3
      cases he : es[i]? with
      | none => rw [he] at h3; cases h3
      | some e0 => rw [he] at h3; simp at h3; exact ⟨e0, rfl, h3.1⟩
    obtain ⟨e0, he0, hk0⟩ := hei
    refine ⟨ChangeMaps.setBlock w m (.map (es.modify i fun e => { e with key := enc x, val := v }) clk), A.set i (x, v), ?_, ⟨es.modify i fun e => { e with key := enc x, val := v }, clk, ?_, ?_⟩, ?_, ?_⟩
    · unfold Instr.mapUpdate
      simp [run_underlying ht, MapKept.run_getObj_map h1, K.check, hf, he0, hk0, K.stays, MapKept.run_setObj_map _ h1, Result.andThen, ChangeMaps.setBlock]
    · have := heap_lt h1
      simp [ChangeMaps.setBlock, this]
    · apply List.ext_getElem?
      intro n
      have h3 := congrArg (fun l => l[n]?) h2
      simp only [List.getElem?_map, Array.getElem?_toList] at h3 ⊢
      rw [Array.getElem?_modify, List.getElem?_set]
      by_cases hn : i = n
      · subst hn; simp [he0, hi]
      · simp [hn]; exact h3
    · intro p hp
      rcases List.mem_or_eq_of_mem_set hp with h | h
      · exact .inl h
      · exact .inr h
    · refine ⟨rfl, rfl, rfl, by simp [ChangeMaps.setBlock], fun k hk hne => ?_⟩
      simp [ChangeMaps.setBlock, Ne.symm hne]

end

theorem lookup_mem {α : Type} [DecidableEq α] {A : List (α × Value)} {x : α} {v : Value} (h : A.lookup x = some v) : (x, v) ∈ A := by
  induction A with
  | nil => cases h
  | cons p A ih =>
    obtain ⟨y, u⟩ := p
    by_cases e : x = y
    · subst e; simp at h; subst h; simp
    · have : (x == y) = false := by simpa using e
      simp only [List.lookup, this] at h
      exact List.mem_cons_of_mem _ (ih h)

theorem MapAt.keep {α : Type} {enc : α → Value} {S : Nat → Prop} {w w' : World} {m : Nat} {A : List (α × Value)} (h : MapAt enc w m A) (k : Keeps S w w') (hs : S m) : MapAt enc w' m A := by
  obtain ⟨es, clk, h1, h2⟩ := h
  exact ⟨es, clk, k.at h1 hs, h2⟩

end Go.Proofs.Ytohhjdadhdibfaa
