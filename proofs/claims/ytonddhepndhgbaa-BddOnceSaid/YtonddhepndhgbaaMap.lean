/- A map of the call's own, whose keys' equality is known: what a lookup answers, what an update leaves. -/
import Derived.Test.YtonddhepndhgbaaBase
import Derived.Carry
import Derived.Maps.Keyed
namespace Go.Proofs.Ytonddhepndhgbaa
open Go.RowKit

/-- What the laws ask of a key's type: α's members as values; equality and the hash go through. -/
structure KeyT (P : Program) (kt : TypeId) {α : Type} [DecidableEq α] (enc : α → Value) : Prop where
  slow : ∀ d, P.underlying kt = some d → ∀ x y, Instr.sameNow d (enc x) y = none
  eq : ∀ x y w, (Op.equal kt (enc x) (enc y)).run P w = .ok (decide (x = y)) w
  check : ∀ b x w, (Instr.checkKey b 10000 kt (enc x)).run P w = .ok () w

/-- The map at block m holds these pairs. -/
def MapAt {α : Type} (enc : α → Value) (w : World) (m : Nat) (A : List (α × Value)) : Prop :=
  ∃ es clk, w.heap[m]? = some (.map es clk) ∧ es.toList.map (fun e => (e.key, e.val)) = A.map fun p => (enc p.1, p.2)

section
variable {P : Program} {kt : TypeId} {α : Type} [DecidableEq α] {enc : α → Value}

theorem findAsking_run (K : KeyT P kt enc) (x : α) (w : World) : ∀ (es : List MapEntry) (A : List (α × Value)) (i : Nat), es.map (fun e => (e.key, e.val)) = A.map (fun p => (enc p.1, p.2)) →
    (Instr.findAsking kt (enc x) es i).run P w = .ok (((A.zipIdx i).find? fun p => decide (x = p.1.1)).map fun p => (p.2, p.1.2)) w
  | [], A, i, h => by
    have : A = [] := by simpa using h.symm
    subst this
    simp [Instr.findAsking]
  | e :: es, A, i, h => by
    cases A with
    | nil => simp at h
    | cons p A =>
      simp only [List.map_cons, List.cons.injEq, Prod.mk.injEq] at h
      obtain ⟨⟨h1, h2⟩, h3⟩ := h
      have ih := findAsking_run K x w es A (i + 1) h3
      unfold Instr.findAsking
      simp only [Sem.run_bind, h1, K.eq, Result.andThen_ok]
      by_cases hx : x = p.1
      · simp [hx, h2]
      · simp [hx, ih]

theorem findKey_run (K : KeyT P kt enc) {d : TypeDesc} (hd : P.underlying kt = some d) (x : α) (w : World) (es : List MapEntry) (A : List (α × Value)) (h : es.map (fun e => (e.key, e.val)) = A.map (fun p => (enc p.1, p.2))) :
    (Instr.findKey kt (enc x) es).run P w = .ok (((A.zipIdx).find? fun p => decide (x = p.1.1)).map fun p => (p.2, p.1.2)) w := by
  unfold Instr.findKey
  simp only [Sem.run_bind, run_underlying hd, Result.andThen_ok]
  cases es with
  | nil =>
    have : A = [] := by simpa using h.symm
    subst this
    simp [Instr.findNow]
  | cons e es =>
    have : Instr.findNow d (enc x) (e :: es) 0 = none := by
      unfold Instr.findNow
      rw [K.slow d hd]
    simp only [this]
    exact findAsking_run K x w _ A 0 h

theorem find_zipIdx (A : List (α × Value)) (x : α) : ∀ i, ((A.zipIdx i).find? fun p => decide (x = p.1.1)).map (fun p => p.1.2) = A.lookup x := by
  induction A with
  | nil => intro i; rfl
  | cons p A ih =>
    intro i
    by_cases hx : x = p.1
    · subst hx; simp [List.lookup]
    · have h1 : (x == p.1) = false := by simpa using hx
      simp only [List.zipIdx_cons, List.find?_cons, hx, decide_false, List.lookup]
      rw [h1]
      exact ih (i + 1)

/-- 'v, ok := m[k]'. -/
theorem run_lookup_at (K : KeyT P kt enc) {t e : TypeId} {d : TypeDesc} {z : Value} (ht : P.underlying t = some (.map kt e)) (hd : P.underlying kt = some d) {w : World} {m : Nat} {A : List (α × Value)} (hz : (zeroValue e).run P w = .ok z w)
    (hm : MapAt enc w m A) (x : α) :
    (Instr.lookup t (.map (some m)) (enc x) true).run P w = .ok (.tuple #[(A.lookup x).getD z, .bool (A.lookup x).isSome]) w := by
  obtain ⟨es, clk, h1, h2⟩ := hm
  have hf := findKey_run K hd x w es.toList A h2
  have hl := find_zipIdx A x 0
  unfold Instr.lookup
  simp only [Sem.run_bind, run_underlying ht, Result.andThen_ok, MapKept.run_getObj_map h1, K.check, Sem.run_pure, hf]
  cases hc : (A.zipIdx).find? fun p => decide (x = p.1.1) with
  | none => rw [hc] at hl; simp at hl; simp [← hl, hz]
  | some p => rw [hc] at hl; simp at hl; simp [← hl]

/-- 'm[k] = v', the key not there yet. -/
theorem run_update_new (K : KeyT P kt enc) {t e : TypeId} {d : TypeDesc} (ht : P.underlying t = some (.map kt e)) (hd : P.underlying kt = some d) {w : World} {m : Nat} {A : List (α × Value)}
    (hm : MapAt enc w m A) (x : α) (v : Value) (hx : A.lookup x = none) :
    ∃ w', (Instr.mapUpdate t (.map (some m)) (enc x) v).run P w = .ok () w' ∧ MapAt enc w' m (A ++ [(x, v)]) ∧ Keeps (· ≠ m) w w' := by
  obtain ⟨es, clk, h1, h2⟩ := hm
  have hf := findKey_run K hd x w es.toList A h2
  have hl := find_zipIdx A x 0
  rw [hx] at hl
  have hn : ((A.zipIdx).find? fun p => decide (x = p.1.1)) = none := by
    cases hc : (A.zipIdx).find? fun p => decide (x = p.1.1) with
    | none => rfl
    | some p => rw [hc] at hl; simp at hl
  rw [hn] at hf
  refine ⟨ChangeMaps.setBlock w m (.map (es.push ⟨enc x, v, clk⟩) (clk + 1)), ?_, ⟨es.push ⟨enc x, v, clk⟩, clk + 1, ?_, ?_⟩, ?_⟩
  · unfold Instr.mapUpdate
    simp [run_underlying ht, MapKept.run_getObj_map h1, K.check, hf, MapKept.run_setObj_map _ h1, Result.andThen, ChangeMaps.setBlock]
  · have := heap_lt h1
    simp [ChangeMaps.setBlock, this]
  · simp [h2]
  · refine ⟨rfl, rfl, rfl, by simp [ChangeMaps.setBlock], fun k hk hne => ?_⟩
    simp [ChangeMaps.setBlock, Ne.symm hne]

end

theorem MapAt.keep {α : Type} {enc : α → Value} {S : Nat → Prop} {w w' : World} {m : Nat} {A : List (α × Value)} (h : MapAt enc w m A) (k : Keeps S w w') (hs : S m) : MapAt enc w' m A := by
  obtain ⟨es, clk, h1, h2⟩ := h
  exact ⟨es, clk, k.at h1 hs, h2⟩

end Go.Proofs.Ytonddhepndhgbaa
