/- The walks of sibylref11.SameAll, sibylref15.Sorted. -/
import Derived.Test.YtbmpnfibebiaeaaTrim
import Derived.Test.YtbmpnfibebiaeaaPkA
namespace Go.Proofs.Ytbmpnfibebiaeaa
open Go.RowKit

variable {R : Ending → World → Prop} {w : World}

/-- One number more in a rising row. -/
def ins (out : List Int) (x : Int) : List Int :=
  if (out.dropWhile (· < x)).head? = some x then out else out.takeWhile (· < x) ++ x :: out.dropWhile (· < x)

def sortedOf (l : List Int) : List Int := l.foldl ins []

theorem sortedOf_snoc (l : List Int) (x : Int) : sortedOf (l ++ [x]) = ins (sortedOf l) x := by unfold sortedOf; rw [List.foldl_append]; rfl

theorem mem_ins {out : List Int} {x y : Int} : y ∈ ins out x ↔ y ∈ out ∨ y = x := by
  unfold ins
  have hsp : out = out.takeWhile (· < x) ++ out.dropWhile (· < x) := (List.takeWhile_append_dropWhile).symm
  split
  · rename_i h
    constructor
    · exact .inl
    · rintro (h1 | rfl)
      · exact h1
      · rw [hsp]; exact List.mem_append_right _ (List.mem_of_mem_head? h)
  · have : y ∈ out ↔ y ∈ out.takeWhile (· < x) ∨ y ∈ out.dropWhile (· < x) := by
      rw [← List.mem_append, List.takeWhile_append_dropWhile]
    rw [List.mem_append, List.mem_cons, this]
    constructor
    · rintro (h | h | h)
      · exact .inl (.inl h)
      · exact .inr h
      · exact .inl (.inr h)
    · rintro ((h | h) | h)
      · exact .inl h
      · exact .inr (.inr h)
      · exact .inr (.inl h)

theorem mem_sortedOf {l : List Int} {y : Int} : y ∈ sortedOf l ↔ y ∈ l := by
  suffices ∀ (l acc : List Int), y ∈ l.foldl ins acc ↔ y ∈ acc ∨ y ∈ l by simpa [sortedOf] using this l []
  intro l
  induction l with
  | nil => intro acc; simp
  | cons x l ih =>
    intro acc
    rw [List.foldl_cons, ih, mem_ins, List.mem_cons]
    constructor
    · rintro ((h | h) | h)
      · exact .inl h
      · exact .inr (.inl h)
      · exact .inr (.inr h)
    · rintro (h | h | h)
      · exact .inl (.inl h)
      · exact .inl (.inr h)
      · exact .inr h

theorem takeWhile_lt {out : List Int} {x : Int} : ∀ y ∈ out.takeWhile (· < x), y < x := by
  intro y hy
  induction out with
  | nil => cases hy
  | cons z out ih =>
    rw [List.takeWhile_cons] at hy
    split at hy
    · rename_i h
      rcases List.mem_cons.1 hy with rfl | hy
      · simpa using h
      · exact ih hy
    · cases hy

theorem dropWhile_ge {out : List Int} {x : Int} (hs : out.Pairwise (· < ·)) : ∀ y ∈ out.dropWhile (· < x), x ≤ y := by
  induction out with
  | nil => intro y hy; cases hy
  | cons z out ih =>
    intro y hy
    rw [List.dropWhile_cons] at hy
    rw [List.pairwise_cons] at hs
    split at hy
    · exact ih hs.2 y hy
    · rename_i h
      have hz : x ≤ z := by simpa using h
      rcases List.mem_cons.1 hy with rfl | hy
      · exact hz
      · have := hs.1 y hy; omega

theorem ins_sorted {out : List Int} (x : Int) (hs : out.Pairwise (· < ·)) : (ins out x).Pairwise (· < ·) := by
  unfold ins
  split
  · exact hs
  · rename_i h
    have hsp := hs
    rw [← List.takeWhile_append_dropWhile (p := (· < x)) (l := out), List.pairwise_append] at hsp
    rw [List.pairwise_append]
    refine ⟨hsp.1, ?_, fun a ha b hb => ?_⟩
    · rw [List.pairwise_cons]
      refine ⟨fun y hy => ?_, hsp.2.1⟩
      have h1 := dropWhile_ge hs y hy
      cases hd : out.dropWhile (· < x) with
      | nil => rw [hd] at hy; cases hy
      | cons z r =>
        rw [hd] at hy h hsp
        have hz : z ≠ x := by simpa using h
        have hzx := dropWhile_ge (x := x) hs z (by rw [hd]; simp)
        rcases List.mem_cons.1 hy with rfl | hy
        · omega
        · have := (List.pairwise_cons.1 hsp.2.1).1 y hy; omega
    · rcases List.mem_cons.1 hb with rfl | hb
      · exact takeWhile_lt a ha
      · exact hsp.2.2 a ha b hb

theorem sortedOf_sorted (l : List Int) : (sortedOf l).Pairwise (· < ·) := by
  suffices ∀ (l acc : List Int), acc.Pairwise (· < ·) → (l.foldl ins acc).Pairwise (· < ·) from this l [] List.Pairwise.nil
  intro l
  induction l with
  | nil => intro acc h; exact h
  | cons x l ih => intro acc h; exact ih _ (ins_sorted x h)

/-- Two rising rows of the same numbers are one. -/
theorem rising_unique : ∀ {a b : List Int}, a.Pairwise (· < ·) → b.Pairwise (· < ·) → (∀ x, x ∈ a ↔ x ∈ b) → a = b
  | [], [], _, _, _ => rfl
  | [], y :: b, _, _, h => absurd ((h y).2 (by simp)) (by simp)
  | x :: a, [], _, _, h => absurd ((h x).1 (by simp)) (by simp)
  | x :: a, y :: b, ha, hb, h => by
    rw [List.pairwise_cons] at ha hb
    have hxy : x = y := by
      rcases List.mem_cons.1 ((h x).1 (by simp)) with e | h1
      · exact e
      · rcases List.mem_cons.1 ((h y).2 (by simp)) with e | h2
        · exact e.symm
        · have := hb.1 x h1; have := ha.1 y h2; omega
    subst hxy
    congr 1
    refine rising_unique ha.2 hb.2 fun z => ?_
    constructor
    · intro hz
      have h1 := ha.1 z hz
      rcases List.mem_cons.1 ((h z).1 (List.mem_cons_of_mem _ hz)) with e | h2
      · omega
      · exact h2
    · intro hz
      have h1 := hb.1 z hz
      rcases List.mem_cons.1 ((h z).2 (List.mem_cons_of_mem _ hz)) with e | h2
      · omega
      · exact h2

/-- Where the walk stands when it stops. -/
theorem while_split {out : List Int} {x : Int} : ∀ {m : Nat}, m ≤ out.length → (∀ i y, i < m → out[i]? = some y → y < x) → (∀ y, out[m]? = some y → ¬ y < x) → out.takeWhile (· < x) = out.take m ∧ out.dropWhile (· < x) = out.drop m := by
  induction out with
  | nil => intro m hm _ _; simp
  | cons z out ih =>
    intro m hm h1 h2
    cases m with
    | zero =>
      have := h2 z rfl
      simp [this]
    | succ m =>
      have hz := h1 0 z (by omega) rfl
      have := ih (m := m) (by simpa using hm) (fun i y hi hy => h1 (i + 1) y (by omega) hy) (fun y hy => h2 y hy)
      simp [hz, this.1, this.2]

theorem ins_len (out : List Int) (x : Int) : (ins out x).length ≤ out.length + 1 := by
  unfold ins
  split
  · omega
  · have : out.length = (out.takeWhile (· < x)).length + (out.dropWhile (· < x)).length := by
      rw [← List.length_append, List.takeWhile_append_dropWhile]
    simp; omega

theorem sortedOf_len (l : List Int) : (sortedOf l).length ≤ l.length := by
  suffices ∀ (l acc : List Int), (l.foldl ins acc).length ≤ acc.length + l.length by simpa [sortedOf] using this l []
  intro l
  induction l with
  | nil => intro acc; simp
  | cons x l ih => intro acc; have := ih (ins acc x); have := ins_len acc x; simp; omega

end Go.Proofs.Ytbmpnfibebiaeaa
