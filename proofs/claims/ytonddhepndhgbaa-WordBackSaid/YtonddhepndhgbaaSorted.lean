/- The walks of sibylref11.SameAll, sibylref15.Sorted. -/
import Derived.Test.YtonddhepndhgbaaTrim
import Derived.Test.YtonddhepndhgbaaOrd2
import Derived.Test.YtonddhepndhgbaaSame
namespace Go.Proofs.Ytonddhepndhgbaa
open Go.RowKit

variable {R : Ending → World → Prop} {w : World}

set_option maxHeartbeats 1000000 in
theorem sameRows {v u : Value} {a b : List (List Int)} (hv : RowsAt w v a) (hu : RowsAt w u b) (hR : ∀ e w', e = .returned (.bool (decide (a = b))) → Same w w' → R e w') :
    Calls Try.prog 25 #[v, u] w R := by
  have HR := hide hR
  clear hR
  obtain ⟨va, vc, rfl, hc1, hc2, hcell⟩ := hv.open
  obtain ⟨ua, uc, rfl, hd1, hd2, hdell⟩ := hu.open
  have HC := hide hcell
  have HD := hide hdell
  clear hcell hdell hv hu
  unfold maxLen at hc2 hd2
  by_cases hl : a.length = b.length
  · have hne : (((a.length : Nat) : Int) != ((b.length : Nat) : Int)) = false := by rw [hl]; simp
    have HL := hide hl
    go_enter Try.func25, Try.ntmps25
    go_wp2_with fail
    go_loopw [5] (fun i wr => ∃ k : Nat, i = .int .i64 k ∧ k ≤ a.length ∧ Hid (a.take k = b.take k) ∧ Same w wr) (fun i _ => a.length - (intOf i).toNat)
    case atStart => exact ⟨0, rfl, Nat.zero_le _, hide rfl, Keeps.refl _ _⟩
    case round =>
      obtain ⟨k, rfl, hk, ht, hK⟩ := hrel
      by_cases hlt : k < a.length
      · have hlt' : k < b.length := by omega
        obtain ⟨bl, off, rfl, hbl, hcl⟩ := HC.out k hlt
        obtain ⟨bl2, off2, rfl, hbl2, hcl2⟩ := HD.out k hlt'
        obtain ⟨x, hx, hxi⟩ := hcl k hlt
        obtain ⟨y, hy, hyi⟩ := hcl2 k hlt'
        have hck := Keeps.cell hK hx trivial
        have hck2 := Keeps.cell hK hy trivial
        have hx1 := (hxi.same hK)
        have hy1 := (hyi.same hK)
        have h1 : a.take (k + 1) = a.take k ++ [a[k]] := List.take_succ_eq_append_getElem hlt
        have h2 : b.take (k + 1) = b.take k ++ [b[k]] := List.take_succ_eq_append_getElem hlt'
        have h3 : a[k] ≠ b[k] → a ≠ b := by rintro h rfl; exact h rfl
        have HX := hide hx1
        have HY := hide hy1
        clear hcl hcl2 hx hy hxi hyi hx1 hy1
        generalize a[k] = p at HX h1 h3
        generalize b[k] = q at HY h2 h3
        have H1 := hide (And.intro h1 (And.intro h2 h3))
        clear h1 h2 h3 hl
        go_wp2_with fail
        refine wp_region_same (by kernel_rfl) (by kernel_rfl) ?_
        repeat
          (apply wpQuiet_step
           intro K hK
           first
             | (apply quiet_skip
                case hw => rfl
                go_simp
                refine hK _ ?_; clear hK K)
             | (apply quiet_do
                case hw => rfl
                case h =>
                  intro w' hw'
                  (have q1 := Keeps.cell hw' hck trivial; have q2 := Keeps.cell hw' hck2 trivial)
                  go_simp
                  first | exact rfl | (exact sameInts (HX.out.same hw') (HY.out.same hw') (fun e w'' he hk => ⟨he, hw'.tr hk⟩))
                go_simp
                refine hK _ ?_; clear hK K))
        apply wpQuiet_nil
        intro w1 k1
        by_cases hpq : p = q
        · subst hpq
          rw [show decide (p = p) = true by simp]
          go_wp2_with fail
          go_roundw
          case rel => exact ⟨k + 1, by go_num, by omega, hide (by rw [H1.out.1, H1.out.2.1, ht.out]), hK.tr k1⟩
          case measure => simp [intOf]; omega
        · have hd : decide (p = q) = false := decide_eq_false hpq
          have HF := hide (show decide (a = b) = false from decide_eq_false (H1.out.2.2 hpq))
          rw [hd]
          go_wp2_with fail
          exact HR.out _ _ (ret_bool (by rw [HF.out])) (hK.tr k1)
      · go_wp2_with fail
        refine HR.out _ _ (ret_bool ?_) hK
        have := ht.out
        have hl' := HL.out
        rw [List.take_of_length_le (by omega), List.take_of_length_le (by omega)] at this
        simp [this]
  · have hne : (((a.length : Nat) : Int) != ((b.length : Nat) : Int)) = true := by rw [bne_iff_ne]; intro e; exact hl (by exact_mod_cast e)
    have HF := hide (show decide (a = b) = false from decide_eq_false (fun e => hl (by rw [e])))
    clear hl
    go_enter Try.func25, Try.ntmps25
    go_wp2_with fail
    exact HR.out _ _ (ret_bool (by rw [HF.out])) (Keeps.refl _ _)

/-- One number more in a rising row. -/
def ins (out : List Int) (x : Int) : List Int :=
  if (out.dropWhile (· < x)).head? = some x then out else out.takeWhile (· < x) ++ x :: out.dropWhile (· < x)

def sortedOf (l : List Int) : List Int := l.foldl ins []

theorem sortedOf_snoc (l : List Int) (x : Int) : sortedOf (l ++ [x]) = ins (sortedOf l) x := by unfold sortedOf; rw [List.foldl_append]; rfl

theorem mem_ins {out : List Int} {x y : Int} : y ∈ ins out x ↔ y ∈ out ∨ y = x := by
  unfold ins
  have hsp : out = out.takeWhile (· < x) ++ out.dropWhile (· < x) := (List.takeWhile_append_dropWhile).symm
  split
  · rename_i h
    constructor
    · exact .inl
    · rintro (h1 | rfl)
      · exact h1
      · rw [hsp]; exact List.mem_append_right _ (List.mem_of_mem_head? h)
  · have : y ∈ out ↔ y ∈ out.takeWhile (· < x) ∨ y ∈ out.dropWhile (· < x) := by
      rw [← List.mem_append, List.takeWhile_append_dropWhile]
    rw [List.mem_append, List.mem_cons, this]
    constructor
    · rintro (h | h | h)
      · exact .inl (.inl h)
      · exact .inr h
      · exact .inl (.inr h)
    · rintro ((h | h) | h)
      · exact .inl h
      · exact .inr (.inr h)
      · exact .inr (.inl h)

theorem mem_sortedOf {l : List Int} {y : Int} : y ∈ sortedOf l ↔ y ∈ l := by
  suffices ∀ (l acc : List Int), y ∈ l.foldl ins acc ↔ y ∈ acc ∨ y ∈ l by simpa [sortedOf] using this l []
  intro l
  induction l with
  | nil => intro acc; simp
  | cons x l ih =>
    intro acc
    rw [List.foldl_cons, ih, mem_ins, List.mem_cons]
    constructor
    · rintro ((h | h) | h)
      · exact .inl h
      · exact .inr (.inl h)
      · exact .inr (.inr h)
    · rintro (h | h | h)
      · exact .inl (.inl h)
      · exact .inl (.inr h)
      · exact .inr h

theorem takeWhile_lt {out : List Int} {x : Int} : ∀ y ∈ out.takeWhile (· < x), y < x := by
  intro y hy
  induction out with
  | nil => cases hy
  | cons z out ih =>
    rw [List.takeWhile_cons] at hy
    split at hy
    · rename_i h
      rcases List.mem_cons.1 hy with rfl | hy
      · simpa using h
      · exact ih hy
    · cases hy

theorem dropWhile_ge {out : List Int} {x : Int} (hs : out.Pairwise (· < ·)) : ∀ y ∈ out.dropWhile (· < x), x ≤ y := by
  induction out with
  | nil => intro y hy; cases hy
  | cons z out ih =>
    intro y hy
    rw [List.dropWhile_cons] at hy
    rw [List.pairwise_cons] at hs
    split at hy
    · exact ih hs.2 y hy
    · rename_i h
      have hz : x ≤ z := by simpa using h
      rcases List.mem_cons.1 hy with rfl | hy
      · exact hz
      · have := hs.1 y hy; omega

theorem ins_sorted {out : List Int} (x : Int) (hs : out.Pairwise (· < ·)) : (ins out x).Pairwise (· < ·) := by
  unfold ins
  split
  · exact hs
  · rename_i h
    have hsp := hs
    rw [← List.takeWhile_append_dropWhile (p := (· < x)) (l := out), List.pairwise_append] at hsp
    rw [List.pairwise_append]
    refine ⟨hsp.1, ?_, fun a ha b hb => ?_⟩
    · rw [List.pairwise_cons]
      refine ⟨fun y hy => ?_, hsp.2.1⟩
      have h1 := dropWhile_ge hs y hy
      cases hd : out.dropWhile (· < x) with
      | nil => rw [hd] at hy; cases hy
      | cons z r =>
        rw [hd] at hy h hsp
        have hz : z ≠ x := by simpa using h
        have hzx := dropWhile_ge (x := x) hs z (by rw [hd]; simp)
        rcases List.mem_cons.1 hy with rfl | hy
        · omega
        · have := (List.pairwise_cons.1 hsp.2.1).1 y hy; omega
    · rcases List.mem_cons.1 hb with rfl | hb
      · exact takeWhile_lt a ha
      · exact hsp.2.2 a ha b hb

theorem sortedOf_sorted (l : List Int) : (sortedOf l).Pairwise (· < ·) := by
  suffices ∀ (l acc : List Int), acc.Pairwise (· < ·) → (l.foldl ins acc).Pairwise (· < ·) from this l [] List.Pairwise.nil
  intro l
  induction l with
  | nil => intro acc h; exact h
  | cons x l ih => intro acc h; exact ih _ (ins_sorted x h)

/-- Two rising rows of the same numbers are one. -/
theorem rising_unique : ∀ {a b : List Int}, a.Pairwise (· < ·) → b.Pairwise (· < ·) → (∀ x, x ∈ a ↔ x ∈ b) → a = b
  | [], [], _, _, _ => rfl
  | [], y :: b, _, _, h => absurd ((h y).2 (by simp)) (by simp)
  | x :: a, [], _, _, h => absurd ((h x).1 (by simp)) (by simp)
  | x :: a, y :: b, ha, hb, h => by
    rw [List.pairwise_cons] at ha hb
    have hxy : x = y := by
      rcases List.mem_cons.1 ((h x).1 (by simp)) with e | h1
      · exact e
      · rcases List.mem_cons.1 ((h y).2 (by simp)) with e | h2
        · exact e.symm
        · have := hb.1 x h1; have := ha.1 y h2; omega
    subst hxy
    congr 1
    refine rising_unique ha.2 hb.2 fun z => ?_
    constructor
    · intro hz
      have h1 := ha.1 z hz
      rcases List.mem_cons.1 ((h z).1 (List.mem_cons_of_mem _ hz)) with e | h2
      · omega
      · exact h2
    · intro hz
      have h1 := hb.1 z hz
      rcases List.mem_cons.1 ((h z).2 (List.mem_cons_of_mem _ hz)) with e | h2
      · omega
      · exact h2

/-- Where the walk stands when it stops. -/
theorem while_split {out : List Int} {x : Int} : ∀ {m : Nat}, m ≤ out.length → (∀ i y, i < m → out[i]? = some y → y < x) → (∀ y, out[m]? = some y → ¬ y < x) → out.takeWhile (· < x) = out.take m ∧ out.dropWhile (· < x) = out.drop m := by
  induction out with
  | nil => intro m hm _ _; simp
  | cons z out ih =>
    intro m hm h1 h2
    cases m with
    | zero =>
      have := h2 z rfl
      simp [this]
    | succ m =>
      have hz := h1 0 z (by omega) rfl
      have := ih (m := m) (by simpa using hm) (fun i y hi hy => h1 (i + 1) y (by omega) hy) (fun y hy => h2 y hy)
      simp [hz, this.1, this.2]

theorem ins_len (out : List Int) (x : Int) : (ins out x).length ≤ out.length + 1 := by
  unfold ins
  split
  · omega
  · have : out.length = (out.takeWhile (· < x)).length + (out.dropWhile (· < x)).length := by
      rw [← List.length_append, List.takeWhile_append_dropWhile]
    simp; omega

theorem sortedOf_len (l : List Int) : (sortedOf l).length ≤ l.length := by
  suffices ∀ (l acc : List Int), (l.foldl ins acc).length ≤ acc.length + l.length by simpa [sortedOf] using this l []
  intro l
  induction l with
  | nil => intro acc; simp
  | cons x l ih => intro acc; have := ih (ins acc x); have := ins_len acc x; simp; omega

end Go.Proofs.Ytonddhepndhgbaa
