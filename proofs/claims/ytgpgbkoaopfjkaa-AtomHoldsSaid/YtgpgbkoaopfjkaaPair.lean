/- Maps whose key is two ints; the walks of pair.maker's small functions. -/
import Derived.Test.YtgpgbkoaopfjkaaCut2
import Derived.Test.YtgpgbkoaopfjkaaPkA
namespace Go.Proofs.Ytgpgbkoaopfjkaa
open Go.RowKit

variable {R : Ending → World → Prop} {w : World} {a T : Nat} {L : List Nd}

/-- Two ints as a value. -/
def pairV (p : Int × Int) : Value := .agg #[.int .i64 p.1, .int .i64 p.2]

theorem pairEq (x y : Int × Int) (w : World) : (Op.equal 126 (pairV x) (pairV y)).run Try.prog w = .ok (decide (x = y)) w := by
  obtain ⟨a, b⟩ := x
  obtain ⟨c, d⟩ := y
  have he : ∀ (n : Nat) (p q : Int), (Op.equalIn (n + 1) 3 (.int .i64 p) (.int .i64 q)).run Try.prog w = .ok (p == q) w := fun n p q => by
    unfold Op.equalIn
    simp [run_underlying Try.underlying3]
  have he' : ∀ (p q : Int), (Op.equalIn 9999 3 (.int .i64 p) (.int .i64 q)).run Try.prog w = .ok (p == q) w := he 9998
  have h1 : ∀ (p q : Int), (part 3 #[.int .i64 p, .int .i64 q] 1).run Try.prog w = .ok (.int .i64 q) w := fun p q => by kernel_rfl
  have h0 : ∀ (p q : Int), (part 3 #[.int .i64 p, .int .i64 q] 0).run Try.prog w = .ok (.int .i64 p) w := fun p q => by kernel_rfl
  show (Op.equalIn (9998 + 1 + 1) 126 (.agg #[.int .i64 a, .int .i64 b]) (.agg #[.int .i64 c, .int .i64 d])).run Try.prog w = _
  rw [Op.equalIn]
  by_cases e1 : a = c <;> by_cases e2 : b = d <;> simp [run_underlying Try.underlying126, List.range', h0, h1, he', e1, e2]

theorem pairKeys : KeyT Try.prog 126 pairV where
  find := find_slow (fun d hd x y => by rw [Try.underlying126] at hd; cases hd; rfl) pairEq Try.underlying126
  check := fun b x w => by cases b <;> kernel_rfl
  stays := fun x w => by
    unfold Instr.keyThatStays
    rw [if_pos]
    · rfl
    · show Instr.sameBits (9999 + 1) (.agg _) (.agg _) = true
      simp [Instr.sameBits]

/-- The less of two nodes' tracks; below 0: both are leaves. -/
def topA (L : List Nd) (f g : Int) : Int := if trackA L f < 0 ∨ (0 ≤ trackA L g ∧ trackA L g < trackA L f) then trackA L g else trackA L f

theorem pairValue {mb : Nat} (h : StoreAt w a T L) (hm : w.cell? ⟨mb, 0, none⟩ = some (.pointer (some ⟨a, 0, none⟩))) (i : Int) (hR : ∀ e w', e = .returned (.int .i64 (atA T L i 0)) → Same w w' → R e w') :
    Calls Try.prog 105 #[.pointer (some ⟨mb, 0, none⟩), .int .i64 i] w R := by
  have HR := hide hR
  clear hR
  go_enter Try.func105, Try.ntmps105
  go_wp2_with fail
  refine storeAtC h i 0 ?_; rintro e w1 rfl k1
  go_wp2_with fail
  exact HR.out _ _ rfl k1

theorem pairParts {mb : Nat} (h : StoreAt w a T L) (hm : w.cell? ⟨mb, 0, none⟩ = some (.pointer (some ⟨a, 0, none⟩))) (i t : Int) (hR : ∀ e w', e = .returned (.tuple #[.int .i64 (if trackA L i = t then (kidsA L i).1 else i), .int .i64 (if trackA L i = t then (kidsA L i).2 else i)]) → Same w w' → R e w') :
    Calls Try.prog 106 #[.pointer (some ⟨mb, 0, none⟩), .int .i64 i, .int .i64 t] w R := by
  have HR := hide hR
  clear hR
  by_cases ht : trackA L i = t
  · rw [if_pos ht, if_pos ht] at HR
    have he : (trackA L i == t) = true := by simpa using ht
    clear ht
    go_enter Try.func106, Try.ntmps106
    go_wp2_with fail
    refine storeTrack h i ?_; rintro e w1 rfl k1
    have hm1 := Keeps.cell k1 hm trivial
    go_wp2_with fail
    refine storeKids (h.same k1) i ?_; rintro e w2 rfl k2
    go_wp2_with fail
    exact HR.out _ _ rfl (k1.tr k2)
  · rw [if_neg ht, if_neg ht] at HR
    have he : (trackA L i == t) = false := by simpa using ht
    clear ht
    go_enter Try.func106, Try.ntmps106
    go_wp2_with fail
    refine storeTrack h i ?_; rintro e w1 rfl k1
    go_wp2_with fail
    exact HR.out _ _ rfl k1

attribute [local irreducible] wpQuiet

set_option maxRecDepth 10000 in
set_option maxHeartbeats 2000000 in
theorem pairTop {mb : Nat} (h : StoreAt w a T L) (hm : w.cell? ⟨mb, 0, none⟩ = some (.pointer (some ⟨a, 0, none⟩))) (f g : Int) (hR : ∀ e w', e = .returned (.int .i64 (topA L f g)) → Same w w' → R e w') :
    Calls Try.prog 104 #[.pointer (some ⟨mb, 0, none⟩), .int .i64 f, .int .i64 g] w R := by
  have HR := hide hR
  clear hR
  have H := hide h
  have HT := hide (show topA L f g = if trackA L f < 0 ∨ (0 ≤ trackA L g ∧ trackA L g < trackA L f) then trackA L g else trackA L f from rfl)
  clear h
  go_enter Try.func104, Try.ntmps104
  go_wp2_with fail
  refine wp_region_same (by kernel_rfl) (by kernel_rfl) ?_
  iterate 14
    (apply wpQuiet_step
     intro K hK
     first
       | (apply quiet_skip
          case hw => rfl
          go_simp
          refine hK _ ?_; clear hK K)
       | (apply quiet_do
          case hw => rfl
          case h =>
            intro w' hw'
            (have z0 := Keeps.cell hw' hm trivial)
            go_simp
            first | exact rfl | (exact storeTrack (H.out.same hw') _ (fun e w'' he hk => ⟨he, hw'.tr hk⟩))
          go_simp
          refine hK _ ?_; clear hK K))
  apply wpQuiet_nil
  intro w1 k1
  generalize trackA L f = tf at HT ⊢
  generalize trackA L g = tg at HT ⊢
  by_cases h1 : tf < 0
  · have HE := hide (show topA L f g = tg by rw [HT.out, if_pos (.inl h1)])
    go_wp2_with fail
    exact HR.out _ _ (ret_int HE.out.symm) k1
  · by_cases h2 : 0 ≤ tg
    · by_cases h3 : tg < tf
      · have HE := hide (show topA L f g = tg by rw [HT.out, if_pos (.inr ⟨h2, h3⟩)])
        go_wp2_with fail
        exact HR.out _ _ (ret_int HE.out.symm) k1
      · have HE := hide (show topA L f g = tf by rw [HT.out, if_neg (by omega)])
        go_wp2_with fail
        exact HR.out _ _ (ret_int HE.out.symm) k1
    · have HE := hide (show topA L f g = tf by rw [HT.out, if_neg (by omega)])
      go_wp2_with fail
      exact HR.out _ _ (ret_int HE.out.symm) k1

end Go.Proofs.Ytgpgbkoaopfjkaa
