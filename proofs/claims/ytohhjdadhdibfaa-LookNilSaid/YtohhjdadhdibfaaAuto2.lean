/- The walk of auto.Is. -/
import Derived.Laws.EntriesVeiled
import Derived.Test.YtohhjdadhdibfaaAuto
import Derived.Test.YtohhjdadhdibfaaFind2
namespace Go.Proofs.Ytohhjdadhdibfaa
open Go.RowKit

variable {R : Ending → World → Prop} {w : World}

theorem callFunc_odd (args : Array Value) (w : World) : (callFunc 95 args).run Try.prog w = .ok (.enter 95 args) w := by kernel_rfl
theorem callFunc_bad (args : Array Value) (w : World) : (callFunc 97 args).run Try.prog w = .ok (.enter 97 args) w := by kernel_rfl

def oddI (n : Nat) (x : Int) : Bool := decide (x < 0) || decide ((n : Int) ≤ x)

theorem isOdd {n nb : Nat} (x : Int) (hn : w.cell? ⟨nb, 0, none⟩ = some (.int .i64 (n : Int))) (hR : ∀ e, e = .returned (.bool (oddI n x)) → R e w) :
    Calls Try.prog 95 #[.int .i64 x, .pointer (some ⟨nb, 0, none⟩)] w R := by
  have HR := hide hR
  clear hR
  by_cases h0 : x < 0
  · go_enter Try.func95, Try.ntmps95
    go_wp2_with fail
    exact HR.out _ (ret_bool (by simp [oddI, h0]))
  · go_enter Try.func95, Try.ntmps95
    go_wp2_with fail
    exact HR.out _ (ret_bool (by simp [oddI]; omega))

/-- A row that may not be. -/
def badRow (T n : Nat) (l : List Int) : Bool := !(decide (RowOk T n l))

theorem badRow_eq {T n p : Nat} {l : List Int} (hp : 2 ^ T = p) : badRow T n l = (((l.length : Nat) : Int) != ((p : Nat) : Int) || l.any (oddI n)) := by
  subst hp
  rw [Bool.eq_iff_iff]
  unfold badRow
  rw [Bool.not_eq_true', decide_eq_false_iff_not, Bool.or_eq_true, bne_iff_ne, List.any_eq_true]
  unfold RowOk oddI
  constructor
  · intro h
    by_cases hl : l.length = 2 ^ T
    · right
      apply Classical.byContradiction
      intro hh
      refine h ⟨hl, fun x hx => ?_⟩
      have : ¬ (x < 0 ∨ (n : Int) ≤ x) := fun h3 => hh ⟨x, hx, by simpa using h3⟩
      omega
    · left; intro e; exact hl (by exact_mod_cast e)
  · rintro (h | ⟨x, hx, hb⟩) ⟨h1, h2⟩
    · exact h (by rw [h1])
    · have := h2 x hx
      simp at hb
      omega

theorem isBad {T n ab nb ob : Nat} {u : Value} {l : List Int} (h6 : T ≤ 6) (hu : IntsAt w u l) (ha : w.cell? ⟨ab, 0, none⟩ = some (.int .i64 (T : Int))) (hn : w.cell? ⟨nb, 0, none⟩ = some (.int .i64 (n : Int)))
    (ho : w.cell? ⟨ob, 0, none⟩ = some (.func (.func 95) #[] #[.pointer (some ⟨nb, 0, none⟩)]))
    (hR : ∀ e w', e = .returned (.bool (badRow T n l)) → Same w w' → R e w') :
    Calls Try.prog 97 #[u, .pointer (some ⟨ab, 0, none⟩), .pointer (some ⟨ob, 0, none⟩)] w R := by
  have HR := hide hR
  clear hR
  have hw2 := wrap_two h6
  have HU := hide hu
  obtain ⟨ua, uc, rfl, hc1, hc2, _⟩ := hu.open
  unfold maxLen at hc2
  have HE := hide (fun p hp => badRow_eq (T := T) (n := n) (p := p) (l := l) hp)
  by_cases hl : l.length = 2 ^ T
  · generalize hpp : 2 ^ T = p at hw2 hl
    have HPP := hide hpp
    clear hpp hu
    have hne : (((l.length : Nat) : Int) != ((p : Nat) : Int)) = false := by rw [hl]; simp
    clear hl
    go_enter Try.func97, Try.ntmps97
    go_wp2_with fail
    refine containsFunc (p := oddI n) callFunc_odd HU.out ?_ ?_
    · intro x _ w' R hw' hR'
      exact isOdd x (Keeps.cell hw' hn trivial) (fun e he => hR' e _ he (Keeps.refl _ _))
    rintro e w1 rfl k1
    go_wp2_with fail
    exact HR.out _ _ (ret_bool (by rw [HE.out p HPP.out, hne]; simp)) k1
  · generalize hpp : 2 ^ T = p at hw2 hl
    have HPP := hide hpp
    clear hpp hu
    have hne : (((l.length : Nat) : Int) != ((p : Nat) : Int)) = true := by rw [bne_iff_ne]; omega
    clear hl
    go_enter Try.func97, Try.ntmps97
    go_wp2_with fail
    exact HR.out _ _ (ret_bool (by rw [HE.out p HPP.out, hne]; simp)) (Keeps.refl _ _)

set_option maxHeartbeats 2000000 in
theorem autoIs {v : Value} {A : Au} (hv : AutoAt w v A) (hR : ∀ e w', e = .returned (.bool (decide (AuOk A))) → Same w w' → R e w') :
    Calls Try.prog 84 #[v] w R := by
  have HR := hide hR
  clear hR
  obtain ⟨T, acc, next⟩ := A
  obtain ⟨va, vn, rfl, hacc, hnext, hT⟩ := hv
  simp only at hacc hnext hT
  obtain ⟨aa, ac, rfl, hc1, hc2, _⟩ := hacc.open
  have HN := hide hnext
  obtain ⟨na, nc, rfl, hd1, hd2, _⟩ := hnext.open
  unfold maxLen at hc2 hd2
  unfold InI64 at hT
  have hbox := heap_new w (.cells #[.int .i64 T, .slice aa acc.length ac, .slice na next.length nc] 25)
  have c0 := cell_at hbox 0
  have c1 := cell_at hbox 1
  have c2 := cell_at hbox 2
  simp only [List.getElem?_toArray, List.getElem?_cons_zero, List.getElem?_cons_succ] at c0 c1 c2
  have hk : Same w (w.alloc (.cells #[.int .i64 T, .slice aa acc.length ac, .slice na next.length nc] 25)) := (Keeps.refl _ w).alloc _
  clear hacc hnext hbox
  by_cases h5 : next.length = acc.length
  case neg =>
    have hne : (((next.length : Nat) : Int) != ((acc.length : Nat) : Int)) = true := by rw [bne_iff_ne]; omega
    have HNO := hide h5
    clear h5
    go_enter Try.func84, Try.ntmps84
    go_wp2_with fail
    all_goals exact HR.out _ _ (ret_bool (by symm; rw [decide_eq_false_iff_not]; exact fun h => HNO.out h.1.2.2.2.2)) (hk.alloc _)
  have H5 := hide h5
  have hne : (((next.length : Nat) : Int) != ((acc.length : Nat) : Int)) = false := by rw [h5]; simp
  clear h5
  by_cases hpre : 0 ≤ T ∧ T ≤ 6 ∧ 1 ≤ acc.length ∧ acc.length ≤ 400
  · have HPRE := hide hpre
    obtain ⟨h1, h2, h3, h4⟩ := hpre
    obtain ⟨T, rfl⟩ := Int.eq_ofNat_of_zero_le h1
    have HD : Hid (AuOk ⟨(T : Int), acc, next⟩ ↔ ∀ l ∈ next, RowOk T acc.length l) := hide ⟨fun h => h.2, fun h => ⟨⟨HPRE.out.1, HPRE.out.2.1, HPRE.out.2.2.1, HPRE.out.2.2.2, H5.out⟩, h⟩⟩
    go_enter Try.func84, Try.ntmps84
    go_wp2_with fail
    have s1 : (w.alloc (.cells #[.int .i64 (T : Int), .slice aa acc.length ac, .slice na next.length nc] 25)).heap.size = w.heap.size + 1 := by simp
    have HT6 : Hid (T ≤ 6) := hide (by omega)
    generalize w.alloc (.cells #[.int .i64 (T : Int), .slice aa acc.length ac, .slice na next.length nc] 25) = w1 at c0 c1 c2 hk s1 ⊢
    have n1 := cell_new w1 #[.int .i64 (acc.length : Int)] 3 0
    have s2 : (w1.alloc (.cells #[.int .i64 (acc.length : Int)] 3)).heap.size = w.heap.size + 1 + 1 := by simp [s1]
    have d0 := cell_alloc c0 (.cells #[.int .i64 (acc.length : Int)] 3)
    have hk2 := hk.alloc (.cells #[.int .i64 (acc.length : Int)] 3)
    rw [s1] at n1
    generalize w1.alloc (.cells #[.int .i64 (acc.length : Int)] 3) = w2 at n1 s2 d0 hk2 ⊢
    have o1 := cell_new w2 #[.func (.func 95) #[] #[.pointer (some ⟨w.heap.size + 1, 0, none⟩)]] 71 0
    rw [s2] at o1
    have e0 := cell_alloc d0 (.cells #[.func (.func 95) #[] #[.pointer (some ⟨w.heap.size + 1, 0, none⟩)]] 71)
    have n2 := cell_alloc n1 (.cells #[.func (.func 95) #[] #[.pointer (some ⟨w.heap.size + 1, 0, none⟩)]] 71)
    have hk3 := hk2.alloc (.cells #[.func (.func 95) #[] #[.pointer (some ⟨w.heap.size + 1, 0, none⟩)]] 71)
    generalize w2.alloc (.cells #[.func (.func 95) #[] #[.pointer (some ⟨w.heap.size + 1, 0, none⟩)]] 71) = w3 at o1 e0 n2 hk3 ⊢
    clear c0 c1 c2 hk s1 n1 s2 d0 hk2
    have O1 := hide o1
    have E0 := hide e0
    have N2 := hide n2
    have HK := hide hk3
    clear o1 e0 n2 hk3
    refine containsFuncR (p := badRow T acc.length) callFunc_bad (HN.out.same HK.out) ?_ ?_
    · intro u l _ hu w' R hw' hR'
      exact isBad HT6.out (hu.same hw') (Keeps.cell hw' E0.out trivial) (Keeps.cell hw' N2.out trivial) (Keeps.cell hw' O1.out trivial) hR'
    rintro e w4 rfl k4
    have HB : Hid ((!(next.any (badRow T acc.length))) = decide (AuOk ⟨(T : Int), acc, next⟩)) := hide (by
      rw [Bool.eq_iff_iff, decide_eq_true_iff, HD.out, Bool.not_eq_true', List.any_eq_false]
      exact forall_congr' fun l => by unfold badRow; simp)
    go_wp2_with fail
    exact HR.out _ _ (ret_bool HB.out) (HK.out.tr k4)
  · have HNO : Hid (¬ AuOk ⟨T, acc, next⟩) := hide fun h => hpre ⟨h.1.1, h.1.2.1, h.1.2.2.1, h.1.2.2.2.1⟩
    go_enter Try.func84, Try.ntmps84
    go_wp2_with fail
    all_goals first
      | exact HR.out _ _ (ret_bool (by symm; rw [decide_eq_false_iff_not]; exact HNO.out)) (hk.alloc _)
      | (exfalso; omega)

end Go.Proofs.Ytohhjdadhdibfaa
