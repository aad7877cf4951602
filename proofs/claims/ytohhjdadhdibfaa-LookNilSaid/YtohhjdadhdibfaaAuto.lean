/- Automata as data; the walk of sibylref19.Is. -/
import Derived.Test.YtohhjdadhdibfaaBools
import Derived.Test.YtohhjdadhdibfaaLawOf
namespace Go.Proofs.Ytohhjdadhdibfaa
open Go.RowKit

/-- An automaton as data. -/
structure Au where
  T : Int
  acc : List Bool
  next : List (List Int)

/-- The value v reads as the automaton A. -/
def AutoAt (w : World) (v : Value) (A : Au) : Prop := ∃ va vn, v = .agg #[.int .i64 A.T, va, vn] ∧ BoolsAt w va A.acc ∧ RowsAt w vn A.next ∧ InI64 A.T

theorem AutoAt.same {w w' : World} {v : Value} {A : Au} (h : AutoAt w v A) (k : Same w w') : AutoAt w' v A := by
  obtain ⟨va, vn, e, h1, h2, h3⟩ := h
  exact ⟨va, vn, e, h1.same k, h2.same k, h3⟩

theorem AutoAt.old {w w' : World} {v : Value} {A : Au} (h : AutoAt w v A) (k : Keeps (· < w.heap.size) w w') : AutoAt w' v A := by
  obtain ⟨va, vn, e, h1, h2, h3⟩ := h
  exact ⟨va, vn, e, h1.old k, h2.old k, h3⟩

/-- A state's row may be. -/
def RowOk (T n : Nat) (l : List Int) : Prop := l.length = 2 ^ T ∧ ∀ x ∈ l, 0 ≤ x ∧ x < (n : Int)

instance (T n : Nat) (l : List Int) : Decidable (RowOk T n l) := by unfold RowOk; infer_instance

/-- An automaton that may be. -/
def AuOk (A : Au) : Prop := (0 ≤ A.T ∧ A.T ≤ 6 ∧ 1 ≤ A.acc.length ∧ A.acc.length ≤ 400 ∧ A.next.length = A.acc.length) ∧ ∀ l ∈ A.next, RowOk A.T.toNat A.acc.length l

instance (A : Au) : Decidable (AuOk A) := by unfold AuOk; infer_instance

variable {R : Ending → World → Prop} {w : World}

theorem bad_row {T n : Nat} {ls : List (List Int)} {k : Nat} (hk : k < ls.length) (h : ¬ RowOk T n ls[k]) : ¬ ∀ l ∈ ls, RowOk T n l := fun hh => h (hh _ (List.getElem_mem hk))

set_option maxHeartbeats 2000000 in
theorem refIs {v : Value} {A : Au} (hv : AutoAt w v A) (hR : ∀ e w', e = .returned (.bool (decide (AuOk A))) → Same w w' → R e w') :
    Calls Try.prog 57 #[v] w R := by
  have HR := hide hR
  clear hR
  obtain ⟨T, acc, next⟩ := A
  obtain ⟨va, vn, rfl, hacc, hnext, hT⟩ := hv
  simp only at hacc hnext hT
  obtain ⟨aa, ac, rfl, hc1, hc2, _⟩ := hacc.open
  obtain ⟨na, nc, rfl, hd1, hd2, hncell⟩ := hnext.open
  have HN := hide hncell
  unfold maxLen at hc2 hd2
  unfold InI64 at hT
  have hbox := heap_new w (.cells #[.int .i64 T, .slice aa acc.length ac, .slice na next.length nc] 25)
  have c0 := cell_at hbox 0
  have c1 := cell_at hbox 1
  have c2 := cell_at hbox 2
  simp only [List.getElem?_toArray, List.getElem?_cons_zero, List.getElem?_cons_succ] at c0 c1 c2
  have hk : Same w (w.alloc (.cells #[.int .i64 T, .slice aa acc.length ac, .slice na next.length nc] 25)) := (Keeps.refl _ w).alloc _
  clear hncell hacc hnext hbox
  by_cases h5 : next.length = acc.length
  case neg =>
    have hne : (((next.length : Nat) : Int) != ((acc.length : Nat) : Int)) = true := by rw [bne_iff_ne]; omega
    have HNO := hide h5
    clear h5
    go_enter Try.func57, Try.ntmps57
    go_wp2_with fail
    all_goals exact HR.out _ _ (ret_bool (by symm; rw [decide_eq_false_iff_not]; exact fun h => HNO.out h.1.2.2.2.2)) hk
  have H5 := hide h5
  have hne : (((next.length : Nat) : Int) != ((acc.length : Nat) : Int)) = false := by rw [h5]; simp
  clear h5
  by_cases hpre : 0 ≤ T ∧ T ≤ 6 ∧ 1 ≤ acc.length ∧ acc.length ≤ 400
  · have HPRE := hide hpre
    obtain ⟨h1, h2, h3, h4⟩ := hpre
    obtain ⟨T, rfl⟩ := Int.eq_ofNat_of_zero_le h1
    have hw2 := wrap_two (show T ≤ 6 by omega)
    have HD : Hid (AuOk ⟨(T : Int), acc, next⟩ ↔ ∀ l ∈ next, RowOk T acc.length l) := hide ⟨fun h => h.2, fun h => ⟨⟨HPRE.out.1, HPRE.out.2.1, HPRE.out.2.2.1, HPRE.out.2.2.2, H5.out⟩, h⟩⟩
    have HROW : Hid (∀ l, RowOk T acc.length l ↔ l.length = 2 ^ T ∧ ∀ x ∈ l, 0 ≤ x ∧ x < (acc.length : Int)) := hide fun l => Iff.rfl
    generalize hpp : 2 ^ T = p at hw2 HROW
    clear hpp
    go_enter Try.func57, Try.ntmps57
    go_wp2_with fail
    clear hne
    generalize w.alloc (.cells #[.int .i64 (T : Int), .slice aa acc.length ac, .slice na next.length nc] 25) = w1 at c0 c1 c2 hk ⊢
    have C0 := hide c0
    have C1 := hide c1
    have C2 := hide c2
    have HK := hide hk
    clear c0 c1 c2 hk
    go_loopw [3] (fun i wr => ∃ k : Nat, i = .int .i64 k ∧ k ≤ next.length ∧ Hid (∀ l ∈ next.take k, RowOk T acc.length l) ∧ Same w1 wr) (fun i _ => next.length - (intOf i).toNat)
    case atStart => exact ⟨0, rfl, Nat.zero_le _, hide (by simp), Keeps.refl _ _⟩
    case round =>
      obtain ⟨k, rfl, hk, hall, hK⟩ := hrel
      have q0 := Keeps.cell hK C0.out trivial
      have q1 := Keeps.cell hK C1.out trivial
      have q2 := Keeps.cell hK C2.out trivial
      by_cases hlt : k < next.length
      · obtain ⟨bl, off, rfl, hbl, hcl⟩ := HN.out k hlt
        obtain ⟨u, hu, hiu⟩ := hcl k hlt
        obtain ⟨ua, uc, rfl, hd1, hd2, hdell⟩ := hiu.open
        have hck := Keeps.cell (HK.out.tr hK) hu trivial
        have HU := hide (Keeps.cell HK.out hu trivial)
        have HBAD := hide (fun h => bad_row (T := T) (n := acc.length) hlt h)
        have hrow : next.take (k + 1) = next.take k ++ [next[k]] := List.take_succ_eq_append_getElem hlt
        generalize next[k] = row at hrow hd1 hdell hck HBAD HU
        have HROWK := hide hrow
        have HDL := hide hdell
        unfold maxLen at hd2
        clear hcl hiu hrow hu hdell
        by_cases hlen : row.length = p
        · have hne2 : (((row.length : Nat) : Int) != ((p : Nat) : Int)) = false := by rw [hlen]; simp
          have HLEN := hide hlen
          clear hlen
          go_wp2_with fail
          go_quiet (fail)
          go_wp2_with fail
          clear hne2
          rw [hw2]
          go_loopw [4] (fun i wr => ∃ m : Nat, i = .int .i64 m ∧ m ≤ row.length ∧ Hid (∀ x ∈ row.take m, 0 ≤ x ∧ x < (acc.length : Int)) ∧ Same w1 wr) (fun i _ => row.length - (intOf i).toNat)
          case atStart => exact ⟨0, rfl, Nat.zero_le _, hide (by simp), hK.drewN _⟩
          case round =>
            clear q0 q1 q2 hck hK
            obtain ⟨m, rfl, hm, hall2, hK⟩ := hrel
            have q0 := Keeps.cell hK C0.out trivial
            have q1 := Keeps.cell hK C1.out trivial
            have q2 := Keeps.cell hK C2.out trivial
            have hck := Keeps.cell hK HU.out trivial
            by_cases hlt2 : m < row.length
            · obtain ⟨rl, roff, rfl, hrl, hdl⟩ := HDL.out m hlt2
              have hdk := Keeps.cell (HK.out.tr hK) (hdl m hlt2) trivial
              have hT := List.take_succ_eq_append_getElem hlt2
              have HMEM := hide (List.getElem_mem hlt2)
              generalize row[m] = x at hdk hT HMEM
              have HT := hide hT
              clear hdl hT
              by_cases hx : 0 ≤ x ∧ x < (acc.length : Int)
              · have HX := hide hx
                obtain ⟨hx0, hx1⟩ := hx
                go_wp2_with fail
                go_quiet (fail)
                go_wp2_with fail
                go_roundw
                case rel =>
                  refine ⟨m + 1, by go_num, by omega, hide (fun y hy => ?_), hK.drewN _⟩
                  rw [HT.out] at hy
                  rcases List.mem_append.1 hy with hy | hy
                  · exact hall2.out y hy
                  · simp at hy; subst hy; exact HX.out
                case measure => simp [intOf]; omega
              · have HR2 := hide (show ¬ AuOk ⟨(T : Int), acc, next⟩ from fun h => HBAD.out (fun h2 => hx (h2.2 _ HMEM.out)) (HD.out.1 h))
                by_cases hx0 : x < 0
                · go_wp2_with fail
                  go_quiet (fail)
                  go_wp2_with fail
                  exact HR.out _ _ (ret_bool (by symm; rw [decide_eq_false_iff_not]; exact HR2.out)) ((HK.out.tr hK).drewN _)
                · have hx1 : (acc.length : Int) ≤ x := by omega
                  go_wp2_with fail
                  go_quiet (fail)
                  go_wp2_with fail
                  exact HR.out _ _ (ret_bool (by symm; rw [decide_eq_false_iff_not]; exact HR2.out)) ((HK.out.tr hK).drewN _)
            · obtain rfl : m = row.length := by omega
              have HR1 : Hid (RowOk T acc.length row) := hide ((HROW.out row).2 ⟨HLEN.out, by have := hall2.out; rwa [List.take_length] at this⟩)
              go_wp2_with fail
              go_roundw
              case rel =>
                refine ⟨k + 1, by go_num, by omega, hide (fun y hy => ?_), hK⟩
                rw [HROWK.out] at hy
                rcases List.mem_append.1 hy with hy | hy
                · exact hall.out y hy
                · simp at hy; subst hy; exact HR1.out
              case measure => simp [intOf]; omega
        · have hne2 : (((row.length : Nat) : Int) != ((p : Nat) : Int)) = true := by rw [bne_iff_ne]; omega
          have HR2 := hide (show ¬ AuOk ⟨(T : Int), acc, next⟩ from fun h => HBAD.out (fun h2 => hlen ((HROW.out row).1 h2).1) (HD.out.1 h))
          clear hlen
          go_wp2_with fail
          go_quiet (fail)
          go_wp2_with fail
          exact HR.out _ _ (ret_bool (by symm; rw [decide_eq_false_iff_not]; exact HR2.out)) ((HK.out.tr hK).drewN _)
      · obtain rfl : k = next.length := by omega
        go_wp2_with fail
        refine HR.out _ _ (ret_bool ?_) (HK.out.tr hK)
        symm
        rw [decide_eq_true_iff, HD.out]
        have := hall.out
        rwa [List.take_length] at this
  · have HNO : Hid (¬ AuOk ⟨T, acc, next⟩) := hide fun h => hpre ⟨h.1.1, h.1.2.1, h.1.2.2.1, h.1.2.2.2.1⟩
    go_enter Try.func57, Try.ntmps57
    go_wp2_with fail
    all_goals first
      | exact HR.out _ _ (ret_bool (by symm; rw [decide_eq_false_iff_not]; exact HNO.out)) hk
      | (exfalso; omega)

end Go.Proofs.Ytohhjdadhdibfaa
