/- The walks of core.fields, core.is, core.Is at an atom. -/
import Derived.Test.YtgpgbkoaopfjkaaCore
import Derived.Test.YtgpgbkoaopfjkaaPkA
import Derived.Lib.SlicesS
namespace Go.Proofs.Ytgpgbkoaopfjkaa
open Go.RowKit

attribute [local irreducible] wpQuiet wpPlan wpPlanZ wpUp

variable {R : Ending → World → Prop} {w : World}

/-- What a variable may be. -/
def okVar (o : AOp) (n : Int) (j : Nat) (v : Int) : Prop := if j < o.vars then 0 ≤ v ∧ v < n else v = 0

/-- May an atom be? -/
def FieldsOk (o : AOp) (a b c N n : Int) (kn : Nat) : Prop := kn = 0 ∧ (o.isNum = true ∨ N = 0) ∧ 0 ≤ N ∧ N ≤ 20 ∧ okVar o n 0 a ∧ okVar o n 1 b ∧ okVar o n 2 c

theorem no_iff {P : Prop} (h : ¬ P) : false = true ↔ P := ⟨fun e => (by cases e), fun hp => absurd hp h⟩

theorem index3_0 (a b c : Int) (w : World) : (Instr.index 107 (.agg #[.int .i64 a, .int .i64 b, .int .i64 c]) (.int .i64 0)).run Try.prog w = .ok (.int .i64 a) w := by kernel_rfl
theorem index3_1 (a b c : Int) (w : World) : (Instr.index 107 (.agg #[.int .i64 a, .int .i64 b, .int .i64 c]) (.int .i64 1)).run Try.prog w = .ok (.int .i64 b) w := by kernel_rfl
theorem index3_2 (a b c : Int) (w : World) : (Instr.index 107 (.agg #[.int .i64 a, .int .i64 b, .int .i64 c]) (.int .i64 2)).run Try.prog w = .ok (.int .i64 c) w := by kernel_rfl

theorem shape_zero (w : World) : (zeroValue 103).run Try.prog w = .ok (.agg #[.int .i64 0, .bool false, .int .i64 0]) w := by kernel_rfl

theorem name_ex (o : AOp) : (o.name.toList == [101, 120]) = false := by
  rw [ByteArray.toList_eq]; cases o <;> rfl

theorem shapes_of2 (o : AOp) : @List.lookup ByteArray Value instBEqOfDecidableEq o.name shapesA = some (.agg #[.int .i64 (o.vars : Int), .bool o.isNum, .int .i64 0]) := by cases o <;> rfl

theorem vars_le (o : AOp) : o.vars ≤ 3 := by cases o <;> decide

theorem coreVars {op : ByteArray} {a b c n : Int} {ka : Option Addr} {kn kc : Nat} (hR : ∀ e w', e = .returned (.agg #[.int .i64 a, .int .i64 b, .int .i64 c]) → Same w w' → R e w') :
    Calls Try.prog 91 #[.agg #[.string op, .int .i64 a, .int .i64 b, .int .i64 c, .int .i64 n, .slice ka kn kc]] w R := by
  have HR := hide hR
  clear hR
  go_enter Try.func91, Try.ntmps91
  go_wp2_with fail
  exact bodyPost_ret (v := .agg #[.int .i64 a, .int .i64 b, .int .i64 c]) (by simp [results, Try.results91, go_sem]) rfl (HR.out _ _ rfl (((Keeps.refl _ w).alloc _).alloc _))

set_option maxRecDepth 10000 in
set_option maxHeartbeats 4000000 in
theorem coreFields {o : AOp} {a b c N n : Int} {ka : Option Addr} {kn kc : Nat} (hkc : kn ≤ kc ∧ kc ≤ maxLen) (hR : ∀ e w' r, e = .returned (.bool r) → (r = true ↔ FieldsOk o a b c N n kn) → Same w w' → R e w') :
    Calls Try.prog 74 #[.agg #[.string o.name, .int .i64 a, .int .i64 b, .int .i64 c, .int .i64 N, .slice ka kn kc], .int .i64 n] w R := by
  have HR := hide hR
  clear hR
  have HX := hide (name_ex o)
  have HLK := hide (shapes_of2 o)
  have hv3 := vars_le o
  obtain ⟨vs, hvs⟩ : ∃ vs, vs = o.vars := ⟨_, rfl⟩
  obtain ⟨nu, hnu⟩ : ∃ nu, nu = o.isNum := ⟨_, rfl⟩
  have HF : Hid (FieldsOk o a b c N n kn ↔ (kn = 0 ∧ (nu = true ∨ N = 0) ∧ 0 ≤ N ∧ N ≤ 20 ∧ (if 0 < vs then 0 ≤ a ∧ a < n else a = 0) ∧ (if 1 < vs then 0 ≤ b ∧ b < n else b = 0) ∧ (if 2 < vs then 0 ≤ c ∧ c < n else c = 0))) := hide (by
    rw [hvs, hnu]; exact Iff.rfl)
  rw [← hvs, ← hnu] at HLK
  rw [← hvs] at hv3
  generalize o.name = op at HX HLK ⊢
  generalize FieldsOk o a b c N n kn = FO at HF HR
  clear hvs hnu
  obtain ⟨hkc1, hkc2⟩ := hkc
  unfold maxLen at hkc2
  have hb := heap_new w (.cells #[.string op, .int .i64 a, .int .i64 b, .int .i64 c, .int .i64 N, .slice ka kn kc] 24)
  have hka : Same w (w.alloc (.cells #[.string op, .int .i64 a, .int .i64 b, .int .i64 c, .int .i64 N, .slice ka kn kc] 24)) := (Keeps.refl _ w).alloc _
  go_enter Try.func74, Try.ntmps74
  go_wp2_with fail
  have hxs : (w.alloc (.cells #[.string op, .int .i64 a, .int .i64 b, .int .i64 c, .int .i64 N, .slice ka kn kc] 24)).heap.size = w.heap.size + 1 := by simp
  generalize w.alloc (.cells #[.string op, .int .i64 a, .int .i64 b, .int .i64 c, .int .i64 N, .slice ka kn kc] 24) = wb at hb hka hxs ⊢
  have HKA := hide hka
  have HB := hide hb
  generalize hx : w.heap.size = x at hb hxs HB ⊢
  have HXS := hide hxs
  have HXX := hide hx
  clear hka hxs hx
  have c0 := cell_at hb 0
  simp only [List.getElem?_toArray, List.getElem?_cons_zero] at c0
  have kd : Same wb wb.drew := Keeps.drew (Keeps.refl (fun _ => True) wb)
  obtain ⟨S0, hS0⟩ : ∃ z, z = wb.heap.size := ⟨_, rfl⟩
  have HS0 := hide hS0
  clear hS0
  refine wp_region_plan (.take 1 (.take 2 (.two 0 7 (.take 3 (.take 4 (.take 5 (.take 6 (.one 7 (.one 8 (.take 9 .done))))))) (.one 0 (.take 3 (.take 4 (.take 5 (.take 6 (.one 8 (.take 9 .done)))))))))) (Same wb) (by kernel_rfl) (by kernel_rfl) kd ?_
  iterate 2
    (first
       | (apply pl_pass
          case ho => rfl
          case hw => rfl
          go_simp)
       | (apply pl_take
          case ho => rfl
          case hw => rfl
          case hv =>
            intro w' hS
            (have q0 := Keeps.cell hS c0 trivial)
            go_simp
            exact rfl
          go_simp))
  refine pl_two ?_ ?_
  focus
    (apply up_do
     case ho => rfl
     case hw => rfl
     intro K hK1
     go_simp
     refine coreShapes ?_; rintro e w1 m rfl hm k1
     refine hK1 (fun w' => Same wb w' ∧ MapAt Value.string w' m shapesA) _ _ ⟨kd.tr k1, hm⟩ (fun _ h => h.1) ?_
     clear hK1 K
     go_simp)
    iterate 4
      (first
         | (apply pl_pass
            case ho => rfl
            case hw => rfl
            go_simp)
         | (apply pl_take
            case ho => rfl
            case hw => rfl
            case hv =>
              intro w' hS
              (have l0 := run_lookup_at (P := Try.prog) (strKeys Try.underlying9) Try.underlying105 (shape_zero _) hS.2 op; rw [HLK.out] at l0; simp only [Option.getD_some, Option.isSome_some] at l0)
              go_simp
              exact rfl
            go_simp))
    refine pl_one (up_do rfl rfl fun K hK1 => ?_)
    go_simp
    refine hK1 (fun w' => Same wb w' ∧ MapAt Value.string w' m shapesA) _ _ ⟨(kd.tr k1).alloc _, hm.keep ((Keeps.refl (fun _ => True) _).alloc _) trivial⟩ (fun _ h => h) ?_
    clear hK1 K
    go_simp
    have hy := heap_new w1 (.cells #[.int .i64 0, .bool false, .int .i64 0] 103)
    have hmw := hm.keep ((Keeps.refl (fun _ => True) w1).alloc (.cells #[.int .i64 0, .bool false, .int .i64 0] 103)) trivial
    have hmy : m ≠ w1.heap.size := by obtain ⟨es, clk, h1, _⟩ := hm; exact Nat.ne_of_lt (heap_lt h1)
    have hk2 : Same wb (w1.alloc (.cells #[.int .i64 0, .bool false, .int .i64 0] 103)) := (kd.tr k1).alloc _
    have hyb : S0 ≤ w1.heap.size := by rw [HS0.out]; exact (kd.tr k1).size
    generalize w1.alloc (.cells #[.int .i64 0, .bool false, .int .i64 0] 103) = w2 at hy hmw hk2 ⊢
    generalize w1.heap.size = y at hy hmy hyb ⊢
  rotate_left
  focus
    (apply up_do
     case ho => rfl
     case hw => rfl
     intro K hK1
     go_simp
     refine hK1 (Same wb) _ _ (kd.alloc _) (fun _ h => h) ?_
     clear hK1 K
     go_simp)
    refine pl_one ?_
    (apply up_do
     case ho => rfl
     case hw => rfl
     intro K hK1
     go_simp
     refine coreShapes ?_; rintro e w2 m rfl hmw k1
     have ka : Same wb (wb.drew.alloc (.cells #[.int .i64 0, .bool false, .int .i64 0] 103)) := kd.alloc _
     refine hK1 (fun w' => Same wb w' ∧ MapAt Value.string w' m shapesA) _ _ ⟨ka.tr k1, hmw⟩ (fun _ h => h.1) ?_
     clear hK1 K
     go_simp)
    iterate 4
      (first
         | (apply pl_pass
            case ho => rfl
            case hw => rfl
            go_simp)
         | (apply pl_take
            case ho => rfl
            case hw => rfl
            case hv =>
              intro w' hS
              (have l0 := run_lookup_at (P := Try.prog) (strKeys Try.underlying9) Try.underlying105 (shape_zero _) hS.2 op; rw [HLK.out] at l0; simp only [Option.getD_some, Option.isSome_some] at l0)
              go_simp
              exact rfl
            go_simp))
    have hy := k1.at (heap_new wb.drew (.cells #[.int .i64 0, .bool false, .int .i64 0] 103)) trivial
    have hk2 : Same wb w2 := (kd.alloc (.cells #[.int .i64 0, .bool false, .int .i64 0] 103)).tr k1
    have hmy : m ≠ wb.heap.size := by
      rintro rfl
      obtain ⟨es, clk, h1, _⟩ := hmw
      rw [show w2.heap[wb.heap.size]? = _ from hy] at h1
      cases h1
    have hyb : S0 ≤ wb.heap.size := by rw [HS0.out]; exact Nat.le_refl _
    have hy : w2.heap[wb.heap.size]? = some (.cells #[.int .i64 0, .bool false, .int .i64 0] 103 (0, 0)) := hy
    generalize wb.heap.size = y at hy hmy hyb ⊢
  all_goals
    have y0 := cell_at hy 0
    have y1 := cell_at hy 1
    have y2 := cell_at hy 2
    have g0 := free_at hy 0
    have g1 := free_at hy 1
    have g2 := free_at hy 2
    simp only [List.getElem?_toArray, List.getElem?_cons_zero, List.getElem?_cons_succ] at y0 y1 y2
    have hn2 : ∀ (h : y < wb.heap.size ∧ True), False := fun h => absurd h.1 (Nat.not_lt.2 (by rw [← HS0.out]; exact hyb))
    have hk3 : Same wb (((w2.setCell ⟨y, 0, none⟩ (.int .i64 (vs : Int))).setCell ⟨y, 1, none⟩ (.bool nu)).setCell ⟨y, 2, none⟩ (.int .i64 0)) := ((hk2.setCell hn2 _).setCell hn2 _).setCell hn2 _
    have hj3 : Keeps (fun z => z ≠ y) w2 (((w2.setCell ⟨y, 0, none⟩ (.int .i64 (vs : Int))).setCell ⟨y, 1, none⟩ (.bool nu)).setCell ⟨y, 2, none⟩ (.int .i64 0)) := (((Keeps.refl (fun z => z ≠ y) w2).setCell (fun h => h.2 rfl) _).setCell (fun h => h.2 rfl) _).setCell (fun h => h.2 rfl) _
    have hy3 := heap_setCell_at (heap_setCell_at (heap_setCell_at hy 0 (.int .i64 (vs : Int))) 1 (.bool nu)) 2 (.int .i64 0)
    simp only [List.setIfInBounds_toArray, List.set_cons_zero, List.set_cons_succ] at hy3
    refine pl_one (up_do rfl rfl fun K hK1 => ?_)
    go_simp
    refine hK1 (fun w' => Same wb w' ∧ MapAt Value.string w' m shapesA) _ _ ⟨hk3, hmw.keep hj3 hmy⟩ (fun _ h => h) ?_
    clear hK1 K hj3 hmw hmy hn2 y0 y1 y2 g0 g1 g2
    go_simp
    generalize ((w2.setCell ⟨y, 0, none⟩ (.int .i64 (vs : Int))).setCell ⟨y, 1, none⟩ (.bool nu)).setCell ⟨y, 2, none⟩ (.int .i64 0) = w5 at hk3 hy3 ⊢
    iterate 1
      (first
         | (apply pl_pass
            case ho => rfl
            case hw => rfl
            go_simp)
         | (apply pl_take
            case ho => rfl
            case hw => rfl
            case hv =>
              intro w' hS
              (skip)
              go_simp
              exact rfl
            go_simp))
    apply pl_done
    go_simp
    have HK5 := hide (HKA.out.tr hk3)
    have hb5 := hk3.at HB.out trivial
    have p0 := cell_at hy3 0; have p1 := cell_at hy3 1; have p2 := cell_at hy3 2
    have q0 := cell_at hb5 0; have q1 := cell_at hb5 1; have q2 := cell_at hb5 2; have q3 := cell_at hb5 3; have q4 := cell_at hb5 4; have q5 := cell_at hb5 5
    simp only [List.getElem?_toArray, List.getElem?_cons_zero, List.getElem?_cons_succ] at p0 p1 p2 q0 q1 q2 q3 q4 q5
    have BB := hide hb5
    have YY := hide hy3
    clear hk3 hb5 hy3 hy hk2 hyb c0 hb
    have HXN := HX.out
    by_cases hk0 : kn = 0
    · subst hk0
      by_cases hN : (nu = true ∨ N = 0) ∧ 0 ≤ N ∧ N ≤ 20
      · have HN := hide hN
        obtain ⟨hn0, hn1, hn2⟩ := hN
        have hnn : (nu = true ∨ (nu = false ∧ N = 0)) := by
          rcases hn0 with h | h
          · exact .inl h
          · cases nu
            · exact .inr ⟨rfl, h⟩
            · exact .inl rfl
        clear hn0
        rcases hnn with rfl | ⟨rfl, rfl⟩
        all_goals
          go_wp2_with fail
          refine coreVars ?_; rintro e w6 rfl k6
          have HK6 := hide (HK5.out.tr k6)
          have BB6 := hide (k6.at BB.out trivial)
          have YY6 := hide (k6.at YY.out trivial)
          clear p0 p1 p2 q0 q1 q2 q3 q4 q5 k6
          go_wp2_with fail
          go_loopw [7, 8, 48] (fun _ _ i wr => ∃ k : Nat, i = .int .i64 k ∧ k ≤ 3 ∧ Hid ((0 < k → if 0 < vs then 0 ≤ a ∧ a < n else a = 0) ∧ (1 < k → if 1 < vs then 0 ≤ b ∧ b < n else b = 0) ∧ (2 < k → if 2 < vs then 0 ≤ c ∧ c < n else c = 0)) ∧ Same w6 wr) (fun _ _ i _ => 3 - (intOf i).toNat)
          case atStart => exact ⟨0, rfl, by omega, hide ⟨by omega, by omega, by omega⟩, Keeps.refl _ _⟩
          case round =>
            obtain ⟨k, rfl, hk, hall, hK⟩ := hrel
            have hb5 := hK.at BB6.out trivial
            have hy3 := hK.at YY6.out trivial
            have p0 := cell_at hy3 0
            have q0 := cell_at hb5 0
            simp only [List.getElem?_toArray, List.getElem?_cons_zero] at p0 q0
            have HKR := hide (HK6.out.tr hK)
            have HKL := hide hK
            clear hb5 hy3 hK
            have hi0 := index3_0 a b c
            have hi1 := index3_1 a b c
            have hi2 := index3_2 a b c
            rcases (show k = 0 ∨ k = 1 ∨ k = 2 ∨ k = 3 by omega) with rfl | rfl | rfl | rfl
            · by_cases hv : 0 < vs
              · by_cases h1 : a < 0
                · have HNF := hide (no_iff (P := FO) fun h => by rw [HF.out] at h; have := h.2.2.2.2.1; rw [if_pos hv] at this; omega)
                  go_wp2_with fail
                  all_goals exact HR.out _ _ false rfl HNF.out HKR.out
                · by_cases h2 : n ≤ a
                  · have HNF := hide (no_iff (P := FO) fun h => by rw [HF.out] at h; have := h.2.2.2.2.1; rw [if_pos hv] at this; omega)
                    go_wp2_with fail
                    all_goals exact HR.out _ _ false rfl HNF.out HKR.out
                  · have HALL : Hid ((0 < 1 → if 0 < vs then 0 ≤ a ∧ a < n else a = 0) ∧ (1 < 1 → if 1 < vs then 0 ≤ b ∧ b < n else b = 0) ∧ (2 < 1 → if 2 < vs then 0 ≤ c ∧ c < n else c = 0)) := hide ⟨fun _ => by rw [if_pos hv]; omega, fun h => by omega, fun h => by omega⟩
                    go_wp2_with fail
                    go_roundw
                    case rel => exact ⟨1, by go_num, by omega, HALL, HKL.out⟩
                    case measure => simp [intOf]
              · obtain rfl : vs = 0 := by omega
                by_cases h1 : a = 0
                · have HALL : Hid ((0 < 1 → if 0 < 0 then 0 ≤ a ∧ a < n else a = 0) ∧ (1 < 1 → if 1 < 0 then 0 ≤ b ∧ b < n else b = 0) ∧ (2 < 1 → if 2 < 0 then 0 ≤ c ∧ c < n else c = 0)) := hide ⟨fun _ => by rw [if_neg hv]; exact h1, fun h => by omega, fun h => by omega⟩
                  have hz : (a != 0) = false := by rw [h1]; rfl
                  clear h1
                  go_wp2_with fail
                  go_roundw
                  case rel => exact ⟨1, by go_num, by omega, HALL, HKL.out⟩
                  case measure => simp [intOf]
                · have HNF := hide (no_iff (P := FO) fun h => by rw [HF.out] at h; have := h.2.2.2.2.1; rw [if_neg hv] at this; exact h1 this)
                  have hz : (a != 0) = true := by rw [bne_iff_ne]; exact h1
                  go_wp2_with fail
                  all_goals exact HR.out _ _ false rfl HNF.out HKR.out
            · by_cases hv : 1 < vs
              · by_cases h1 : b < 0
                · have HNF := hide (no_iff (P := FO) fun h => by rw [HF.out] at h; have := h.2.2.2.2.2.1; rw [if_pos hv] at this; omega)
                  go_wp2_with fail
                  all_goals exact HR.out _ _ false rfl HNF.out HKR.out
                · by_cases h2 : n ≤ b
                  · have HNF := hide (no_iff (P := FO) fun h => by rw [HF.out] at h; have := h.2.2.2.2.2.1; rw [if_pos hv] at this; omega)
                    go_wp2_with fail
                    all_goals exact HR.out _ _ false rfl HNF.out HKR.out
                  · have HALL : Hid ((0 < 2 → if 0 < vs then 0 ≤ a ∧ a < n else a = 0) ∧ (1 < 2 → if 1 < vs then 0 ≤ b ∧ b < n else b = 0) ∧ (2 < 2 → if 2 < vs then 0 ≤ c ∧ c < n else c = 0)) := hide ⟨fun _ => hall.out.1 (by omega), fun _ => by rw [if_pos hv]; omega, fun h => by omega⟩
                    go_wp2_with fail
                    go_roundw
                    case rel => exact ⟨2, by go_num, by omega, HALL, HKL.out⟩
                    case measure => simp [intOf]
              · by_cases h1 : b = 0
                · have HALL : Hid ((0 < 2 → if 0 < vs then 0 ≤ a ∧ a < n else a = 0) ∧ (1 < 2 → if 1 < vs then 0 ≤ b ∧ b < n else b = 0) ∧ (2 < 2 → if 2 < vs then 0 ≤ c ∧ c < n else c = 0)) := hide ⟨fun _ => hall.out.1 (by omega), fun _ => by rw [if_neg hv]; exact h1, fun h => by omega⟩
                  have hz : (b != 0) = false := by rw [h1]; rfl
                  clear h1
                  go_wp2_with fail
                  go_roundw
                  case rel => exact ⟨2, by go_num, by omega, HALL, HKL.out⟩
                  case measure => simp [intOf]
                · have HNF := hide (no_iff (P := FO) fun h => by rw [HF.out] at h; have := h.2.2.2.2.2.1; rw [if_neg hv] at this; exact h1 this)
                  have hz : (b != 0) = true := by rw [bne_iff_ne]; exact h1
                  go_wp2_with fail
                  all_goals exact HR.out _ _ false rfl HNF.out HKR.out
            · by_cases hv : 2 < vs
              · by_cases h1 : c < 0
                · have HNF := hide (no_iff (P := FO) fun h => by rw [HF.out] at h; have := h.2.2.2.2.2.2; rw [if_pos hv] at this; omega)
                  go_wp2_with fail
                  all_goals exact HR.out _ _ false rfl HNF.out HKR.out
                · by_cases h2 : n ≤ c
                  · have HNF := hide (no_iff (P := FO) fun h => by rw [HF.out] at h; have := h.2.2.2.2.2.2; rw [if_pos hv] at this; omega)
                    go_wp2_with fail
                    all_goals exact HR.out _ _ false rfl HNF.out HKR.out
                  · have HALL : Hid ((0 < 3 → if 0 < vs then 0 ≤ a ∧ a < n else a = 0) ∧ (1 < 3 → if 1 < vs then 0 ≤ b ∧ b < n else b = 0) ∧ (2 < 3 → if 2 < vs then 0 ≤ c ∧ c < n else c = 0)) := hide ⟨fun _ => hall.out.1 (by omega), fun _ => hall.out.2.1 (by omega), fun _ => by rw [if_pos hv]; omega⟩
                    go_wp2_with fail
                    go_roundw
                    case rel => exact ⟨3, by go_num, by omega, HALL, HKL.out⟩
                    case measure => simp [intOf]
              · by_cases h1 : c = 0
                · have HALL : Hid ((0 < 3 → if 0 < vs then 0 ≤ a ∧ a < n else a = 0) ∧ (1 < 3 → if 1 < vs then 0 ≤ b ∧ b < n else b = 0) ∧ (2 < 3 → if 2 < vs then 0 ≤ c ∧ c < n else c = 0)) := hide ⟨fun _ => hall.out.1 (by omega), fun _ => hall.out.2.1 (by omega), fun _ => by rw [if_neg hv]; exact h1⟩
                  have hz : (c != 0) = false := by rw [h1]; rfl
                  clear h1
                  go_wp2_with fail
                  go_roundw
                  case rel => exact ⟨3, by go_num, by omega, HALL, HKL.out⟩
                  case measure => simp [intOf]
                · have HNF := hide (no_iff (P := FO) fun h => by rw [HF.out] at h; have := h.2.2.2.2.2.2; rw [if_neg hv] at this; exact h1 this)
                  have hz : (c != 0) = true := by rw [bne_iff_ne]; exact h1
                  go_wp2_with fail
                  all_goals exact HR.out _ _ false rfl HNF.out HKR.out
            · have HYF : Hid FO := hide (HF.out.2 ⟨by simp, HN.out.1, HN.out.2.1, HN.out.2.2, hall.out.1 (by omega), hall.out.2.1 (by omega), hall.out.2.2 (by omega)⟩)
              go_wp2_with fail
              all_goals exact HR.out _ _ true rfl ⟨fun _ => HYF.out, fun _ => rfl⟩ HKR.out
      · have HNF := hide (no_iff (P := FO) fun h => by rw [HF.out] at h; exact hN ⟨h.2.1, h.2.2.1, h.2.2.2.1⟩)
        clear HF
        rcases (show N < 0 ∨ 20 < N ∨ (nu = false ∧ N ≠ 0) by
          by_cases h1 : N < 0
          · exact .inl h1
          by_cases h2 : 20 < N
          · exact .inr (.inl h2)
          refine .inr (.inr ?_)
          cases nu with
          | true => exact absurd ⟨.inl rfl, by omega, by omega⟩ hN
          | false => exact ⟨rfl, fun h => hN ⟨.inr h, by omega, by omega⟩⟩) with h | h | ⟨rfl, h⟩
        · cases nu <;>
          · go_wp2_with fail
            all_goals exact HR.out _ _ false rfl HNF.out HK5.out
        · cases nu <;>
          · go_wp2_with fail
            all_goals exact HR.out _ _ false rfl HNF.out HK5.out
        · have hne : (N != 0) = true := by rw [bne_iff_ne]; exact h
          go_wp2_with fail
          all_goals exact HR.out _ _ false rfl HNF.out HK5.out
    · have HNF := hide (no_iff (P := FO) fun h => by rw [HF.out] at h; exact hk0 h.1)
      have hkn : ((kn : Int) != 0) = true := by rw [bne_iff_ne]; omega
      go_wp2_with fail
      exact HR.out _ _ false rfl HNF.out HK5.out

end Go.Proofs.Ytgpgbkoaopfjkaa
