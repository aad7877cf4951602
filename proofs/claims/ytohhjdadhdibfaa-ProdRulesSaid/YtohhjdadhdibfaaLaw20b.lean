/- The walks of ProdNone, ProdWords. -/
import Derived.Test.YtohhjdadhdibfaaLaw20
namespace Go.Proofs.Ytohhjdadhdibfaa
open Go.RowKit

attribute [local irreducible] wpQuiet wpPlan wpPlanZ wpUp

variable {R : Ending → World → Prop} {w : World} {A B : Au}

theorem step_nx (h : AuOk A) {s c : Nat} (hs : s < A.acc.length) (hc : c < 2 ^ A.T.toNat) : stepA A (s : Int) (c : Int) = ((nx A s c : Nat) : Int) := by
  have hin : inA A (s : Int) = true := by unfold inA; simp; exact hs
  unfold stepA
  rw [if_pos ⟨hin, by omega, by exact_mod_cast hc⟩, Int.toNat_natCast, Int.toNat_natCast]
  have hn : s < A.next.length := by rw [h.1.2.2.2.2]; exact hs
  obtain ⟨hl, hv⟩ : ∃ hl : c < (A.next[s]).length, (A.next[s])[c] = ((nx A s c : Nat) : Int) := rowN_row h hn c hc
  rw [show A.next.getD s [] = A.next[s] by simp [List.getD, List.getElem?_eq_getElem hn], show (A.next[s]).getD c 0 = (A.next[s])[c] by simp [List.getD, List.getElem?_eq_getElem hl], hv]

theorem runA_nat (h : AuOk A) (l : List Int) (hl : ∀ c ∈ l, 0 ≤ c ∧ c < ((2 ^ A.T.toNat : Nat) : Int)) : runA A l = ((runN A 0 (l.map Int.toNat) : Nat) : Int) := by
  have h0 : 0 < A.acc.length := by have := h.1.2.2.1; omega
  induction l using snoc_ind with
  | h0 => rfl
  | h1 l x ih =>
    have hx := hl x (by simp)
    have ih := ih fun c hc => hl c (by simp [hc])
    obtain ⟨x, rfl⟩ := Int.eq_ofNat_of_zero_le hx.1
    have hx2 : x < 2 ^ A.T.toNat := by exact_mod_cast hx.2
    have e1 : runA A (l ++ [(x : Int)]) = stepA A (runA A l) x := by simp [runA, List.foldl_append]
    rw [e1, ih, step_nx h (runN_lt h _ h0) hx2]
    simp [runN, List.map_append, List.foldl_append]

theorem accA_nat {s : Nat} (hs : s < A.acc.length) : accA A (s : Int) = ac A s := by
  unfold accA ac inA
  simp only [Int.toNat_natCast]
  rw [show (decide ((0 : Int) ≤ (s : Int)) && decide ((s : Int) < (A.acc.length : Int))) = true by simp; exact hs]
  rfl

/-- Of any word it tells what the table says. -/
theorem prod_words (hA : AuOk A) (hB : AuOk B) (hT : A.T = B.T) (t : Nat) (hP : AuOk (prodAu A B t)) {l : List Int} (hl : ∀ c ∈ l, 0 ≤ c ∧ c < ((2 ^ A.T.toNat : Nat) : Int)) :
    accA (prodAu A B t) (runA (prodAu A B t) l) = tabBit t (accA A (runA A l)) (accA B (runA B l)) := by
  have hl2 : ∀ c ∈ l.map Int.toNat, c < 2 ^ A.T.toNat := fun c hc => by
    obtain ⟨x, hx, rfl⟩ := List.mem_map.1 hc
    have := hl x hx
    omega
  have z : ∀ {C : Au}, AuOk C → runN C 0 (l.map Int.toNat) < C.acc.length := fun h => runN_lt h _ (by have := h.1.2.2.1; omega)
  rw [runA_nat hP l hl, runA_nat hA l hl, runA_nat hB l (by rw [← hT]; exact hl), accA_nat (z hP), accA_nat (z hA), accA_nat (z hB)]
  exact prod_run0 hA hB t hl2

set_option maxRecDepth 10000 in
set_option maxHeartbeats 2000000 in
theorem prodNoneWalk (va : Value) (A : Au) (vb : Value) (B : Au) (t : Int) (w : World) (hA : AutoAt w va A) (hB : AutoAt w vb B) (ht : InI64 t) :
    Calls Try.prog 4 #[va, vb, .int .i64 t] w fun e w' => e = .returned (.bool true) ∧ Below w.heap.size w w' := by
  refine law_of fun R HR => ?_
  have HA := hide hA
  have HB := hide hB
  obtain ⟨xa, xn, rfl, hacc, hnext, _⟩ := hA
  obtain ⟨aa, ac, rfl, _⟩ := hacc.open
  obtain ⟨na, nc, rfl, _⟩ := hnext.open
  obtain ⟨ya, yn, rfl, hacc2, hnext2, _⟩ := hB
  obtain ⟨ba, bc, rfl, _⟩ := hacc2.open
  obtain ⟨ma, mc, rfl, _⟩ := hnext2.open
  have hA1 := heap_new w (.cells #[.int .i64 A.T, .slice aa A.acc.length ac, .slice na A.next.length nc] 25)
  have eA : (w.alloc (.cells #[.int .i64 A.T, .slice aa A.acc.length ac, .slice na A.next.length nc] 25)).heap.size = w.heap.size + 1 := by simp
  have kA : Same w (w.alloc (.cells #[.int .i64 A.T, .slice aa A.acc.length ac, .slice na A.next.length nc] 25)) := (Keeps.refl _ w).alloc _
  have hB1 := heap_new (w.alloc (.cells #[.int .i64 A.T, .slice aa A.acc.length ac, .slice na A.next.length nc] 25)) (.cells #[.int .i64 B.T, .slice ba B.acc.length bc, .slice ma B.next.length mc] 25)
  have kB : Same (w.alloc (.cells #[.int .i64 A.T, .slice aa A.acc.length ac, .slice na A.next.length nc] 25)) ((w.alloc (.cells #[.int .i64 A.T, .slice aa A.acc.length ac, .slice na A.next.length nc] 25)).alloc (.cells #[.int .i64 B.T, .slice ba B.acc.length bc, .slice ma B.next.length mc] 25)) := (Keeps.refl _ _).alloc _
  rw [eA] at hB1
  have hA2 := kB.at hA1 trivial
  have hkw := kA.tr kB
  unfold InI64 at ht
  skip
  go_enter Try.func4, Try.ntmps4
  go_wp2_with fail
  generalize (w.alloc (.cells #[.int .i64 A.T, .slice aa A.acc.length ac, .slice na A.next.length nc] 25)).alloc (.cells #[.int .i64 B.T, .slice ba B.acc.length bc, .slice ma B.next.length mc] 25) = wb at hA2 hB1 hkw ⊢
  have BXA := hide hA2
  have BXB := hide hB1
  have HKB := hide hkw
  clear hA1 eA kA hB1 kB hA2 hkw hacc hnext hacc2 hnext2
  refine may20 (HA.out.same HKB.out) ?_; rintro e w1 rfl k1
  cases hmA : mayB A with
  | false =>
    go_wp2_with fail
    exact HR.out _ _ rfl ((HKB.out.tr k1).mono fun _ _ _ => trivial)
  | true =>
  have HMA := hide hmA
  clear hmA
  have a1 := k1.at BXA.out trivial
  have c1 := k1.at BXB.out trivial
  have p0 := cell_at c1 0
  have p1 := cell_at c1 1
  have p2 := cell_at c1 2
  simp only [List.getElem?_toArray, List.getElem?_cons_zero, List.getElem?_cons_succ] at p0 p1 p2
  have BXA1 := hide a1
  have BXB1 := hide c1
  have HK1 := hide (HKB.out.tr k1)
  clear a1 c1 k1
  go_wp2_with fail
  refine may20 (HB.out.same HK1.out) ?_; rintro e w2 rfl k2
  cases hmB : mayB B with
  | false =>
    go_wp2_with fail
    exact HR.out _ _ rfl ((HK1.out.tr k2).mono fun _ _ _ => trivial)
  | true =>
  have HMB := hide hmB
  have HOKA := hide (mayB_ok HMA.out).2.2
  have HOKB := hide (mayB_ok hmB).2.2
  have a2 := k2.at BXA1.out trivial
  have c2 := k2.at BXB1.out trivial
  have BXA2 := hide a2
  have BXB2 := hide c2
  have HK2 := hide (HK1.out.tr k2)
  have q0 := cell_at a2 0
  have q1 := cell_at a2 1
  have q2 := cell_at a2 2
  have r0 := cell_at c2 0
  have r1 := cell_at c2 1
  have r2 := cell_at c2 2
  simp only [List.getElem?_toArray, List.getElem?_cons_zero, List.getElem?_cons_succ] at q0 q1 q2 r0 r1 r2
  clear hmB a2 c2 k2 p0 p1 p2
  go_wp2_with fail
  refine of20 (HA.out.same HK2.out) HOKA.out ?_; rintro e w3 d3 rfl dd3 k3
  have HK3 := hide (HK2.out.tr k3)
  have BXA3 := hide (k3.at BXA2.out trivial)
  have BXB3 := hide (k3.at BXB2.out trivial)
  clear k3 dd3 q0 q1 q2 r0 r1 r2
  go_wp2_with fail
  refine meterNew 9 ?_; rintro e w4 rfl m4 k4
  go_wp2_with fail
  refine prodBothNil _ _ _ _ (.inl rfl) ⟨_, rfl⟩ ⟨_, rfl⟩ ?_; rintro e rfl
  have a4 := k4.at BXA3.out trivial
  have HK4 := hide (HK3.out.tr k4)
  have BXA4 := hide a4
  have BXB4 := hide (k4.at BXB3.out trivial)
  have q0 := cell_at a4 0
  have q1 := cell_at a4 1
  have q2 := cell_at a4 2
  simp only [List.getElem?_toArray, List.getElem?_cons_zero, List.getElem?_cons_succ] at q0 q1 q2
  clear k4 m4 a4
  go_wp2_with fail
  refine of20 (HA.out.same HK4.out) HOKA.out ?_; rintro e w5 d5 rfl dd5 k5
  have HK5 := hide (HK4.out.tr k5)
  have BXA5 := hide (k5.at BXA4.out trivial)
  have BXB5 := hide (k5.at BXB4.out trivial)
  clear k5 dd5 q0 q1 q2
  go_wp2_with fail
  refine meterNew 9 ?_; rintro e w6 rfl m6 k6
  go_wp2_with fail
  refine prodBothNil _ _ _ _ (.inr rfl) ⟨_, rfl⟩ ⟨_, rfl⟩ ?_; rintro e rfl
  have HK6 := hide (HK5.out.tr k6)
  have BXA6 := hide (k6.at BXA5.out trivial)
  have BXB6 := hide (k6.at BXB5.out trivial)
  clear k6 m6
  go_wp2_with fail
  refine prodNotNil ?_; rintro e rfl
  go_wp2_with fail
  have kd : Same w6 w6.drew := Keeps.drew (Keeps.refl (fun _ => True) w6)
  refine wp_region_plan (.take 0 (.take 2 (.take 4 (.one 1 (.one 3 (.one 5 (.one 6 (.take 7 (.take 8 (.take 9 (.take 10 (.take 11 .done)))))))))))) (fun w' => w'.heap[w.heap.size]? = some (.cells #[.int .i64 A.T, .slice aa A.acc.length ac, .slice na A.next.length nc] 25 (0, 0)) ∧ w'.heap[w.heap.size + 1]? = some (.cells #[.int .i64 B.T, .slice ba B.acc.length bc, .slice ma B.next.length mc] 25 (0, 0))) (by kernel_rfl) (by kernel_rfl) ⟨kd.at BXA6.out trivial, kd.at BXB6.out trivial⟩ ?_
  iterate 3
    (first
       | (apply pl_pass
          case ho => rfl
          case hw => rfl
          go_simp)
       | (apply pl_take
          case ho => rfl
          case hw => rfl
          case hv =>
            intro w' hS
            (have q0 := cell_at hS.1 0; have q1 := cell_at hS.1 1; have q2 := cell_at hS.1 2; have r0 := cell_at hS.2 0; have r1 := cell_at hS.2 1; have r2 := cell_at hS.2 2; simp only [List.getElem?_toArray, List.getElem?_cons_zero, List.getElem?_cons_succ] at q0 q1 q2 r0 r1 r2)
            go_simp
            exact rfl
          go_simp))
  refine pl_one (up_do rfl rfl fun K hK1 => ?_)
  go_simp
  refine of20 (HA.out.same (HK6.out.tr kd)) HOKA.out ?_; rintro e w7 d7 rfl dd7 k7
  have k7' := kd.tr k7
  refine hK1 _ _ _ ⟨k7'.at BXA6.out trivial, k7'.at BXB6.out trivial⟩ (fun _ h => h) ?_
  clear hK1 K
  refine pl_one (up_do rfl rfl fun K hK1 => ?_)
  go_simp
  refine of20 (HB.out.same (HK6.out.tr k7')) HOKB.out ?_; rintro e w8 d8 rfl dd8 k8
  have k8' := k7'.tr k8
  refine hK1 _ _ _ ⟨k8'.at BXA6.out trivial, k8'.at BXB6.out trivial⟩ (fun _ h => h) ?_
  clear hK1 K
  refine pl_one (up_do rfl rfl fun K hK1 => ?_)
  go_simp
  refine meterNew 100000 ?_; rintro e w9 rfl m9 k9
  rw [show max (100000 : Int) 0 = 100000 by decide] at m9
  have k9' := k8'.tr k9
  refine hK1 _ _ _ ⟨k9'.at BXA6.out trivial, k9'.at BXB6.out trivial⟩ (fun _ h => h) ?_
  clear hK1 K
  have HD7 := hide (dd7.same k8)
  have HD8 := hide dd8
  have HK8 := hide (HK6.out.tr k8')
  have HBX8 := hide (And.intro (k8'.at BXA6.out trivial) (k8'.at BXB6.out trivial))
  have HBX9 := hide (And.intro (k9'.at BXA6.out trivial) (k9'.at BXB6.out trivial))
  clear k7 k7' k8 k8' k9' kd dd7 dd8
  refine pl_one (up_do rfl rfl fun K hK1 => ?_)
  go_simp
  by_cases hodd : A.T ≠ B.T ∨ t < 0 ∨ 15 < t
  · have HODD := hide hodd
    refine prodBothOdd (HD7.out.same k9) (HD8.out.same k9) t _ hodd ?_; rintro e rfl
    refine hK1 _ _ _ HBX9.out (fun _ h => h) ?_
    clear hK1 K hodd
    iterate 5
      (first
         | (apply pl_pass
            case ho => rfl
            case hw => rfl
            go_simp)
         | (apply pl_take
            case ho => rfl
            case hw => rfl
            case hv =>
              intro w' hS
              (skip)
              go_simp
              exact rfl
            go_simp))
    refine pl_done ?_
    have HK9 := hide (HK8.out.tr k9)
    have q0 := cell_at HBX9.out.1 0
    have r0 := cell_at HBX9.out.2 0
    simp only [List.getElem?_toArray, List.getElem?_cons_zero] at q0 r0
    clear k9 m9
    by_cases hT : A.T = B.T
    · have hne : (A.T != B.T) = false := by simp [hT]
      have h2 : t < 0 ∨ 15 < t := by
        rcases HODD.out with h | h
        · exact absurd hT h
        · exact h
      clear hT
      rcases h2 with h2 | h2
      all_goals
        go_wp2_with fail
        refine known20 ?_; rintro e w10 rfl k10
        go_wp2_with fail
        exact HR.out _ _ rfl (HK9.out.trans k10 fun z hz hzz => ⟨trivial, Nat.lt_of_lt_of_le hz HK9.out.size⟩)
    · have hne : (A.T != B.T) = true := by simp [hT]
      clear hT
      go_wp2_with fail
      refine known20 ?_; rintro e w10 rfl k10
      go_wp2_with fail
      exact HR.out _ _ rfl (HK9.out.trans k10 fun z hz hzz => ⟨trivial, Nat.lt_of_lt_of_le hz HK9.out.size⟩)
  · have hT : A.T = B.T := Classical.byContradiction fun h => hodd (.inl h)
    have h1 : 0 ≤ t ∧ t < 16 := by omega
    obtain ⟨tn, rfl⟩ := Int.eq_ofNat_of_zero_le h1.1
    have htn : tn < 16 := by omega
    have hne : (A.T != B.T) = false := by simp [hT]
    have fin : ∀ (e : Int) (p : Option Addr) (w10 : World), (e = 0 ∨ e = 8) → Keeps (· < w8.heap.size) w8 w10 → e = e := fun _ _ _ _ _ => rfl
    have ht0 : ¬ (tn : Int) < 0 := by omega
    have ht15 : ¬ 15 < (tn : Int) := by omega
    have HTT := hide (And.intro ht0 ht15)
    clear fin hodd ht0 ht15
    refine prodBoth (w0 := w8) HD7.out HD8.out k9 hT tn htn m9 (Nat.le_refl _) (by decide) (by decide) ?_ ?_
    · rintro e w10 d10 rfl dd10 k10
      have hb10 : w10.heap[w.heap.size]? = some (.cells #[.int .i64 A.T, .slice aa A.acc.length ac, .slice na A.next.length nc] 25 (0, 0)) ∧ w10.heap[w.heap.size + 1]? = some (.cells #[.int .i64 B.T, .slice ba B.acc.length bc, .slice ma B.next.length mc] 25 (0, 0)) := ⟨k10.at HBX8.out.1 (heap_lt HBX8.out.1), k10.at HBX8.out.2 (heap_lt HBX8.out.2)⟩
      refine hK1 _ _ _ hb10 (fun _ h => h) ?_
      clear hK1 K
      iterate 5
        (first
           | (apply pl_pass
              case ho => rfl
              case hw => rfl
              go_simp)
           | (apply pl_take
              case ho => rfl
              case hw => rfl
              case hv =>
                intro w' hS
                (skip)
                go_simp
                exact rfl
              go_simp))
      refine pl_done ?_
      have HK10 : Hid (Keeps (· < w.heap.size) w w10) := hide (HK8.out.trans k10 fun z hz _ => ⟨trivial, Nat.lt_of_lt_of_le hz HK8.out.size⟩)
      have q0 := cell_at hb10.1 0
      have r0 := cell_at hb10.2 0
      simp only [List.getElem?_toArray, List.getElem?_cons_zero] at q0 r0
      clear k10 dd10 hb10 hT h1 k9 m9 ht
      have ht0 := HTT.out.1
      have ht15 := HTT.out.2
      go_wp2_with fail
      refine known20 ?_; rintro e w11 rfl k11
      go_wp2_with fail
      exact HR.out _ _ rfl (HK10.out.trans k11 fun z hz hzz => ⟨hzz, Nat.lt_of_lt_of_le hz HK10.out.size⟩)
    · rintro _ e w10 rfl k10
      have hb10 : w10.heap[w.heap.size]? = some (.cells #[.int .i64 A.T, .slice aa A.acc.length ac, .slice na A.next.length nc] 25 (0, 0)) ∧ w10.heap[w.heap.size + 1]? = some (.cells #[.int .i64 B.T, .slice ba B.acc.length bc, .slice ma B.next.length mc] 25 (0, 0)) := ⟨k10.at HBX8.out.1 (heap_lt HBX8.out.1), k10.at HBX8.out.2 (heap_lt HBX8.out.2)⟩
      refine hK1 _ _ _ hb10 (fun _ h => h) ?_
      clear hK1 K
      iterate 5
        (first
           | (apply pl_pass
              case ho => rfl
              case hw => rfl
              go_simp)
           | (apply pl_take
              case ho => rfl
              case hw => rfl
              case hv =>
                intro w' hS
                (skip)
                go_simp
                exact rfl
              go_simp))
      refine pl_done ?_
      have HK10 : Hid (Keeps (· < w.heap.size) w w10) := hide (HK8.out.trans k10 fun z hz _ => ⟨trivial, Nat.lt_of_lt_of_le hz HK8.out.size⟩)
      have q0 := cell_at hb10.1 0
      have r0 := cell_at hb10.2 0
      simp only [List.getElem?_toArray, List.getElem?_cons_zero] at q0 r0
      clear k10 hb10 hT h1 k9 m9 ht
      have ht0 := HTT.out.1
      have ht15 := HTT.out.2
      go_wp2_with fail
      refine known20 ?_; rintro e w11 rfl k11
      go_wp2_with fail
      exact HR.out _ _ rfl (HK10.out.trans k11 fun z hz hzz => ⟨hzz, Nat.lt_of_lt_of_le hz HK10.out.size⟩)

end Go.Proofs.Ytohhjdadhdibfaa
