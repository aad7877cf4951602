/- The walk of ProdWords. -/
import Derived.Test.YtameihkcajceeaaLaw20b
namespace Go.Proofs.Ytameihkcajceeaa
open Go.RowKit

attribute [local irreducible] wpQuiet wpPlan wpPlanZ wpUp

variable {R : Ending → World → Prop} {w : World} {A B : Au}


set_option maxRecDepth 10000 in
set_option maxHeartbeats 2000000 in
theorem prodWordsWalk (va : Value) (A : Au) (vb : Value) (B : Au) (t : Int) (lv : Value) (l : List Int) (w : World) (hA : AutoAt w va A) (hB : AutoAt w vb B) (ht : InI64 t) (hl : IntsAt w lv l) :
    Calls Try.prog 7 #[va, vb, .int .i64 t, lv] w fun e w' => e = .returned (.bool true) ∧ Below w.heap.size w w' := by
  refine law_of fun R HR => ?_
  have HA := hide hA
  have HB := hide hB
  obtain ⟨xa, xn, rfl, hacc, hnext, _⟩ := hA
  obtain ⟨aa, ac, rfl, _⟩ := hacc.open
  obtain ⟨na, nc, rfl, _⟩ := hnext.open
  obtain ⟨ya, yn, rfl, hacc2, hnext2, _⟩ := hB
  obtain ⟨ba, bc, rfl, _⟩ := hacc2.open
  obtain ⟨ma, mc, rfl, _⟩ := hnext2.open
  have hA1 := heap_new w (.cells #[.int .i64 A.T, .slice aa A.acc.length ac, .slice na A.next.length nc] 25)
  have eA : (w.alloc (.cells #[.int .i64 A.T, .slice aa A.acc.length ac, .slice na A.next.length nc] 25)).heap.size = w.heap.size + 1 := by simp
  have kA : Same w (w.alloc (.cells #[.int .i64 A.T, .slice aa A.acc.length ac, .slice na A.next.length nc] 25)) := (Keeps.refl _ w).alloc _
  have hB1 := heap_new (w.alloc (.cells #[.int .i64 A.T, .slice aa A.acc.length ac, .slice na A.next.length nc] 25)) (.cells #[.int .i64 B.T, .slice ba B.acc.length bc, .slice ma B.next.length mc] 25)
  have kB : Same (w.alloc (.cells #[.int .i64 A.T, .slice aa A.acc.length ac, .slice na A.next.length nc] 25)) ((w.alloc (.cells #[.int .i64 A.T, .slice aa A.acc.length ac, .slice na A.next.length nc] 25)).alloc (.cells #[.int .i64 B.T, .slice ba B.acc.length bc, .slice ma B.next.length mc] 25)) := (Keeps.refl _ _).alloc _
  rw [eA] at hB1
  have hA2 := kB.at hA1 trivial
  have hkw := kA.tr kB
  unfold InI64 at ht
  have HLI := hide hl
  obtain ⟨la, lc, rfl, hl1, hl2, hlcell⟩ := hl.open
  have HLC := hide hlcell
  unfold maxLen at hl2
  clear hl hlcell
  go_enter Try.func7, Try.ntmps7
  go_wp2_with fail
  generalize (w.alloc (.cells #[.int .i64 A.T, .slice aa A.acc.length ac, .slice na A.next.length nc] 25)).alloc (.cells #[.int .i64 B.T, .slice ba B.acc.length bc, .slice ma B.next.length mc] 25) = wb at hA2 hB1 hkw ⊢
  have BXA := hide hA2
  have BXB := hide hB1
  have HKB := hide hkw
  clear hA1 eA kA hB1 kB hA2 hkw hacc hnext hacc2 hnext2
  refine may20 (HA.out.same HKB.out) ?_; rintro e w1 rfl k1
  cases hmA : mayB A with
  | false =>
    go_wp2_with fail
    exact HR.out _ _ rfl ((HKB.out.tr k1).mono fun _ _ _ => trivial)
  | true =>
  have HMA := hide hmA
  clear hmA
  have a1 := k1.at BXA.out trivial
  have c1 := k1.at BXB.out trivial
  have p0 := cell_at c1 0
  have p1 := cell_at c1 1
  have p2 := cell_at c1 2
  simp only [List.getElem?_toArray, List.getElem?_cons_zero, List.getElem?_cons_succ] at p0 p1 p2
  have BXA1 := hide a1
  have BXB1 := hide c1
  have HK1 := hide (HKB.out.tr k1)
  clear a1 c1 k1
  go_wp2_with fail
  refine may20 (HB.out.same HK1.out) ?_; rintro e w2 rfl k2
  cases hmB : mayB B with
  | false =>
    go_wp2_with fail
    exact HR.out _ _ rfl ((HK1.out.tr k2).mono fun _ _ _ => trivial)
  | true =>
  have HMB := hide hmB
  have HOKA := hide (mayB_ok HMA.out).2.2
  have HOKB := hide (mayB_ok hmB).2.2
  have a2 := k2.at BXA1.out trivial
  have c2 := k2.at BXB1.out trivial
  have BXA2 := hide a2
  have BXB2 := hide c2
  have HK2 := hide (HK1.out.tr k2)
  have q0 := cell_at a2 0
  have q1 := cell_at a2 1
  have q2 := cell_at a2 2
  have r0 := cell_at c2 0
  have r1 := cell_at c2 1
  have r2 := cell_at c2 2
  simp only [List.getElem?_toArray, List.getElem?_cons_zero, List.getElem?_cons_succ] at q0 q1 q2 r0 r1 r2
  clear hmB a2 c2 k2 p0 p1 p2
  obtain ⟨P, hP⟩ : ∃ P : Nat, P = A.acc.length * B.acc.length := ⟨_, rfl⟩
  have hPb : P ≤ 1600 := by rw [hP]; exact Nat.le_trans (Nat.mul_le_mul (mayB_ok HMA.out).1 (mayB_ok HMB.out).1) (by decide)
  have hmul : wrap64 ((A.acc.length : Int) * (B.acc.length : Int)) = (P : Int) := by
    rw [← Int.natCast_mul, ← hP]; exact IntWalk.wrap64_in _ (by omega)
  have HP := hide hP
  clear hP hPb
  by_cases c1 : (300 : Int) < (P : Int)
  · go_wp2_with fail
    exact HR.out _ _ rfl (HK2.out.mono fun _ _ _ => trivial)
  by_cases hT : A.T = B.T
  rotate_left
  · have hne : (A.T != B.T) = true := by simp [hT]
    clear hT
    go_wp2_with fail
    exact HR.out _ _ rfl (HK2.out.mono fun _ _ _ => trivial)
  have hne : (A.T != B.T) = false := by simp [hT]
  have HT := hide hT
  clear hT
  by_cases c2 : t < 0
  · go_wp2_with fail
    exact HR.out _ _ rfl (HK2.out.mono fun _ _ _ => trivial)
  by_cases c3 : 15 < t
  · go_wp2_with fail
    exact HR.out _ _ rfl (HK2.out.mono fun _ _ _ => trivial)
  by_cases c4 : (100 : Int) < (l.length : Int)
  · go_wp2_with fail
    exact HR.out _ _ rfl (HK2.out.mono fun _ _ _ => trivial)
  go_wp2_with fail
  obtain ⟨tn, rfl⟩ := Int.eq_ofNat_of_zero_le (show 0 ≤ t by omega)
  have HTN : Hid (tn < 16) := hide (by omega)
  have HP3 : Hid (P ≤ 300) := hide (by omega)
  obtain ⟨T, hTT⟩ := Int.eq_ofNat_of_zero_le HOKA.out.1.1
  have HTE := hide hTT
  have HT6 : Hid (T ≤ 6) := hide (by have := HOKA.out.1.2.1; omega)
  clear hTT c1 c2 c3 c4 hne hmul q0 q1 q2 r0 r1 r2 ht
  have hshT := shl_u64 HT6.out
  have hwT := wrap_two (T := T) (by have := HT6.out; omega)
  go_loopw [9] (fun i wr => ∃ k : Nat, i = .int .i64 k ∧ k ≤ l.length ∧ Hid (∀ j, j < k → 0 ≤ l.getD j 0 ∧ l.getD j 0 < ((2 ^ T : Nat) : Int)) ∧ Same w2 wr) (fun i _ => l.length - (intOf i).toNat)
  case atStart => exact ⟨0, rfl, Nat.zero_le _, hide (fun j hj => absurd hj (Nat.not_lt_zero _)), Keeps.refl _ _⟩
  case round =>
    obtain ⟨k, rfl, hk, hall, hK⟩ := hrel
    by_cases hlt : k < l.length
    · obtain ⟨bl, off, rfl, _, hcl⟩ := HLC.out k hlt
      have hck := Keeps.cell ((HK2.out).tr hK) (hcl k hlt) trivial
      have q0 := cell_at (hK.at BXA2.out trivial) 0
      simp only [List.getElem?_toArray, List.getElem?_cons_zero] at q0
      rw [HTE.out] at q0
      have HX := hide (show l.getD k 0 = l[k] by simp [List.getD, List.getElem?_eq_getElem hlt])
      generalize l[k] = x at hck HX
      have HKK := hide hK
      by_cases hx : 0 ≤ x ∧ x < ((2 ^ T : Nat) : Int)
      · have HXX := hide hx
        have hall2 : ∀ j, j < k + 1 → 0 ≤ l.getD j 0 ∧ l.getD j 0 < ((2 ^ T : Nat) : Int) := fun j hj => by
          by_cases e : j = k
          · subst e; rw [HX.out]; exact HXX.out
          · exact hall.out j (Nat.lt_of_le_of_ne (Nat.lt_succ_iff.1 hj) e)
        have HALL := hide hall2
        obtain ⟨x, rfl⟩ := Int.eq_ofNat_of_zero_le hx.1
        have hx1 : (x : Int) < ((2 ^ T : Nat) : Int) := hx.2
        clear hx hall2 hall hK
        generalize hpp : 2 ^ T = p at hshT hwT hx1 HALL
        have hx0 : (0 : Int) ≤ (x : Int) := Int.natCast_nonneg x
        clear hpp hwT
        go_wp2_with fail
        go_quiet (fail)
        go_wp2_with fail
        go_roundw
        case rel => exact ⟨k + 1, by go_num, hlt, HALL, HKK.out.drewN _⟩
        case measure =>
          clear hshT hx1
          simp [intOf]; omega
      · generalize hpp : 2 ^ T = p at hshT hwT hx
        clear hpp hall hK
        by_cases hx0 : x < 0
        · go_wp2_with fail
          go_quiet (fail)
          go_wp2_with fail
          exact HR.out _ _ rfl (((HK2.out.tr HKK.out).drewN _).mono fun _ _ _ => trivial)
        · have hx1 : (p : Int) ≤ x := Int.not_lt.mp fun h => hx ⟨Int.not_lt.mp hx0, h⟩
          go_wp2_with fail
          go_quiet (fail)
          go_wp2_with fail
          exact HR.out _ _ rfl (((HK2.out.tr HKK.out).drewN _).mono fun _ _ _ => trivial)
    · obtain rfl : k = l.length := by omega
      have HLW : Hid (∀ c ∈ l, 0 ≤ c ∧ c < ((2 ^ A.T.toNat : Nat) : Int)) := hide (fun c hc => by
        obtain ⟨j, hj, rfl⟩ := List.getElem_of_mem hc
        have := hall.out j hj
        rw [HTE.out, Int.toNat_natCast]
        simpa [List.getD, List.getElem?_eq_getElem hj] using this)
      have BXA6 := hide (hK.at BXA2.out trivial)
      have BXB6 := hide (hK.at BXB2.out trivial)
      have HK6 := hide (HK2.out.tr hK)
      clear hall hK hshT hwT
      go_wp2_with fail
      have kd : Same wr wr.drew := Keeps.drew (Keeps.refl (fun _ => True) wr)
      refine wp_region_plan (.take 0 (.take 2 (.take 4 (.one 1 (.one 3 (.one 5 (.one 6 (.take 7 (.take 8 (.take 9 (.take 10 (.take 11 .done)))))))))))) (fun w' => w'.heap[w.heap.size]? = some (.cells #[.int .i64 A.T, .slice aa A.acc.length ac, .slice na A.next.length nc] 25 (0, 0)) ∧ w'.heap[w.heap.size + 1]? = some (.cells #[.int .i64 B.T, .slice ba B.acc.length bc, .slice ma B.next.length mc] 25 (0, 0))) (by kernel_rfl) (by kernel_rfl) ⟨kd.at BXA6.out trivial, kd.at BXB6.out trivial⟩ ?_
      iterate 3
        (first
           | (apply pl_pass
              case ho => rfl
              case hw => rfl
              go_simp)
           | (apply pl_take
              case ho => rfl
              case hw => rfl
              case hv =>
                intro w' hS
                (have q0 := cell_at hS.1 0; have q1 := cell_at hS.1 1; have q2 := cell_at hS.1 2; have r0 := cell_at hS.2 0; have r1 := cell_at hS.2 1; have r2 := cell_at hS.2 2; simp only [List.getElem?_toArray, List.getElem?_cons_zero, List.getElem?_cons_succ] at q0 q1 q2 r0 r1 r2)
                go_simp
                exact rfl
              go_simp))
      refine pl_one (up_do rfl rfl fun K hK1 => ?_)
      go_simp
      refine of20 (HA.out.same (HK6.out.tr kd)) HOKA.out ?_; rintro e w7 d7 rfl dd7 k7
      have k7' := kd.tr k7
      refine hK1 _ _ _ ⟨k7'.at BXA6.out trivial, k7'.at BXB6.out trivial⟩ (fun _ h => h) ?_
      clear hK1 K
      refine pl_one (up_do rfl rfl fun K hK1 => ?_)
      go_simp
      refine of20 (HB.out.same (HK6.out.tr k7')) HOKB.out ?_; rintro e w8 d8 rfl dd8 k8
      have k8' := k7'.tr k8
      refine hK1 _ _ _ ⟨k8'.at BXA6.out trivial, k8'.at BXB6.out trivial⟩ (fun _ h => h) ?_
      clear hK1 K
      refine pl_one (up_do rfl rfl fun K hK1 => ?_)
      go_simp
      refine meterNew 1000 ?_; rintro e w9 rfl m9 k9
      rw [show max (1000 : Int) 0 = 1000 by decide] at m9
      have k9' := k8'.tr k9
      refine hK1 _ _ _ ⟨k9'.at BXA6.out trivial, k9'.at BXB6.out trivial⟩ (fun _ h => h) ?_
      clear hK1 K
      have HD7 := hide (dd7.same k8)
      have HD8 := hide dd8
      have HK8 := hide (HK6.out.tr k8')
      have HBX8 := hide (And.intro (k8'.at BXA6.out trivial) (k8'.at BXB6.out trivial))
      clear k7 k7' k8 k8' k9' kd dd7 dd8
      refine pl_one (up_do rfl rfl fun K hK1 => ?_)
      go_simp
      refine prodBoth (w0 := w8) HD7.out HD8.out k9 HT.out tn HTN.out m9 (Nat.le_refl _) (by decide) (by decide) ?_ (fun h => absurd h (by rw [← HP.out]; have := HP3.out; omega))
      rintro e w10 d10 rfl dd10 k10
      have hb10 : w10.heap[w.heap.size]? = some (.cells #[.int .i64 A.T, .slice aa A.acc.length ac, .slice na A.next.length nc] 25 (0, 0)) ∧ w10.heap[w.heap.size + 1]? = some (.cells #[.int .i64 B.T, .slice ba B.acc.length bc, .slice ma B.next.length mc] 25 (0, 0)) := ⟨k10.at HBX8.out.1 (heap_lt HBX8.out.1), k10.at HBX8.out.2 (heap_lt HBX8.out.2)⟩
      refine hK1 _ _ _ hb10 (fun _ h => h) ?_
      clear hK1 K
      iterate 5
        (first
           | (apply pl_pass
              case ho => rfl
              case hw => rfl
              go_simp)
           | (apply pl_take
              case ho => rfl
              case hw => rfl
              case hv =>
                intro w' hS
                (skip)
                go_simp
                exact rfl
              go_simp))
      refine pl_done ?_
      have HBX10 := hide hb10
      have HK10 : Hid (Keeps (· < w.heap.size) w w10) := hide (HK8.out.trans k10 fun z hz _ => ⟨trivial, Nat.lt_of_lt_of_le hz HK8.out.size⟩)
      have DD10 := hide dd10
      have HPR := hide (prod_words HOKA.out HOKB.out HT.out tn dd10.ok HLW.out)
      have q0 := cell_at hb10.1 0
      have q1 := cell_at hb10.1 1
      have q2 := cell_at hb10.1 2
      simp only [List.getElem?_toArray, List.getElem?_cons_zero, List.getElem?_cons_succ] at q0 q1 q2
      clear k10 dd10 hb10 k9 m9
      go_wp2_with fail
      refine refRun (HA.out.old HK10.out) HOKA.out (HLI.out.old HK10.out) ?_; rintro e w11 rfl k11
      have HK11 := hide (HK10.out.tr_same k11)
      have DD11 := hide (DD10.out.same k11)
      have hb11 := k11.at HBX10.out.2 trivial
      have r0 := cell_at hb11 0
      have r1 := cell_at hb11 1
      have r2 := cell_at hb11 2
      simp only [List.getElem?_toArray, List.getElem?_cons_zero, List.getElem?_cons_succ] at r0 r1 r2
      clear q0 q1 q2 k11 hb11
      go_wp2_with fail
      refine refRun (HB.out.old HK11.out) HOKB.out (HLI.out.old HK11.out) ?_; rintro e w12 rfl k12
      have HK12 := hide (HK11.out.tr_same k12)
      have DD12 := hide (DD11.out.same k12)
      clear r0 r1 r2 k12
      generalize accA A (runA A l) = ba at HPR ⊢
      generalize accA B (runA B l) = bb at HPR ⊢
      have qq0 := bit_test tn 0 (by have := HTN.out; omega)
      have qq1 := bit_test tn 1 (by have := HTN.out; omega)
      have qq2 := bit_test tn 2 (by have := HTN.out; omega)
      have qq3 := bit_test tn 3 (by have := HTN.out; omega)
      simp only [Int.reducePow, Int.pow_zero, Int.ediv_one] at qq0 qq1 qq2 qq3
      have HT00 : Hid (tabBit tn false false = tn.testBit 0 ∧ tabBit tn false true = tn.testBit 1 ∧ tabBit tn true false = tn.testBit 2 ∧ tabBit tn true true = tn.testBit 3) := hide ⟨rfl, rfl, rfl, rfl⟩
      have HB0 := hide (And.intro qq0 (And.intro qq1 (And.intro qq2 qq3)))
      clear qq0 qq1 qq2 qq3
      have fin : ∀ b : Bool, (b == b) = true := by decide
      have s0 : IntKind.i64.wrap 0 = 0 := by decide
      have s1 : IntKind.i64.wrap 1 = 1 := by decide
      have s2 : IntKind.i64.wrap 2 = 2 := by decide
      have s3 : IntKind.i64.wrap 3 = 3 := by decide
      generalize hacc : accA (prodAu A B tn) (runA (prodAu A B tn) l) = bv at HPR
      have HACC := hide hacc
      clear hacc
      cases ba
      all_goals cases bb
      all_goals
        first
          | (have hq := HB0.out.1.trans (HPR.out.trans HT00.out.1).symm)
          | (have hq := HB0.out.2.1.trans (HPR.out.trans HT00.out.2.1).symm)
          | (have hq := HB0.out.2.2.1.trans (HPR.out.trans HT00.out.2.2.1).symm)
          | (have hq := HB0.out.2.2.2.trans (HPR.out.trans HT00.out.2.2.2).symm)
        go_wp2_with fail
        refine dfaRun DD12.out (HLI.out.old HK12.out) ?_; rintro e w13 rfl k13
        rw [HACC.out]
        have HK13 := hide (HK12.out.tr_same k13)
        have hbb := fin bv
        clear k13
        go_wp2_with fail
        refine known20 ?_; rintro e w14 rfl k14
        go_wp2_with fail
        exact HR.out _ _ rfl (HK13.out.trans k14 fun z hz hzz => ⟨hzz, Nat.lt_of_lt_of_le hz HK13.out.size⟩)

end Go.Proofs.Ytameihkcajceeaa
