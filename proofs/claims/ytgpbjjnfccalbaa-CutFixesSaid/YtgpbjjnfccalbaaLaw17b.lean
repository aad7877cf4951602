/- The walks of PairBoth, PairMap. -/
import Derived.Test.YtgpbjjnfccalbaaLaw17
namespace Go.Proofs.Ytgpbjjnfccalbaa
open Go.RowKit

attribute [local irreducible] wpQuiet wpPlan wpUp

variable {R : Ending → World → Prop} {w : World} {a T : Nat} {L : List Nd}

set_option maxRecDepth 10000 in
set_option maxHeartbeats 1000000 in
theorem pairBothWalk (t : Int) (vf : Value) (f : List Int) (vg : Value) (g : List Int) (k : Int) (w : World) (ht : InI64 t) (hf : IntsAt w vf f) (hg : IntsAt w vg g) (_ : InI64 k) :
    Calls Try.prog 6 #[.int .i64 t, vf, vg, .int .i64 k] w fun e w' => e = .returned (.bool true) ∧ Below w.heap.size w w' := by
  refine law_of fun R HR => ?_
  have HF := hide hf
  have HG := hide hg
  have HLF := hide hf.lt
  have HLG := hide hg.lt
  obtain ⟨fa, fc, rfl, hf1, hf2, _⟩ := hf.open
  obtain ⟨ga, gc, rfl, hg1, hg2, _⟩ := hg.open
  unfold maxLen at hf2 hg2
  clear hf hg
  by_cases hm : 0 ≤ t ∧ t ≤ 6 ∧ f.length = 2 ^ t.toNat ∧ g.length = f.length
  case neg =>
    have hd := decide_eq_false hm
    clear hm
    go_enter Try.func6, Try.ntmps6
    go_wp2_with fail
    refine may17 HF.out HG.out ht ?_; rw [hd]; rintro e rfl
    go_wp2_with fail
    exact HR.out _ _ rfl (Keeps.refl _ _)
  have hd := decide_eq_true hm
  obtain ⟨h0, h6, hl, hgl⟩ := hm
  obtain ⟨T, rfl⟩ := Int.eq_ofNat_of_zero_le h0
  rw [Int.toNat_natCast] at hl
  have HT6 : Hid (T ≤ 6) := hide (by omega)
  have H1 : Hid (0 < f.length ∧ f.length ≤ 64) := hide ⟨by rw [hl]; exact Nat.pow_pos (by decide), by rw [hl]; exact two_le HT6.out⟩
  have H06 := hide (And.intro h0 h6)
  have HTI := hide ht
  have HL := hide (And.intro hl hgl)
  have HD := hide hd
  have hcs := of_two HT6.out f g hl (hgl.trans hl)
  clear h0 h6 hl hgl hd ht
  rcases hcs with ⟨x, y, L1, L2, e1, e2, wf1, wf2, p12, hx, hy, n1, n2, hfv, hgv, vx, vy⟩ | ⟨i, j, L1, L2, e1, e2, hij, n1, n2⟩
  · have E1 := hide e1
    have E2 := hide e2
    have HV := hide (And.intro hfv hgv)
    have HVXY := hide (And.intro vx vy)
    have HP := hide p12
    have hx2 : x < L2.length := Nat.lt_of_lt_of_le hx p12.length_le
    have N1 := hide n1
    have N2 := hide n2
    clear e1 e2 hfv hgv vx vy p12 wf1 wf2 n1 n2
    go_enter Try.func6, Try.ntmps6
    go_wp2_with fail
    refine may17 HF.out HG.out HTI.out ?_; rw [HD.out]; rintro e rfl
    go_wp2_with fail
    refine storeNew (T : Int) H06.out.1 H06.out.2 ?_; rintro e w1 s rfl s1 k1 f1
    rw [Int.toNat_natCast] at s1
    have F1 := hide f1
    have K1 := hide k1
    clear f1 k1
    go_wp2_with fail
    refine storeOfC s1 (HF.out.same K1.out) (Apart.old F1.out HLF.out K1.out.size) (by decide) ?_; rw [E1.out]; rintro e w2 rfl s2 g2
    have K2 : Hid (Keeps (· < w.heap.size) w w2) := hide (K1.out.trans (g2.below F1.out) fun x _ hx => ⟨trivial, hx⟩)
    have F2 := hide (g2.footB F1.out K1.out.size)
    clear g2 s1
    simp only []
    go_wp2_with fail
    refine storeOfC s2 (HG.out.keep K2.out HLG.out) (Apart.old F2.out HLG.out K2.out.size) (by have := N1.out; (try simp only); omega) ?_; rw [E2.out]; rintro e w3 rfl s3 g3
    have K3 : Hid (Keeps (· < w.heap.size) w w3) := hide (K2.out.tr (g3.below F2.out))
    have F3 := hide (g3.footB F2.out K2.out.size)
    clear g3 s2
    simp only []
    simp only [] at s3
    go_wp2_with fail
    by_cases hk : 1 ≤ k ∧ k ≤ 1048576
    · refine refBoth (HF.out.keep K3.out HLF.out) (HG.out.keep K3.out HLG.out) HV.out.1 HV.out.2 HL.out.2 H1.out.1 H1.out.2 hk.1 hk.2 ?_; rintro e w4 u4 ok4 rfl r4 k4
      have R4 := hide r4
      have K4 := hide (K3.out.tr_same k4)
      have s4 := s3.same k4
      have F4 := hide (s3.foot k4 F3.out)
      clear s3 k4 r4
      go_wp2_with fail
      refine pairBoth s4 x y k (by have := N2.out; omega) ?_; rintro e w5 r5 L5 rfl s5 g5 a5
      have hw4 := s4.wf
      have hpa := a5.yes hx2 hy hk.1 hk.2
      have hp5 := a5.1
      have hl5 := a5.2.1
      have wf5 := s5.wf
      have vx5 : ∀ c, c < 2 ^ T → val L5 x c = f.getD c 0 := fun c hc => (val_prefix hw4 wf5 hp5 c x hx2).trans (HVXY.out.1 c hc)
      have vy5 : ∀ c, c < 2 ^ T → val L5 y c = g.getD c 0 := fun c hc => (val_prefix hw4 wf5 hp5 c y hy).trans (HVXY.out.2 c hc)
      have hcase := pair_ref wf5 vx5 vy5 HL.out.1 hpa R4.out
      have hx5 : x < L5.length := Nat.lt_of_lt_of_le hx2 hp5.length_le
      have HROW := hide (row_of hx5 HL.out.1 vx5)
      have HB4 := hide K4.out.size
      have K5 := hide (K4.out.tr (g5.below F4.out))
      have F5 := hide (g5.footB F4.out K4.out.size)
      have G5 := hide g5
      have S4 := hide s4
      have N5 : Hid (L5.length ≤ 400) := hide (by have := N2.out; omega)
      clear hpa hp5 hl5 wf5 vx5 vy5 hw4 a5 g5 s4
      rcases hcase with ⟨rfl, j, row, rfl, hj, hrl, ho, hv⟩ | ⟨rfl, rfl, rfl⟩
      · have hval := row_valid s5.wf hj hrl hv
        have o5 := ho.grew S4.out G5.out
        have i5 := o5.ints (all_bounds hval)
        have hap := o5.apart s5
        have HV5 := hide hv
        have HRL := hide hrl
        obtain ⟨ua, uc, rfl⟩ := ho.shape
        clear ho hval hv hrl
        go_wp2_with fail
        refine is17Yes s5 i5 hap hj HRL.out HV5.out (by have := N5.out; omega) ?_; rintro e w6 rfl s6 g6
        have K6 := hide (K5.out.tr (g6.below F5.out))
        have F6 := hide (g6.footB F5.out K5.out.size)
        clear s5 g6 i5 hap o5
        go_wp2_with fail
        refine storeRow s6 x ?_; rw [HROW.out]; rintro e w7 v7 rfl o7 k7
        have K7 := hide (K6.out.tr_same k7)
        have I7 := hide (o7.ints HF.out.2)
        obtain ⟨va, vc, rfl⟩ := o7.shape
        clear k7 o7 s6
        go_wp2_with fail
        refine sameInts I7.out (HF.out.keep K7.out HLF.out) ?_; rintro e w8 rfl k8
        rw [show decide (f = f) = true by simp]
        go_wp2_with fail
        refine known17 ?_; rintro e w9 rfl k9
        go_wp2_with fail
        exact HR.out _ _ rfl (K7.out.tr_same (k8.tr k9))
      · go_wp2_with fail
        refine is17No ?_; rintro e rfl
        go_wp2_with fail
        refine storeRow s5 x ?_; rw [HROW.out]; rintro e w7 v7 rfl o7 k7
        have K7 := hide (K5.out.tr_same k7)
        have I7 := hide (o7.ints HF.out.2)
        obtain ⟨va, vc, rfl⟩ := o7.shape
        clear k7 o7 s5
        go_wp2_with fail
        refine sameInts I7.out (HF.out.keep K7.out HLF.out) ?_; rintro e w8 rfl k8
        rw [show decide (f = f) = true by simp]
        go_wp2_with fail
        refine known17 ?_; rintro e w9 rfl k9
        go_wp2_with fail
        exact HR.out _ _ rfl (K7.out.tr_same (k8.tr k9))
    · have HNK := hide hk
      clear hk
      refine refBothNot (HF.out.keep K3.out HLF.out) (HG.out.keep K3.out HLG.out) HL.out.2 H1.out.1 (by have := HNK.out; omega) ?_; rintro e rfl
      go_wp2_with fail
      refine pairBoth s3 x y k (by have := N2.out; omega) ?_; rintro e w5 r5 L5 rfl s5 g5 a5
      obtain ⟨rfl, rfl⟩ := a5.no (fun h => HNK.out ⟨h.2.2.2.2.1, h.2.2.2.2.2⟩)
      have HROW := hide (row_of (L := L5) hx2 HL.out.1 HVXY.out.1)
      have K5 := hide (K3.out.tr (g5.below F3.out))
      clear a5 g5
      go_wp2_with fail
      refine is17No ?_; rintro e rfl
      go_wp2_with fail
      refine storeRow s5 x ?_; rw [HROW.out]; rintro e w7 v7 rfl o7 k7
      have K7 := hide (K5.out.tr_same k7)
      have I7 := hide (o7.ints HF.out.2)
      obtain ⟨va, vc, rfl⟩ := o7.shape
      clear k7 o7 s5
      go_wp2_with fail
      refine sameInts I7.out (HF.out.keep K7.out HLF.out) ?_; rintro e w8 rfl k8
      rw [show decide (f = f) = true by simp]
      go_wp2_with fail
      refine known17 ?_; rintro e w9 rfl k9
      go_wp2_with fail
      exact HR.out _ _ rfl (K7.out.tr_same (k8.tr k9))
  · have E1 := hide e1
    have E2 := hide e2
    have N1 := hide n1
    have N2 := hide n2
    clear e1 e2 n1 n2
    go_enter Try.func6, Try.ntmps6
    go_wp2_with fail
    refine may17 HF.out HG.out HTI.out ?_; rw [HD.out]; rintro e rfl
    go_wp2_with fail
    refine storeNew (T : Int) H06.out.1 H06.out.2 ?_; rintro e w1 s rfl s1 k1 f1
    rw [Int.toNat_natCast] at s1
    have F1 := hide f1
    have K1 := hide k1
    clear f1 k1
    go_wp2_with fail
    refine storeOfC s1 (HF.out.same K1.out) (Apart.old F1.out HLF.out K1.out.size) (by decide) ?_; rw [E1.out]; rintro e w2 rfl s2 g2
    have K2 : Hid (Keeps (· < w.heap.size) w w2) := hide (K1.out.trans (g2.below F1.out) fun x _ hx => ⟨trivial, hx⟩)
    have F2 := hide (g2.footB F1.out K1.out.size)
    clear g2 s1
    simp only []
    go_wp2_with fail
    refine storeOfC s2 (HG.out.keep K2.out HLG.out) (Apart.old F2.out HLG.out K2.out.size) (by have := N1.out; (try simp only); omega) ?_; rw [E2.out]; rintro e w3 rfl s3 g3
    have K3 : Hid (Keeps (· < w.heap.size) w w3) := hide (K2.out.tr (g3.below F2.out))
    have F3 := hide (g3.footB F2.out K2.out.size)
    clear g3 s2
    simp only []
    simp only [] at s3
    have HNO : Hid (¬ (0 ≤ i ∧ i < L2.length ∧ 0 ≤ j ∧ j < L2.length ∧ 1 ≤ k ∧ k ≤ 1048576)) := hide (by omega)
    rcases hij with rfl | ⟨hi, rfl⟩
    · skip
      go_wp2_with fail
      refine pairBoth s3 (-1) j k (by have := N2.out; omega) ?_; rintro e w5 r5 L5 rfl s5 g5 a5
      obtain ⟨rfl, rfl⟩ := a5.no HNO.out
      have K5 := hide (K3.out.tr (g5.below F3.out))
      clear a5 g5
      go_wp2_with fail
      refine known17 ?_; rintro e w9 rfl k9
      go_wp2_with fail
      exact HR.out _ _ rfl (K5.out.tr_same k9)
    · skip
      go_wp2_with fail
      refine pairBoth s3 i (-1) k (by have := N2.out; omega) ?_; rintro e w5 r5 L5 rfl s5 g5 a5
      obtain ⟨rfl, rfl⟩ := a5.no HNO.out
      have K5 := hide (K3.out.tr (g5.below F3.out))
      clear a5 g5
      go_wp2_with fail
      refine known17 ?_; rintro e w9 rfl k9
      go_wp2_with fail
      exact HR.out _ _ rfl (K5.out.tr_same k9)

/-- A row made. -/
theorem of_one (h6 : T ≤ 6) (f : List Int) (hl : f.length = 2 ^ T) :
    (∃ (x : Nat) (L1 : List Nd), OfA T [] f = (L1, (x : Int)) ∧ WF T L1 ∧ x < L1.length ∧ L1.length ≤ 127 ∧ f.all isVal = true ∧ ∀ c, c < 2 ^ T → val L1 x c = f.getD c 0) ∨ (OfA T [] f = ([], -1)) := by
  have hlen1 := OfA_len T [] f h6
  simp only [List.length_nil, Nat.zero_add] at hlen1
  by_cases hf : f.all isVal = true
  · obtain ⟨x, hx, hxv⟩ := OfA_made (WF.nil h6) hl hf
    exact .inl ⟨x, _, Prod.ext rfl hx.num, hx.wf, hx.lt, hlen1, hf, hxv⟩
  · exact .inr (OfA_none (fun h => hf h.2))

set_option maxRecDepth 10000 in
set_option maxHeartbeats 1000000 in
theorem pairMapWalk (t : Int) (vf : Value) (f : List Int) (vg : Value) (g : List Int) (w : World) (ht : InI64 t) (hf : IntsAt w vf f) (hg : IntsAt w vg g) :
    Calls Try.prog 10 #[.int .i64 t, vf, vg] w fun e w' => e = .returned (.bool true) ∧ Below w.heap.size w w' := by
  refine law_of fun R HR => ?_
  have HF := hide hf
  have HG := hide hg
  have HLF := hide hf.lt
  have HLG := hide hg.lt
  obtain ⟨fa, fc, rfl, hf1, hf2, _⟩ := hf.open
  obtain ⟨ga, gc, rfl, hg1, hg2, _⟩ := hg.open
  unfold maxLen at hf2 hg2
  clear hf hg
  by_cases hm : 0 ≤ t ∧ t ≤ 6 ∧ f.length = 2 ^ t.toNat ∧ f.length = f.length
  case neg =>
    have HD : Hid (∀ n : Nat, n = f.length → decide (0 ≤ t ∧ t ≤ 6 ∧ f.length = 2 ^ t.toNat ∧ n = f.length) = false) := hide fun n e => by subst e; exact decide_eq_false hm
    clear hm
    go_enter Try.func10, Try.ntmps10
    go_wp2_with fail
    refine may17 HF.out HF.out ht ?_; rw [HD.out _ rfl]; rintro e rfl
    go_wp2_with fail
    exact HR.out _ _ rfl (Keeps.refl _ _)
  have hd : ∀ n : Nat, n = f.length → decide (0 ≤ t ∧ t ≤ 6 ∧ f.length = 2 ^ t.toNat ∧ n = f.length) = true := fun n e => by subst e; exact decide_eq_true hm
  obtain ⟨h0, h6, hl, _⟩ := hm
  obtain ⟨T, rfl⟩ := Int.eq_ofNat_of_zero_le h0
  rw [Int.toNat_natCast] at hl
  have HT6 : Hid (T ≤ 6) := hide (by omega)
  have H1 : Hid (0 < f.length ∧ f.length ≤ 64) := hide ⟨by rw [hl]; exact Nat.pow_pos (by decide), by rw [hl]; exact two_le HT6.out⟩
  have H06 := hide (And.intro h0 h6)
  have HTI := hide ht
  have HL := hide hl
  have HD := hide hd
  have hcs := of_one HT6.out f hl
  clear h0 h6 hl hd ht
  by_cases hg100 : 100 < g.length
  · go_enter Try.func10, Try.ntmps10
    go_wp2_with fail
    refine may17 HF.out HF.out HTI.out ?_; rw [HD.out _ rfl]; rintro e rfl
    go_wp2_with fail
    exact HR.out _ _ rfl (Keeps.refl _ _)
  rcases hcs with ⟨x, L1, e1, wf1, hx, n1, hfv, vx⟩ | e1
  · have E1 := hide e1
    have HV := hide hfv
    have HVX := hide vx
    have N1 := hide n1
    clear e1 hfv vx wf1 n1
    go_enter Try.func10, Try.ntmps10
    go_wp2_with fail
    refine may17 HF.out HF.out HTI.out ?_; rw [HD.out _ rfl]; rintro e rfl
    go_wp2_with fail
    refine storeNew (T : Int) H06.out.1 H06.out.2 ?_; rintro e w1 s rfl s1 k1 f1
    rw [Int.toNat_natCast] at s1
    have F1 := hide f1
    have K1 := hide k1
    clear f1 k1
    go_wp2_with fail
    refine storeOfC s1 (HF.out.same K1.out) (Apart.old F1.out HLF.out K1.out.size) (by decide) ?_; rw [E1.out]; rintro e w3 rfl s3 g3
    have K3 : Hid (Keeps (· < w.heap.size) w w3) := hide (K1.out.trans (g3.below F1.out) fun x _ hx => ⟨trivial, hx⟩)
    have F3 := hide (g3.footB F1.out K1.out.size)
    clear g3 s1
    simp only []
    simp only [] at s3
    go_wp2_with fail
    refine refMap (HF.out.keep K3.out HLF.out) (HG.out.keep K3.out HLG.out) HV.out H1.out.1 H1.out.2 ?_; rintro e w4 u4 ok4 rfl r4 k4
    have R4 := hide r4
    have K4 := hide (K3.out.tr_same k4)
    have s4 := s3.same k4
    have F4 := hide (s3.foot k4 F3.out)
    clear s3 k4 r4
    have hoff : ∀ b, live (.slice ga g.length gc) = some b → ¬ Foot w4 s b := fun b hb hh => by have := F4.out b hh; have := HLG.out b hb; omega
    have HOFF := hide hoff
    clear hoff
    go_wp2_with fail
    refine pairMap s4 x (HG.out.keep K4.out HLG.out) HOFF.out (by have := N1.out; omega) ?_; rintro e w5 r5 L5 rfl s5 g5 a5
    have hw4 := s4.wf
    have hpa := a5.yes hx
    have hp5 := a5.1
    have hl5 := a5.2.1
    have wf5 := s5.wf
    have vx5 : ∀ c, c < 2 ^ T → val L5 x c = f.getD c 0 := fun c hc => (val_prefix hw4 wf5 hp5 c x hx).trans (HVX.out c hc)
    have hcase := pair_ref wf5 vx5 vx5 HL.out hpa R4.out
    have K5 := hide (K4.out.tr (g5.below F4.out))
    have F5 := hide (g5.footB F4.out K4.out.size)
    have G5 := hide g5
    have S4 := hide s4
    have N5 : Hid (L5.length ≤ 400) := hide (by have := N1.out; omega)
    clear hpa hp5 hl5 wf5 vx5 hw4 a5 g5 s4
    rcases hcase with ⟨rfl, j, row, rfl, hj, hrl, ho, hv⟩ | ⟨rfl, rfl, rfl⟩
    · have hval := row_valid s5.wf hj hrl hv
      have o5 := ho.grew S4.out G5.out
      have i5 := o5.ints (all_bounds hval)
      have hap := o5.apart s5
      have HV5 := hide hv
      have HRL := hide hrl
      obtain ⟨ua, uc, rfl⟩ := ho.shape
      clear ho hval hv hrl
      go_wp2_with fail
      refine is17Yes s5 i5 hap hj HRL.out HV5.out (by have := N5.out; omega) ?_; rintro e w6 rfl s6 g6
      have K6 := hide (K5.out.tr (g6.below F5.out))
      clear s5 g6 i5 hap o5 s6
      go_wp2_with fail
      refine known17 ?_; rintro e w9 rfl k9
      go_wp2_with fail
      exact HR.out _ _ rfl (K6.out.tr_same k9)
    · go_wp2_with fail
      refine is17No ?_; rintro e rfl
      go_wp2_with fail
      refine known17 ?_; rintro e w9 rfl k9
      go_wp2_with fail
      exact HR.out _ _ rfl (K5.out.tr_same k9)
  · have E1 := hide e1
    clear e1
    go_enter Try.func10, Try.ntmps10
    go_wp2_with fail
    refine may17 HF.out HF.out HTI.out ?_; rw [HD.out _ rfl]; rintro e rfl
    go_wp2_with fail
    refine storeNew (T : Int) H06.out.1 H06.out.2 ?_; rintro e w1 s rfl s1 k1 f1
    rw [Int.toNat_natCast] at s1
    have F1 := hide f1
    have K1 := hide k1
    clear f1 k1
    go_wp2_with fail
    refine storeOfC s1 (HF.out.same K1.out) (Apart.old F1.out HLF.out K1.out.size) (by decide) ?_; rw [E1.out]; rintro e w3 rfl s3 g3
    have K3 : Hid (Keeps (· < w.heap.size) w w3) := hide (K1.out.trans (g3.below F1.out) fun x _ hx => ⟨trivial, hx⟩)
    have F3 := hide (g3.footB F1.out K1.out.size)
    clear g3 s1
    simp only []
    simp only [] at s3
    have hoff : ∀ b, live (.slice ga g.length gc) = some b → ¬ Foot w3 s b := fun b hb hh => by have := F3.out b hh; have := HLG.out b hb; omega
    have HOFF := hide hoff
    clear hoff
    go_wp2_with fail
    refine pairMap s3 (-1) (HG.out.keep K3.out HLG.out) HOFF.out (by decide) ?_; rintro e w5 r5 L5 rfl s5 g5 a5
    obtain ⟨rfl, rfl⟩ := a5.no (by omega)
    have K5 := hide (K3.out.tr (g5.below F3.out))
    clear a5 g5
    go_wp2_with fail
    refine known17 ?_; rintro e w9 rfl k9
    go_wp2_with fail
    exact HR.out _ _ rfl (K5.out.tr_same k9)

end Go.Proofs.Ytgpbjjnfccalbaa
