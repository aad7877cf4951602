/- The walks of CutAsks, CutOrder. -/
import Derived.Test.YtonddhepndhgbaaLaw18
namespace Go.Proofs.Ytonddhepndhgbaa
open Go.RowKit

variable {R : Ending → World → Prop} {w : World} {a T : Nat} {L : List Nd}

theorem fixRow_at {f : List Int} {t : Nat} {up : Bool} {c : Nat} (hl : f.length = 2 ^ T) (hc : c < 2 ^ T) : (fixRow f t up).getD c 0 = f.getD (setB c t up) 0 := by
  unfold fixRow
  rw [List.getD_eq_getElem?_getD, List.getElem?_map, List.getElem?_range (by omega)]
  rfl

/-- A track matters just if the two halves differ. -/
theorem asks_law {L1 L2 : List Nd} {f : List Int} {id t k1 k2 : Nat} (h : WF T L) (h1 : WF T L1) (h2 : WF T L2) (p1 : L <+: L1) (p2 : L1 <+: L2) (hl : f.length = 2 ^ T) (hid : id < L.length) (ht : t < T)
    (hv : ∀ c, c < 2 ^ T → val L id c = f.getD c 0) (hk1 : FixOk L1 id t false k1) (hk2 : FixOk L2 id t true k2) : k1 = k2 ↔ fixRow f t false = fixRow f t true := by
  have v1 : ∀ c, c < 2 ^ T → val L2 k1 c = f.getD (setB c t false) 0 := fun c hc => by
    rw [val_prefix h1 h2 p2 c k1 hk1.lt, hk1.val, val_prefix h h1 p1 _ id hid, hv _ (setB_lt hc ht _)]
  have v2 : ∀ c, c < 2 ^ T → val L2 k2 c = f.getD (setB c t true) 0 := fun c hc => by
    rw [hk2.val, val_prefix h h2 (p1.trans p2) _ id hid, hv _ (setB_lt hc ht _)]
  constructor
  · intro e
    refine row_ext (by simp [fixRow]) fun c hc => ?_
    have hc' : c < 2 ^ T := by simpa [fixRow, hl] using hc
    rw [fixRow_at hl hc', fixRow_at hl hc', ← v1 c hc', ← v2 c hc', e]
  · intro e
    refine canon_row h2 (Nat.lt_of_lt_of_le hk1.lt p2.length_le) hk2.lt fun c hc => ?_
    rw [v1 c hc, v2 c hc, ← fixRow_at hl hc, ← fixRow_at hl hc, e]

theorem fixRow_bounds {f : List Int} (hf : ∀ x ∈ f, InI64 x) (t : Nat) (up : Bool) : ∀ x ∈ fixRow f t up, InI64 x := by
  intro x hx
  obtain ⟨i, _, rfl⟩ := List.mem_map.1 hx
  rw [List.getD_eq_getElem?_getD]
  cases h : f[setB i t up]? with
  | none => simp [InI64]
  | some y => exact hf y (List.mem_of_getElem? h)

/-- The law's walk begins: either it is none, or there is a store and a node (or none) of the row. -/
theorem OfA_cases {f : List Int} (h6 : T ≤ 6) (hl : f.length = 2 ^ T) : (∃ k : Nat, (OfA T [] f).2 = k ∧ k < (OfA T [] f).1.length ∧ (OfA T [] f).1.length ≤ 127 ∧ ∀ c, c < 2 ^ T → val (OfA T [] f).1 k c = f.getD c 0) ∨ (OfA T [] f).2 = -1 := by
  by_cases ha : f.all isVal = true
  · obtain ⟨k, hk, hv⟩ := OfA_made (WF.nil h6) hl ha
    exact .inl ⟨k, hk.num, hk.lt, by simpa using OfA_len T [] f h6, hv⟩
  · right; rw [OfA_none (fun h => ha h.2)]

set_option maxHeartbeats 2000000 in
theorem cutAsksWalk (t : Int) (v : Value) (f : List Int) (track : Int) (up : Bool) (w : World) (ht : InI64 t) (hv : IntsAt w v f) (_ : InI64 track) :
    Calls Try.prog 12 #[.int .i64 t, v, .int .i64 track, .bool up] w fun e w' => e = .returned (.bool true) ∧ Below w.heap.size w w' := by
  refine law_of fun R HR => ?_
  by_cases h1 : t < 0 ∨ 6 < t ∨ f.length ≠ 2 ^ t.toNat
  · go_enter Try.func12, Try.ntmps12
    go_wp2_with fail
    refine of18Not hv ht h1 ?_; rintro e rfl
    go_wp2_with fail
    exact HR.out _ _ rfl (Keeps.refl _ _)
  · obtain ⟨T, rfl⟩ := Int.eq_ofNat_of_zero_le (show 0 ≤ t by omega)
    have h6 : T ≤ 6 := by omega
    have hl : f.length = 2 ^ T := by
      have : ¬ (f.length ≠ 2 ^ (T : Int).toNat) := fun h => h1 (.inr (.inr h))
      simpa using this
    have HL := hide hl
    have HLV := hide hv.lt
    have HV := hide hv
    clear h1 ht hl hv
    by_cases h2 : track < 0 ∨ T ≤ track
    · rcases h2 with h2 | h2
      all_goals
        go_enter Try.func12, Try.ntmps12
        go_wp2_with fail
        refine of18 HV.out h6 HL.out ?_; rintro e w1 s rfl s1 k1 f1
        go_wp2_with fail
        exact HR.out _ _ rfl k1
    · obtain ⟨track, rfl⟩ := Int.eq_ofNat_of_zero_le (show 0 ≤ track by omega)
      have htT : track < T := by omega
      clear h2
      rcases OfA_cases h6 HL.out with ⟨k, hk, hkl, hlen, hkv⟩ | hk
      · generalize hr : OfA T [] f = r0 at hk hkl hlen hkv
        obtain ⟨L0, i0⟩ := r0
        simp only at hk hkl hlen hkv
        subst hk
        have E0 := hide hr
        have HKV := hide hkv
        clear hr hkv
        go_enter Try.func12, Try.ntmps12
        go_wp2_with fail
        refine of18 HV.out h6 HL.out ?_; rw [E0.out]; rintro e w1 s rfl s1 k1 f1
        simp only []
        have F1 := hide f1
        have K1 := hide k1
        clear f1 k1
        go_wp2_with fail
        refine refFix (HV.out.keep K1.out HLV.out) h6 HL.out track htT false ?_; rintro e w2 u2 rfl o2 k2
        go_wp2_with fail
        refine refFix ((HV.out.keep K1.out HLV.out).same k2) h6 HL.out track htT true ?_; rintro e w3 u3 rfl o3 k3
        have s3 := (s1.same k2).same k3
        have F3 := hide (s1.foot (k2.tr k3) F1.out)
        have K3 := hide (K1.out.tr_same (k2.tr k3))
        have o2' := o2.same k3
        clear s1 k2 k3 o2
        have wf0 := s3.wf
        go_wp2_with fail
        refine cutFix s3 k track up (by omega) ?_; rintro e w4 r4 L4 rfl s4 g4 a4
        obtain ⟨b, rfl, hb⟩ := a4.yes hkl htT
        have p4 := a4.1
        have l4 := a4.2.1
        have wf4 := s4.wf
        have hkl4 : k < L4.length := Nat.lt_of_lt_of_le hkl p4.length_le
        have B4 := hide hb
        have P4 := hide p4
        have bl4 := hb.lt
        clear a4 hb p4
        go_wp2_with fail
        refine cutAsks s4 k track (by omega) ?_; rintro e w5 r5 r6 L5 L6 rfl s6 g6 wf5 a5 a6
        obtain ⟨k5, rfl, hk5⟩ := a5.yes hkl4 htT
        obtain ⟨k6, rfl, hk6⟩ := a6.yes (Nat.lt_of_lt_of_le hkl4 a5.1.length_le) htT
        have hask := asks_law wf0 wf5 s6.wf (P4.out.trans a5.1) a6.1 HL.out hkl htT HKV.out hk5 hk6
        have heq : (((k5 : Int) != (k6 : Int)) == !decide (fixRow f track false = fixRow f track true)) = true := by
          by_cases e : k5 = k6
          · rw [decide_eq_true (hask.1 e), e]; simp
          · have hn : ¬ fixRow f track false = fixRow f track true := fun h => e (hask.2 h)
            have hne : ((k5 : Int) != (k6 : Int)) = true := by rw [bne_iff_ne]; exact fun h => e (Int.ofNat_inj.1 h)
            rw [decide_eq_false hn, hne]; rfl
        have HE := hide heq
        have l5 := a5.2.1
        have l6 := a6.2.1
        have P6 := hide (a5.1.trans a6.1)
        have wf6 := s6.wf
        -- the two rows are still there
        have o2'' := (o2'.grew s3 g4).grew s4 g6
        have o3'' := (o3.grew s3 g4).grew s4 g6
        have bnd := HV.out.2
        have K6 := hide ((K3.out.tr (g4.below F3.out)).tr (g6.below (g4.footB F3.out K3.out.size)))
        have F6 := hide (g6.footB (g4.footB F3.out K3.out.size) (K3.out.tr (g4.below F3.out)).size)
        clear hask heq a5 a6 hk5 hk6 o2' o3 g4 g6 s4 s3
        go_wp2_with fail
        refine sameInts (o2''.ints (fixRow_bounds bnd _ _)) (o3''.ints (fixRow_bounds bnd _ _)) ?_; rintro e w7 rfl k7
        have heq := HE.out
        generalize decide (fixRow f track false = fixRow f track true) = dd at heq
        have s7 := s6.same k7
        have F7 := hide (s6.foot k7 F6.out)
        have K7 := hide (K6.out.tr_same k7)
        clear s6 k7 o2'' o3''
        go_wp2_with fail
        refine cutAsks s7 b track (by omega) ?_; rintro e w8 r8 r9 L8 L9 rfl s9 g9 wf8 a8 a9
        have bl6 : b < L6.length := Nat.lt_of_lt_of_le bl4 P6.out.length_le
        obtain ⟨k8, rfl, hk8⟩ := a8.yes bl6 htT
        obtain ⟨k9, rfl, hk9⟩ := a9.yes (Nat.lt_of_lt_of_le bl6 a8.1.length_le) htT
        have e8 : k8 = b := fix_of_fixed wf4 wf8 (P6.out.trans a8.1) hkl4 B4.out hk8
        have e9 : k9 = b := fix_of_fixed wf4 s9.wf ((P6.out.trans a8.1).trans a9.1) hkl4 B4.out hk9
        subst e8
        subst e9
        rw [show ((k9 : Int) != (k9 : Int)) = false by simp]
        have l8 := a8.2.1
        have l9 := a9.2.1
        have P9 := hide ((P6.out.trans a8.1).trans a9.1)
        have K9 := hide (K7.out.tr (g9.below F7.out))
        have F9 := hide (g9.footB F7.out K7.out.size)
        clear heq a8 a9 hk8 hk9 g9 s7
        go_wp2_with fail
        refine cutFix s9 k9 track (!up) (by omega) ?_; rintro e w10 r10 L10 rfl s10 g10 a10
        obtain ⟨k10, rfl, hk10⟩ := a10.yes (Nat.lt_of_lt_of_le bl4 P9.out.length_le) htT
        have e10 : k10 = k9 := fix_of_fixed wf4 s10.wf (P9.out.trans a10.1) hkl4 B4.out hk10
        subst e10
        have hkk : ((k10 : Int) == (k10 : Int)) = true := by simp
        clear a10 hk10
        go_wp2_with fail
        refine known18 ?_; rintro e w11 rfl k11
        go_wp2_with fail
        exact HR.out _ _ rfl ((K9.out.tr (g10.below F9.out)).tr_same k11)
      · generalize hr : OfA T [] f = r0 at hk
        obtain ⟨L0, i0⟩ := r0
        simp only at hk
        subst hk
        have E0 := hide hr
        clear hr
        go_enter Try.func12, Try.ntmps12
        go_wp2_with fail
        refine of18 HV.out h6 HL.out ?_; rw [E0.out]; rintro e w1 s rfl s1 k1 f1
        simp only []
        go_wp2_with fail
        refine known18 ?_; rintro e w2 rfl k2
        go_wp2_with fail
        exact HR.out _ _ rfl (k1.tr_same k2)

set_option maxHeartbeats 2000000 in
theorem cutOrderWalk (t : Int) (v : Value) (f : List Int) (x y : Int) (up down : Bool) (w : World) (ht : InI64 t) (hv : IntsAt w v f) (_ : InI64 x) (_ : InI64 y) :
    Calls Try.prog 13 #[.int .i64 t, v, .int .i64 x, .int .i64 y, .bool up, .bool down] w fun e w' => e = .returned (.bool true) ∧ Below w.heap.size w w' := by
  refine law_of fun R HR => ?_
  by_cases h1 : t < 0 ∨ 6 < t ∨ f.length ≠ 2 ^ t.toNat
  · go_enter Try.func13, Try.ntmps13
    go_wp2_with fail
    refine of18Not hv ht h1 ?_; rintro e rfl
    go_wp2_with fail
    exact HR.out _ _ rfl (Keeps.refl _ _)
  · obtain ⟨T, rfl⟩ := Int.eq_ofNat_of_zero_le (show 0 ≤ t by omega)
    have h6 : T ≤ 6 := by omega
    have hl : f.length = 2 ^ T := by
      have : ¬ (f.length ≠ 2 ^ (T : Int).toNat) := fun h => h1 (.inr (.inr h))
      simpa using this
    have HL := hide hl
    have HLV := hide hv.lt
    have HV := hide hv
    clear h1 ht hl hv
    by_cases h2 : x < 0 ∨ T ≤ x ∨ y < 0 ∨ T ≤ y ∨ x = y
    · go_enter Try.func13, Try.ntmps13
      go_wp2_with fail
      refine of18 HV.out h6 HL.out ?_; rintro e w1 s rfl s1 k1 f1
      have K1 := hide k1
      clear k1 f1
      go_wp2_with fail
      all_goals first | exact HR.out _ _ rfl K1.out | (exfalso; simp_all; omega)
    · obtain ⟨x, rfl⟩ := Int.eq_ofNat_of_zero_le (show 0 ≤ x by omega)
      obtain ⟨y, rfl⟩ := Int.eq_ofNat_of_zero_le (show 0 ≤ y by omega)
      have hxT : x < T := by omega
      have hyT : y < T := by omega
      have hxy : x ≠ y := by omega
      have hxyb : ((x : Int) == (y : Int)) = false := by simp; omega
      have HXY := hide hxy
      clear h2 hxy
      rcases OfA_cases h6 HL.out with ⟨k, hk, hkl, hlen, _⟩ | hk
      · generalize hr : OfA T [] f = r0 at hk hkl hlen
        obtain ⟨L0, i0⟩ := r0
        simp only at hk hkl hlen
        subst hk
        have E0 := hide hr
        clear hr
        go_enter Try.func13, Try.ntmps13
        go_wp2_with fail
        refine of18 HV.out h6 HL.out ?_; rw [E0.out]; rintro e w1 s rfl s1 k1 f1
        simp only []
        have F1 := hide f1
        have K1 := hide k1
        have wf0 := s1.wf
        clear f1 k1
        go_wp2_with fail
        refine cutFix s1 k x up (by omega) ?_; rintro e w2 r2 L2 rfl s2 g2 a2
        obtain ⟨k2, rfl, hk2⟩ := a2.yes hkl hxT
        have wf2 := s2.wf
        have A2 := hide a2
        have X2 := hide hk2
        have l2 := a2.2.1
        have l2' := a2.1.length_le
        have t2 := hk2.lt
        clear a2 hk2
        go_wp2_with fail
        refine cutFix s2 k2 y down (by omega) ?_; rintro e w3 r3 L3 rfl s3 g3 a3
        obtain ⟨k3, rfl, hk3⟩ := a3.yes t2 hyT
        have wf3 := s3.wf
        have A3 := hide a3
        have X3 := hide hk3
        have l3 := a3.2.1
        have l3' := a3.1.length_le
        clear a3 hk3
        go_wp2_with fail
        refine cutFix s3 k y down (by omega) ?_; rintro e w4 r4 L4 rfl s4 g4 a4
        obtain ⟨k4, rfl, hk4⟩ := a4.yes (by omega) hyT
        have wf4 := s4.wf
        have A4 := hide a4
        have X4 := hide hk4
        have l4 := a4.2.1
        have l4' := a4.1.length_le
        have t4 := hk4.lt
        clear a4 hk4
        go_wp2_with fail
        refine cutFix s4 k4 x up (by omega) ?_; rintro e w5 r5 L5 rfl s5 g5 a5
        obtain ⟨k5, rfl, hk5⟩ := a5.yes t4 hxT
        have ee : k3 = k5 := fix_order (f := k) (p := up) (q := down) (L1 := L2) (L2 := L3) (L3 := L4) (L4 := L5) wf2 wf3 wf4 s5.wf A3.out.1 A4.out.1 a5.1 (by omega) HXY.out X2.out X3.out X4.out hk5
        subst ee
        have hkk : ((k3 : Int) == (k3 : Int)) = true := by simp
        clear a5 hk5
        have gg := hide (((g2.trans g3).trans g4).trans g5)
        clear g2 g3 g4 g5
        go_wp2_with fail
        refine known18 ?_; rintro e w6 rfl k6
        go_wp2_with fail
        exact HR.out _ _ rfl ((K1.out.tr (gg.out.below F1.out)).tr_same k6)
      · generalize hr : OfA T [] f = r0 at hk
        obtain ⟨L0, i0⟩ := r0
        simp only at hk
        subst hk
        have E0 := hide hr
        clear hr
        go_enter Try.func13, Try.ntmps13
        go_wp2_with fail
        refine of18 HV.out h6 HL.out ?_; rw [E0.out]; rintro e w1 s rfl s1 k1 f1
        simp only []
        go_wp2_with fail
        refine known18 ?_; rintro e w2 rfl k2
        go_wp2_with fail
        exact HR.out _ _ rfl (k1.tr_same k2)

end Go.Proofs.Ytonddhepndhgbaa
