/- The walks of cut.Halves, sibylref18.Halves, sibyllaw18.is, CutFixes. -/
import Derived.Test.YtgpbjjnfccalbaaLaw17b
import Derived.Test.YtgpbjjnfccalbaaLaw18
namespace Go.Proofs.Ytgpbjjnfccalbaa
open Go.RowKit

attribute [local irreducible] wpQuiet wpPlan wpUp

variable {R : Ending → World → Prop} {w : World} {a T : Nat} {L : List Nd}

theorem is18Yes {u : Value} {row : List Int} {j : Nat} (h : StoreAt w a T L) (hu : IntsAt w u row) (hap : Apart w a u) (hj : j < L.length) (hl : row.length = 2 ^ T) (hv : ∀ c, c < 2 ^ T → val L j c = row.getD c 0) (hb : L.length + 128 ≤ 1099511627776)
    (hR : ∀ e w', e = .returned (.bool true) → StoreAt w' a T L → Grew a w w' → R e w') :
    Calls Try.prog 48 #[.pointer (some ⟨a, 0, none⟩), .int .i64 j, u, .bool true] w R := by
  have HR := hide hR
  clear hR
  have hrow := row_of hj hl hv
  have hall := row_valid h.wf hj hl hv
  have hof := OfA_have h.wf hl hall hj hv
  have HU := hide hu
  have HAP := hide hap
  have HB := hide (all_bounds hall)
  obtain ⟨v0, m0, e0, _⟩ := id h.st
  have HE := hide e0
  obtain ⟨ua, uc, rfl, hc1, hc2, _⟩ := hu.open
  unfold maxLen at hc2
  clear hu hap hv hl hall e0
  go_enter Try.func48, Try.ntmps48
  go_wp2_with fail
  refine storeRow h j ?_; rintro e w1 v1 rfl o1 k1
  rw [hrow] at o1
  have HO := hide (o1.ints HB.out)
  obtain ⟨oa, oc, rfl⟩ := o1.shape
  go_wp2_with fail
  refine sameInts HO.out (HU.out.same k1) ?_; rintro e w2 rfl k2
  rw [show decide (row = row) = true by simp]
  have HK := hide (k1.tr k2)
  clear k1 k2 o1
  go_wp2_with fail
  refine storeOfC (h.same HK.out) (HU.out.same HK.out) (HAP.out.same HE.out HK.out) hb ?_; rw [hof]; rintro e w3 rfl s3 g3
  have hjj : ((j : Int) == (j : Int)) = true := by simp
  have HF := hide (HR.out _ w3 rfl s3 ((Grew.under h HK.out).trans g3))
  clear s3 g3 hof
  go_wp2_with fail
  exact HF.out

theorem is18No {u : Value} (hR : ∀ e, e = .returned (.bool true) → R e w) :
    Calls Try.prog 48 #[.pointer (some ⟨a, 0, none⟩), .int .i64 (-1), u, .bool false] w R := by
  have HR := hide hR
  clear hR
  go_enter Try.func48, Try.ntmps48
  go_wp2_with fail
  exact HR.out _ rfl


theorem fixRow_get {f : List Int} {t : Nat} {up : Bool} {c : Nat} (hl : f.length = 2 ^ T) (hc : c < 2 ^ T) : (fixRow f t up).getD c 0 = f.getD (setB c t up) 0 := by
  unfold fixRow
  rw [List.getD_eq_getElem?_getD, List.getElem?_map, List.getElem?_range (by omega)]
  rfl

theorem fixRow_all {f : List Int} (hf : f.all isVal = true) (t : Nat) (up : Bool) : (fixRow f t up).all isVal = true := by
  rw [List.all_eq_true]
  intro x hx
  obtain ⟨i, _, rfl⟩ := List.mem_map.1 hx
  rw [List.getD_eq_getElem?_getD]
  cases h : f[setB i t up]? with
  | none => decide
  | some y => exact List.all_eq_true.1 hf y (List.mem_of_getElem? h)

theorem fixRow_len (f : List Int) (t : Nat) (up : Bool) : (fixRow f t up).length = f.length := by simp [fixRow]

theorem wrap_pow {t : Nat} (h : t ≤ 20) : wrap64 ((2 : Int) ^ t) = ((2 ^ t : Nat) : Int) := by
  have h2 : 2 ^ t ≤ 2 ^ 20 := Nat.pow_le_pow_right (by decide) h
  have e : ((2 : Int) ^ t) = ((2 ^ t : Nat) : Int) := by simp
  rw [e]
  generalize 2 ^ t = p at h2
  exact IntWalk.wrap64_in _ (by omega)

/-- The reference's Fix, where the track is none. -/
theorem refFixNot {f : List Int} {v : Value} (hv : IntsAt w v f) (h6 : T ≤ 6) (hl : f.length = 2 ^ T) (t : Int) (ht : t < 0 ∨ (T : Int) ≤ t) (hti : InI64 t) (up : Bool)
    (hR : ∀ e, e = .returned (.tuple #[.slice none 0 0, .bool false]) → R e w) :
    Calls Try.prog 46 #[v, .int .i64 t, .bool up] w R := by
  have HR := hide hR
  clear hR
  obtain ⟨va, vc, rfl, hc1, hc2, _⟩ := hv.open
  unfold maxLen at hc2
  unfold InI64 at hti
  have h64 := two_le h6
  clear hv
  rcases ht with ht | ht
  · go_enter Try.func46, Try.ntmps46
    go_wp2_with fail
    exact HR.out _ rfl
  · obtain ⟨t, rfl⟩ := Int.eq_ofNat_of_zero_le (show 0 ≤ t by omega)
    by_cases h20 : t ≤ 20
    · have hmin : min (t : Int) 20 = (t : Int) := by omega
      have hm64 : min t 64 = t := by omega
      have hw2 := wrap_pow (t := t) (by omega)
      have hle : f.length ≤ 2 ^ t := by rw [hl]; exact Nat.pow_le_pow_right (by decide) (by omega)
      clear hl ht
      generalize 2 ^ t = p at hw2 hle
      go_enter Try.func46, Try.ntmps46
      go_wp2_with fail
      exact HR.out _ rfl
    · have hmin : min (t : Int) 20 = 20 := by omega
      have hle : f.length ≤ 64 := by rw [hl]; exact h64
      have hwl : wrap64 1048576 = 1048576 := IntWalk.wrap64_in _ (by decide)
      clear hl h64 ht
      go_enter Try.func46, Try.ntmps46
      go_wp2_with fail
      exact HR.out _ rfl

set_option maxRecDepth 10000 in
set_option maxHeartbeats 1000000 in
theorem refHalvesNot {f : List Int} {v : Value} (hv : IntsAt w v f) (h6 : T ≤ 6) (hl : f.length = 2 ^ T) (t k : Int) (ht : t < 0 ∨ (T : Int) ≤ t) (hti : InI64 t)
    (hR : ∀ e, e = .returned (.tuple #[.slice none 0 0, .bool false]) → R e w) :
    Calls Try.prog 47 #[v, .int .i64 t, .int .i64 k] w R := by
  have HR := hide hR
  have HV := hide hv
  have HL := hide hl
  obtain ⟨va, vc, rfl, hc1, hc2, _⟩ := hv.open
  clear hR hv hl
  go_enter Try.func47, Try.ntmps47
  go_wp2_with fail
  refine refFixNot HV.out h6 HL.out t ht hti _ ?_; rintro e rfl
  go_wp2_with fail
  refine refFixNot HV.out h6 HL.out t ht hti _ ?_; rintro e rfl
  go_wp2_with fail
  exact HR.out _ rfl

set_option maxRecDepth 10000 in
set_option maxHeartbeats 1000000 in
theorem refHalves {f : List Int} {v : Value} (hv : IntsAt w v f) (h6 : T ≤ 6) (hl : f.length = 2 ^ T) (hfv : f.all isVal = true) (t : Nat) (ht : t < T) (k : Int) (hk1 : 1 ≤ k) (hk2 : k ≤ 1048576)
    (hR : ∀ e w' x ok, e = .returned (.tuple #[x, .bool ok]) → RefG (bothG k) (fixRow f t false) (fixRow f t true) w' w.heap.size x ok → Same w w' → R e w') :
    Calls Try.prog 47 #[v, .int .i64 t, .int .i64 k] w R := by
  have HR := hide hR
  have HV := hide hv
  have HL := hide hl
  have H64 : Hid (0 < f.length ∧ f.length ≤ 64) := hide ⟨by rw [hl]; exact Nat.pow_pos (by decide), by rw [hl]; exact two_le h6⟩
  have HB1 := hide (all_bounds (fixRow_all hfv t false))
  have HB2 := hide (all_bounds (fixRow_all hfv t true))
  obtain ⟨va, vc, rfl, hc1, hc2, _⟩ := hv.open
  clear hR hv hl
  go_enter Try.func47, Try.ntmps47
  go_wp2_with fail
  refine refFix HV.out h6 HL.out t ht false ?_; rintro e w1 u1 rfl o1 k1
  obtain ⟨a1, c1, rfl⟩ := o1.shape
  have O1 := hide o1
  have K1 := hide k1
  clear o1 k1
  go_wp2_with fail
  refine refFix (HV.out.same K1.out) h6 HL.out t ht true ?_; rintro e w2 u2 rfl o2 k2
  obtain ⟨a2, c2, rfl⟩ := o2.shape
  have I1 := hide ((O1.out.same k2).ints HB1.out)
  have I2 := hide (o2.ints HB2.out)
  have K2 := hide (K1.out.tr k2)
  clear o2 k2
  go_wp2_with fail
  refine refBoth I1.out I2.out (fixRow_all hfv t false) (fixRow_all hfv t true) (by rw [fixRow_len, fixRow_len]) (by rw [fixRow_len]; exact H64.out.1) (by rw [fixRow_len]; exact H64.out.2) hk1 hk2 ?_; rintro e w3 x ok rfl r3 k3
  have hr : RefG (bothG k) (fixRow f t false) (fixRow f t true) w3 w.heap.size x ok := by
    rcases r3 with ⟨h1, h2, h3⟩ | h
    · exact .inl ⟨h1, h2, ownsRow_below h3 K2.out.size⟩
    · exact .inr h
  have HF := hide (HR.out _ w3 x ok rfl hr (K2.out.tr k3))
  clear r3 k3 hr
  go_wp2_with fail
  exact HF.out

set_option maxRecDepth 10000 in
set_option maxHeartbeats 1000000 in
theorem refHalvesK {f : List Int} {v : Value} (hv : IntsAt w v f) (h6 : T ≤ 6) (hl : f.length = 2 ^ T) (hfv : f.all isVal = true) (t : Nat) (ht : t < T) (k : Int) (hk : k < 1 ∨ 1048576 < k)
    (hR : ∀ e w', e = .returned (.tuple #[.slice none 0 0, .bool false]) → Same w w' → R e w') :
    Calls Try.prog 47 #[v, .int .i64 t, .int .i64 k] w R := by
  have HR := hide hR
  have HV := hide hv
  have HL := hide hl
  have H64 : Hid (0 < f.length ∧ f.length ≤ 64) := hide ⟨by rw [hl]; exact Nat.pow_pos (by decide), by rw [hl]; exact two_le h6⟩
  have HB1 := hide (all_bounds (fixRow_all hfv t false))
  have HB2 := hide (all_bounds (fixRow_all hfv t true))
  have HK := hide hk
  obtain ⟨va, vc, rfl, hc1, hc2, _⟩ := hv.open
  clear hR hv hk hl
  go_enter Try.func47, Try.ntmps47
  go_wp2_with fail
  refine refFix HV.out h6 HL.out t ht false ?_; rintro e w1 u1 rfl o1 k1
  obtain ⟨a1, c1, rfl⟩ := o1.shape
  have O1 := hide o1
  have K1 := hide k1
  clear o1 k1
  go_wp2_with fail
  refine refFix (HV.out.same K1.out) h6 HL.out t ht true ?_; rintro e w2 u2 rfl o2 k2
  obtain ⟨a2, c2, rfl⟩ := o2.shape
  have I1 := hide ((O1.out.same k2).ints HB1.out)
  have I2 := hide (o2.ints HB2.out)
  have K2 := hide (K1.out.tr k2)
  clear o2 k2
  go_wp2_with fail
  refine refBothNot I1.out I2.out (by rw [fixRow_len, fixRow_len]) (by rw [fixRow_len]; exact H64.out.1) HK.out ?_; rintro e rfl
  go_wp2_with fail
  exact HR.out _ _ rfl K2.out

set_option maxRecDepth 10000 in
set_option maxHeartbeats 1000000 in
theorem cutHalves (h : StoreAt w a T L) (f t k : Int) (hb : L.length + 400 ≤ 1099511627776)
    (hR : ∀ e w' r r1 r2 L1 L2 L', e = .returned (.int .i64 r) → StoreAt w' a T L' → Grew a w w' → WF T L1 → WF T L2 → FixAns L L1 T f t false r1 → FixAns L1 L2 T f t true r2 → BothAns L2 L' r1 r2 k r → R e w') :
    Calls Try.prog 49 #[.pointer (some ⟨a, 0, none⟩), .int .i64 f, .int .i64 t, .int .i64 k] w R := by
  have HR := hide hR
  clear hR
  go_enter Try.func49, Try.ntmps49
  go_wp2_with fail
  refine cutFix h f t false (by omega) ?_; rintro e w1 r1 L1 rfl s1 g1 a1
  have A1 := hide a1
  have G1 := hide g1
  have wf1 := s1.wf
  have hl1 := a1.2.1
  clear a1 g1
  go_wp2_with fail
  refine cutFix s1 f t true (by omega) ?_; rintro e w2 r2 L2 rfl s2 g2 a2
  have A2 := hide a2
  have G2 := hide g2
  have wf2 := s2.wf
  have hl2 := a2.2.1
  clear a2 g2
  go_wp2_with fail
  refine pairBoth s2 r1 r2 k (by omega) ?_; rintro e w3 r3 L3 rfl s3 g3 a3
  have HF := hide (HR.out _ w3 r3 r1 r2 L1 L2 L3 rfl s3 ((G1.out.trans G2.out).trans g3) wf1 wf2 A1.out A2.out a3)
  clear a3 g3 s3
  go_wp2_with fail
  exact HF.out

/-- The node and the reference's row agree, or there is neither. -/
theorem is18Go {u : Value} {r : Int} {ok : Bool} {B : Nat} (h : StoreAt w a T L) (hb : L.length + 128 ≤ 1099511627776)
    (hc : (ok = true ∧ ∃ (j : Nat) (row : List Int), r = j ∧ j < L.length ∧ row.length = 2 ^ T ∧ OwnInts w B u row ∧ ∀ c, c < 2 ^ T → val L j c = row.getD c 0) ∨ (ok = false ∧ r = -1 ∧ u = .slice none 0 0))
    (hR : ∀ e w', e = .returned (.bool true) → StoreAt w' a T L → Grew a w w' → R e w') :
    Calls Try.prog 48 #[.pointer (some ⟨a, 0, none⟩), .int .i64 r, u, .bool ok] w R := by
  rcases hc with ⟨rfl, j, row, rfl, hj, hrl, ho, hv⟩ | ⟨rfl, rfl, rfl⟩
  · exact is18Yes h (ho.ints (all_bounds (row_valid h.wf hj hrl hv))) (ho.apart h) hj hrl hv hb hR
  · exact is18No fun e he => hR e w he h (Grew.refl _ _)

theorem fixOk_row {f : List Int} {x t j : Nat} {up : Bool} (hl : f.length = 2 ^ T) (ht : t < T) (hk : FixOk L x t up j) (hv : ∀ c, c < 2 ^ T → val L x c = f.getD c 0) : ∀ c, c < 2 ^ T → val L j c = (fixRow f t up).getD c 0 := fun c hc => by
  rw [hk.val, hv _ (setB_lt hc ht _), fixRow_get hl hc]

set_option maxRecDepth 10000 in
set_option maxHeartbeats 1000000 in
theorem cutFixesWalk (t : Int) (v : Value) (f : List Int) (track : Int) (up : Bool) (k : Int) (w : World) (ht : InI64 t) (hv : IntsAt w v f) (htr : InI64 track) (_ : InI64 k) :
    Calls Try.prog 11 #[.int .i64 t, v, .int .i64 track, .bool up, .int .i64 k] w fun e w' => e = .returned (.bool true) ∧ Below w.heap.size w w' := by
  refine law_of fun R HR => ?_
  by_cases h1 : t < 0 ∨ 6 < t ∨ f.length ≠ 2 ^ t.toNat
  · go_enter Try.func11, Try.ntmps11
    go_wp2_with fail
    refine of18Not hv ht h1 ?_; rintro e rfl
    go_wp2_with fail
    exact HR.out _ _ rfl (Keeps.refl _ _)
  obtain ⟨T, rfl⟩ := Int.eq_ofNat_of_zero_le (show 0 ≤ t by omega)
  have h6 : T ≤ 6 := by omega
  have hl : f.length = 2 ^ T := by
    have : ¬ (f.length ≠ 2 ^ (T : Int).toNat) := fun h => h1 (.inr (.inr h))
    simpa using this
  have HL := hide hl
  have HLV := hide hv.lt
  have HV := hide hv
  have HTR := hide htr
  have H6 := hide h6
  have hcs := of_one h6 f hl
  clear h1 ht hl hv htr h6
  rcases hcs with ⟨x, L1, e1, wf1, hx, n1, hfv, vx⟩ | e1
  · have E1 := hide e1
    have HFV := hide hfv
    have HVX := hide vx
    have N1 := hide n1
    clear e1 hfv vx n1
    -- the two answers of the reference, whichever they are
    have ref : ∀ (w1 : World) (R1 : Ending → World → Prop), IntsAt w1 v f → (∀ e w' u ok, e = .returned (.tuple #[u, .bool ok]) → ((ok = true ∧ ∃ tn : Nat, track = tn ∧ tn < T ∧ OwnInts w' w1.heap.size u (fixRow f tn up)) ∨ (ok = false ∧ u = .slice none 0 0 ∧ ¬ (0 ≤ track ∧ track < T))) → Same w1 w' → R1 e w') →
        Calls Try.prog 46 #[v, .int .i64 track, .bool up] w1 R1 := fun w1 R1 hv1 hR1 => by
      by_cases hc : 0 ≤ track ∧ track < T
      · obtain ⟨tn, rfl⟩ := Int.eq_ofNat_of_zero_le hc.1
        have htn : tn < T := by omega
        exact refFix hv1 H6.out HL.out tn htn up fun e w' u he ho hk => hR1 e w' u true he (.inl ⟨rfl, tn, rfl, htn, ho⟩) hk
      · exact refFixNot hv1 H6.out HL.out track (by omega) HTR.out up fun e he => hR1 e w1 _ false he (.inr ⟨rfl, rfl, hc⟩) (Keeps.refl _ _)
    have ref2 : ∀ (w1 : World) (R1 : Ending → World → Prop), IntsAt w1 v f → (∀ e w' u ok, e = .returned (.tuple #[u, .bool ok]) → ((∃ tn : Nat, track = tn ∧ tn < T ∧ 1 ≤ k ∧ k ≤ 1048576 ∧ RefG (bothG k) (fixRow f tn false) (fixRow f tn true) w' w1.heap.size u ok) ∨ (ok = false ∧ u = .slice none 0 0 ∧ ¬ (0 ≤ track ∧ track < T ∧ 1 ≤ k ∧ k ≤ 1048576))) → Same w1 w' → R1 e w') →
        Calls Try.prog 47 #[v, .int .i64 track, .int .i64 k] w1 R1 := fun w1 R1 hv1 hR1 => by
      by_cases hc : 0 ≤ track ∧ track < T
      · obtain ⟨tn, rfl⟩ := Int.eq_ofNat_of_zero_le hc.1
        have htn : tn < T := by omega
        by_cases hk : 1 ≤ k ∧ k ≤ 1048576
        · exact refHalves hv1 H6.out HL.out HFV.out tn htn k hk.1 hk.2 fun e w' u ok he hr hk' => hR1 e w' u ok he (.inl ⟨tn, rfl, htn, hk.1, hk.2, hr⟩) hk'
        · exact refHalvesK hv1 H6.out HL.out HFV.out tn htn k (by omega) fun e w' he hk' => hR1 e w' _ false he (.inr ⟨rfl, rfl, fun h => hk ⟨h.2.2.1, h.2.2.2⟩⟩) hk'
      · exact refHalvesNot hv1 H6.out HL.out track k (by omega) HTR.out fun e he => hR1 e w1 _ false he (.inr ⟨rfl, rfl, fun h => hc ⟨h.1, h.2.1⟩⟩) (Keeps.refl _ _)
    have REF := hide ref
    have REF2 := hide ref2
    clear ref ref2
    go_enter Try.func11, Try.ntmps11
    go_wp2_with fail
    refine of18 HV.out H6.out HL.out ?_; rw [E1.out]; rintro e w1 s rfl s1 k1 f1
    simp only [] at s1 ⊢
    have F1 := hide f1
    have K1 := hide k1
    clear f1 k1
    go_wp2_with fail
    refine REF.out _ _ (HV.out.keep K1.out HLV.out) ?_; rintro e w2 u2 ok2 rfl r2 k2
    have K2 := hide (K1.out.tr_same k2)
    have s2 := s1.same k2
    have F2 := hide (s1.foot k2 F1.out)
    have HR2 := hide r2
    clear k2 s1 r2
    go_wp2_with fail
    refine REF2.out _ _ (HV.out.keep K2.out HLV.out) ?_; rintro e w3 u3 ok3 rfl r3 k3
    have K3 := hide (K2.out.tr_same k3)
    have s3 := s2.same k3
    have F3 := hide (s2.foot k3 F2.out)
    have R2 : Hid ((ok2 = true ∧ ∃ tn : Nat, track = tn ∧ tn < T ∧ OwnInts w3 w1.heap.size u2 (fixRow f tn up)) ∨ (ok2 = false ∧ u2 = .slice none 0 0 ∧ ¬ (0 ≤ track ∧ track < T))) := hide (HR2.out.imp (fun ⟨a, tn, b, c, d⟩ => ⟨a, tn, b, c, d.same k3⟩) id)
    have R3 := hide r3
    clear k3 s2 r3
    go_wp2_with fail
    refine cutFix s3 x track up (by have := N1.out; omega) ?_; rintro e w4 r4 L4 rfl s4 g4 a4
    have wf4 := s4.wf
    have wf3 := s3.wf
    have K4 := hide (K3.out.tr (g4.below F3.out))
    have F4 := hide (g4.footB F3.out K3.out.size)
    have hcase4 : (ok2 = true ∧ ∃ (j : Nat) (row : List Int), r4 = j ∧ j < L4.length ∧ row.length = 2 ^ T ∧ OwnInts w4 w1.heap.size u2 row ∧ ∀ c, c < 2 ^ T → val L4 j c = row.getD c 0) ∨ (ok2 = false ∧ r4 = -1 ∧ u2 = .slice none 0 0) := by
      rcases R2.out with ⟨h1, tn, rfl, htn, ho⟩ | ⟨h1, h2, h3⟩
      · obtain ⟨j, rfl, hj⟩ := a4.yes hx htn
        exact .inl ⟨h1, j, _, rfl, hj.lt, by rw [fixRow_len, HL.out], ho.grew s3 g4, fixOk_row HL.out htn hj fun c hc => (val_prefix wf3 wf4 a4.1 c x hx).trans (HVX.out c hc)⟩
      · obtain ⟨rfl, _⟩ := a4.no (fun h => h3 ⟨h.2.2.1, h.2.2.2⟩)
        exact .inr ⟨h1, rfl, h2⟩
    have R34 : Hid ((∃ tn : Nat, track = tn ∧ tn < T ∧ 1 ≤ k ∧ k ≤ 1048576 ∧ RefG (bothG k) (fixRow f tn false) (fixRow f tn true) w4 w2.heap.size u3 ok3) ∨ (ok3 = false ∧ u3 = .slice none 0 0 ∧ ¬ (0 ≤ track ∧ track < T ∧ 1 ≤ k ∧ k ≤ 1048576))) := hide (R3.out.imp (fun ⟨tn, a, b, c, d, r⟩ => ⟨tn, a, b, c, d, r.imp (fun ⟨p, q, o⟩ => ⟨p, q, o.grew s3 g4⟩) id⟩) id)
    have N4 : Hid (L4.length ≤ 200) := hide (by have := a4.2.1; have := N1.out; omega)
    have HX4 : Hid (x < L4.length ∧ ∀ c, c < 2 ^ T → val L4 x c = f.getD c 0) := hide ⟨Nat.lt_of_lt_of_le hx a4.1.length_le, fun c hc => (val_prefix wf3 wf4 a4.1 c x hx).trans (HVX.out c hc)⟩
    have C4 := hide hcase4
    obtain ⟨ua2, un2, uc2, hu2⟩ : ∃ a n c, u2 = .slice a n c := by
      rcases hcase4 with ⟨_, _, _, _, _, _, ho, _⟩ | ⟨_, _, h⟩
      · obtain ⟨a, c, e⟩ := ho.shape; exact ⟨a, _, c, e⟩
      · exact ⟨_, _, _, h⟩
    obtain ⟨ua3, un3, uc3, hu3⟩ : ∃ a n c, u3 = .slice a n c := by
      rcases R34.out with ⟨_, _, _, _, _, ⟨_, _, ho⟩ | ⟨_, h, _⟩⟩ | ⟨_, h, _⟩
      · obtain ⟨a, c, e⟩ := ho.shape; exact ⟨a, _, c, e⟩
      · exact ⟨_, _, _, h⟩
      · exact ⟨_, _, _, h⟩
    subst hu2
    subst hu3
    clear a4 g4 s3 hcase4 wf3 wf4
    go_wp2_with fail
    refine is18Go s4 (by have := N4.out; omega) C4.out ?_; rintro e w5 rfl s5 g5
    have K5 := hide (K4.out.tr (g5.below F4.out))
    have F5 := hide (g5.footB F4.out K4.out.size)
    have R35 : Hid ((∃ tn : Nat, track = tn ∧ tn < T ∧ 1 ≤ k ∧ k ≤ 1048576 ∧ RefG (bothG k) (fixRow f tn false) (fixRow f tn true) w5 w2.heap.size (.slice ua3 un3 uc3) ok3) ∨ (ok3 = false ∧ (.slice ua3 un3 uc3 : Value) = .slice none 0 0 ∧ ¬ (0 ≤ track ∧ track < T ∧ 1 ≤ k ∧ k ≤ 1048576))) := hide (R34.out.imp (fun ⟨tn, a, b, c, d, r⟩ => ⟨tn, a, b, c, d, r.imp (fun ⟨p, q, o⟩ => ⟨p, q, o.grew s4 g5⟩) id⟩) id)
    clear s4 g5
    go_wp2_with fail
    refine cutHalves s5 x track k (by have := N4.out; omega) ?_; rintro e w6 r6 r1 r2 La Lb L6 rfl s6 g6 wfa wfb aa ab a6
    have wf5 := s5.wf
    have wf6 := s6.wf
    have K6 := hide (K5.out.tr (g6.below F5.out))
    have F6 := hide (g6.footB F5.out K5.out.size)
    have N6 : Hid (L6.length ≤ 600) := hide (by have := aa.2.1; have := ab.2.1; have := a6.2.1; have := N4.out; omega)
    have hcase6 : (ok3 = true ∧ ∃ (j : Nat) (row : List Int), r6 = j ∧ j < L6.length ∧ row.length = 2 ^ T ∧ OwnInts w6 w2.heap.size (.slice ua3 un3 uc3) row ∧ ∀ c, c < 2 ^ T → val L6 j c = row.getD c 0) ∨ (ok3 = false ∧ r6 = -1 ∧ (.slice ua3 un3 uc3 : Value) = .slice none 0 0) := by
      rcases R35.out with ⟨tn, rfl, htn, hk1, hk2, hr⟩ | ⟨h1, h2, h3⟩
      · obtain ⟨ja, rfl, hja⟩ := aa.yes HX4.out.1 htn
        have hxa : x < La.length := Nat.lt_of_lt_of_le HX4.out.1 aa.1.length_le
        obtain ⟨jb, rfl, hjb⟩ := ab.yes hxa htn
        have hjab : ja < Lb.length := Nat.lt_of_lt_of_le hja.lt ab.1.length_le
        have va : ∀ c, c < 2 ^ T → val La x c = f.getD c 0 := fun c hc => (val_prefix wf5 wfa aa.1 c x HX4.out.1).trans (HX4.out.2 c hc)
        have vb : ∀ c, c < 2 ^ T → val Lb x c = f.getD c 0 := fun c hc => (val_prefix wfa wfb ab.1 c x hxa).trans (va c hc)
        have v6a : ∀ c, c < 2 ^ T → val L6 ja c = (fixRow f tn false).getD c 0 := fun c hc => by
          rw [val_prefix wfb wf6 a6.1 c ja hjab, val_prefix wfa wfb ab.1 c ja hja.lt]
          exact fixOk_row HL.out htn hja va c hc
        have v6b : ∀ c, c < 2 ^ T → val L6 jb c = (fixRow f tn true).getD c 0 := fun c hc => by
          rw [val_prefix wfb wf6 a6.1 c jb hjb.lt]
          exact fixOk_row HL.out htn hjb vb c hc
        have hr6 : RefG (bothG k) (fixRow f tn false) (fixRow f tn true) w6 w2.heap.size (.slice ua3 un3 uc3) ok3 := hr.imp (fun ⟨p, q, o⟩ => ⟨p, q, o.grew s5 g6⟩) id
        exact pair_ref wf6 v6a v6b (by rw [fixRow_len, HL.out]) (a6.yes hjab hjb.lt hk1 hk2) hr6
      · refine .inr ⟨h1, ?_, h2⟩
        by_cases hc : 0 ≤ track ∧ track < T
        · have hk : ¬ (1 ≤ k ∧ k ≤ 1048576) := fun h => h3 ⟨hc.1, hc.2, h.1, h.2⟩
          exact (a6.no (fun h => hk ⟨h.2.2.2.2.1, h.2.2.2.2.2⟩)).1
        · obtain ⟨rfl, rfl⟩ := aa.no (fun h => hc ⟨h.2.2.1, h.2.2.2⟩)
          exact (a6.no (fun h => by have := h.1; omega)).1
    have C6 := hide hcase6
    clear s5 g6 aa ab a6 hcase6 wf5 wf6 wfa wfb
    go_wp2_with fail
    refine is18Go s6 (by have := N6.out; omega) C6.out ?_; rintro e w7 rfl s7 g7
    have K7 := hide (K6.out.tr (g7.below F6.out))
    clear s6 g7 s7
    go_wp2_with fail
    refine known18 ?_; rintro e w8 rfl k8
    go_wp2_with fail
    exact HR.out _ _ rfl (K7.out.tr_same k8)
  · have E1 := hide e1
    clear e1
    go_enter Try.func11, Try.ntmps11
    go_wp2_with fail
    refine of18 HV.out H6.out HL.out ?_; rw [E1.out]; rintro e w1 s rfl s1 k1 f1
    simp only [] at s1 ⊢
    have F1 := hide f1
    have K1 := hide k1
    clear f1 k1
    go_wp2_with fail
    refine cutFix s1 (-1) track up (by decide) ?_; rintro e w4 r4 L4 rfl s4 g4 a4
    obtain ⟨rfl, rfl⟩ := a4.no (by omega)
    have K4 := hide (K1.out.tr (g4.below F1.out))
    clear a4 g4
    go_wp2_with fail
    refine known18 ?_; rintro e w8 rfl k8
    go_wp2_with fail
    exact HR.out _ _ rfl (K4.out.tr_same k8)

end Go.Proofs.Ytgpbjjnfccalbaa
