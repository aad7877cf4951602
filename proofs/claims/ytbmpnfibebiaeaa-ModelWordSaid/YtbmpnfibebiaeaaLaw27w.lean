/- The walk of ModelWord. -/
import Derived.Test.YtbmpnfibebiaeaaKnown27
import Derived.Test.YtbmpnfibebiaeaaModWord
import Derived.Test.YtbmpnfibebiaeaaWord
import Derived.Test.YtbmpnfibebiaeaaTrim
import Derived.Test.YtbmpnfibebiaeaaLaw11c
import Derived.Test.YtbmpnfibebiaeaaRefShort
import Derived.Test.YtbmpnfibebiaeaaLaw21l
namespace Go.Proofs.Ytbmpnfibebiaeaa
open Go.RowKit

attribute [local irreducible] wpQuiet wpPlan wpPlanZ wpUp

variable {R : Ending → World → Prop} {w : World} {A : Au} {B d : Nat}

theorem decl_info : (Try.prog.info? 55).map (fun i => (i.zero, i.size, i.bytes)) = some (some (.agg #[.string ⟨#[]⟩, .int .i64 0, .int .i64 0]), 3, 32) := by kernel_rfl

/-- A made block of elements of three cells. -/
theorem made_tri {b n : Nat} {e : TypeId} {fr : Nat × Nat} {x y z : Value} (h : w.heap[b]? = some (.cells (madeCells (Value.cells (.agg #[x, y, z])) (n * 3)) e fr)) (hn : n ≤ maxLen) :
    TriAt w (.slice (some ⟨b, 0, none⟩) n n) (List.replicate n (x, y, z)) := by
  refine ⟨_, n, by simp, by simp, hn, .inr ⟨b, 0, _, _, _, rfl, h, fun i p hp => ?_⟩⟩
  obtain ⟨hi, rfl⟩ : i < n ∧ p = (x, y, z) := by
    rw [List.getElem?_replicate] at hp
    split at hp
    · exact ⟨‹_›, (Option.some.inj hp).symm⟩
    · cases hp
  have g : ∀ j, j < 3 → (madeCells (Value.cells (.agg #[x, y, z])) (n * 3))[0 + i * 3 + j]? = some (#[x, y, z][j]!) := by
    intro j hj
    have h1 : 0 + i * 3 + j < n * 3 := by omega
    have h2 : (i * 3 + j) % 3 = j := by omega
    simp [madeCells, Value.cells, show i * 3 + j < n * 3 by omega, h2]
  exact ⟨g 0 (by omega), g 1 (by omega), g 2 (by omega)⟩

theorem valsOf_sets (D : List Dl) (W : List Nat) : (valsOf D W).map (·.set) = decRows W D.length W.length 0 := by
  unfold valsOf
  rw [List.map_map]
  have := List.map_snd_zip (l₁ := D) (l₂ := decRows W D.length W.length 0) (by rw [decRows_len]; exact Nat.le_refl _)
  conv => rhs; rw [← this]
  rfl

theorem decRows_small27 (W : List Nat) (n : Nat) (hW : W.length ≤ 1000) : Small (decRows W n W.length 0) := by
  intro l hl x hx
  unfold decRows at hl
  obtain ⟨i, _, rfl⟩ := List.mem_map.1 hl
  rw [if_neg (by omega)] at hx
  have := posOf_bounds W i W.length x hx
  omega

theorem cutTo_id {n : Nat} {W : List Nat} (h : ∀ y ∈ W, y < 2 ^ n) : cutTo n W = W := by
  unfold cutTo
  conv => rhs; rw [← List.map_id W]
  exact List.map_congr_left fun y hy => Nat.mod_eq_of_lt (h y hy)

set_option maxRecDepth 10000 in
set_option maxHeartbeats 4000000 in
theorem modelWordWalk (va : Value) (A : Au) (vl : Value) (l : List Int) (w : World) (hA : AutoAt w va A) (hl : IntsAt w vl l) :
    Calls Try.prog 5 #[va, vl] w fun e w' => e = .returned (.bool true) ∧ Below w.heap.size w w' := by
  refine law_of fun R HR => ?_
  have HA := hide hA
  have HL := hide hl
  obtain ⟨xa, xn, rfl, hacc, hnext, _⟩ := hA
  obtain ⟨aa, ac', rfl, _, hac2, _⟩ := hacc.open
  obtain ⟨na, nc, rfl, _⟩ := hnext.open
  obtain ⟨la, lc, rfl, hlc1, hlc2, _⟩ := hl.open
  unfold maxLen at hlc2 hac2
  have hA1 := heap_new w (.cells #[.int .i64 A.T, .slice aa A.acc.length ac', .slice na A.next.length nc] 25)
  have kA : Same w (w.alloc (.cells #[.int .i64 A.T, .slice aa A.acc.length ac', .slice na A.next.length nc] 25)) := (Keeps.refl _ w).alloc _
  clear hl
  go_enter Try.func5, Try.ntmps5
  go_wp2_with fail
  generalize w.alloc (.cells #[.int .i64 A.T, .slice aa A.acc.length ac', .slice na A.next.length nc] 25) = wb at hA1 kA ⊢
  have BXA := hide hA1
  have HKB := hide kA
  generalize w.heap.size = xb at hA1 BXA ⊢
  clear hA1 kA hacc hnext
  refine may27 (HA.out.same HKB.out) ?_; rintro e w1 rfl k1
  cases hmA : mayB A with
  | false =>
    go_wp2_with fail
    exact HR.out _ _ rfl ((HKB.out.tr k1).mono fun _ _ _ => trivial)
  | true =>
  have HOK := hide (show AuOk A by unfold mayB at hmA; exact (of_decide_eq_true hmA).2.2)
  have hS := k1.at BXA.out trivial
  have HK1 := hide (HKB.out.tr k1)
  have q0 := cell_at hS 0; have q1 := cell_at hS 1; have q2 := cell_at hS 2; simp only [List.getElem?_toArray, List.getElem?_cons_zero, List.getElem?_cons_succ] at q0 q1 q2
  have BX1 := hide hS
  clear hmA hS k1
  by_cases hlen : 100 < l.length
  · go_wp2_with fail
    exact HR.out _ _ rfl (HK1.out.mono fun _ _ _ => trivial)
  obtain ⟨n, hn⟩ : ∃ n : Nat, A.T = (n : Int) := ⟨A.T.toNat, by have := HOK.out.1.1; omega⟩
  have hn6 : n ≤ 6 := by have := HOK.out.1.2.1; omega
  have HN := hide hn
  rw [hn] at q0
  obtain ⟨i0, hi0, hz0, hz1, hz2⟩ := info_parts decl_info
  have hmk := run_make (P := Try.prog) w1 26 55 i0 _ Try.underlying26 hi0 hz0 .i64 .i64 n n (by omega) (by omega) (by rw [hz2]; omega) (by omega)
  rw [hz1, Int.toNat_natCast] at hmk
  have hm1 : Same w1 (w1.alloc (.cells (madeCells (Value.cells (.agg #[.string ⟨#[]⟩, .int .i64 0, .int .i64 0])) (n * 3)) 55)) := (Keeps.refl _ w1).alloc _
  have hm2 : DeclsAt (w1.alloc (.cells (madeCells (Value.cells (.agg #[.string ⟨#[]⟩, .int .i64 0, .int .i64 0])) (n * 3)) 55)) (.slice (some ⟨w1.heap.size, 0, none⟩) n n) (List.replicate n ⟨⟨#[]⟩, 0, 0⟩) :=
    ⟨by rw [List.map_replicate]; exact made_tri (heap_new w1 _) (by unfold maxLen; omega), fun d hd => by rw [List.eq_of_mem_replicate hd]; exact ⟨by unfold InI64; decide, by unfold InI64; decide, by decide⟩⟩
  generalize w1.alloc (.cells (madeCells (Value.cells (.agg #[.string ⟨#[]⟩, .int .i64 0, .int .i64 0])) (n * 3)) 55) = wm at hmk hm1 hm2
  have HM1 := hide hm1
  have HM2 := hide hm2
  have s0 := Keeps.cell hm1 q0 trivial
  have s1 := Keeps.cell hm1 q1 trivial
  have s2 := Keeps.cell hm1 q2 trivial
  have HA2 : Hid (AutoAt w (.agg #[.int .i64 (n : Int), .slice aa A.acc.length ac', .slice na A.next.length nc]) A) := hide (by rw [← hn]; exact HA.out)
  have HKM := hide (HK1.out.tr hm1)
  have BXM := hide (hm1.at BX1.out trivial)
  clear hi0 hz0 hz1 hz2 hm1 hm2 hn
  go_wp2_with fail
  clear hmk
  generalize w1.heap.size = gm at HM2 ⊢
  refine of27 (HA2.out.same HKM.out) HOK.out ?_; rintro e w2 d2 rfl dd2 k2
  have HD2 := hide dd2
  have HK2 := hide (HKM.out.tr k2)
  have BX2 := hide (k2.at BXM.out trivial)
  have HV2 := hide (HM2.out.same k2)
  clear dd2 k2 q0 q1 q2 s0 s1 s2
  go_wp2_with fail
  by_cases hex : ∃ K, Dst A K 0
  · obtain ⟨K, hd⟩ := hex
    have HDS := hide hd
    have HGR := hide (greedy_spec HOK.out hd)
    have HLG := hide (least_greedy HOK.out hd)
    have HLE : Hid (accA A (runA A l) = true → K ≤ l.length) := hide (fun ha => by
      obtain ⟨_, h2, h3⟩ := acc_word HOK.out ha
      have h4 := can_run _ _ h2 h3
      rw [List.length_map] at h4
      rcases Nat.lt_or_ge l.length K with h | h
      · exact absurd h4 (hd.2 _ h)
      · exact h)
    have HKN := hide (hd.lt HOK.out HOK.out.1.2.2.1)
    have HK4 := hide HOK.out.1.2.2.2.1
    clear hd
    refine modelOf HD2.out HV2.out HDS.out (by rw [HN.out, List.length_replicate]) ?_; rintro e w3 u3 rfl v3 k3
    have HV3 := hide v3
    obtain ⟨ua, uc, _, rfl, _, hu2, _⟩ := v3.open
    rw [valsOf_length, List.length_replicate] at HV3 ⊢
    have HK3 := hide (HK2.out.tr k3)
    have hS := k3.at BX2.out trivial
    have BX3 := hide hS
    have q0 := cell_at hS 0; have q1 := cell_at hS 1; have q2 := cell_at hS 2; simp only [List.getElem?_toArray, List.getElem?_cons_zero, List.getElem?_cons_succ] at q0 q1 q2
    clear v3 k3 hS
    go_wp2_with fail
    refine refRun (HA.out.same HK3.out) HOK.out (HL.out.same HK3.out) ?_; rintro e w4 rfl k4
    have HK4 := hide (HK3.out.tr k4)
    have BX4 := hide (k4.at BX3.out trivial)
    have HV4 := hide (HV3.out.same k4)
    clear q0 q1 q2 k4
    generalize hac : accA A (runA A l) = ac at HLE ⊢
    generalize runA A l = r1 at hac ⊢
    clear hac
    generalize greedy A K 0 = W at HGR HLG HV4
    have HWl : Hid (W.length = K) := hide HGR.out.2.1
    have hK400 : K ≤ 400 := by have := HKN.out; have := HOK.out.1.2.2.2.1; omega
    have HWI : Hid (cutTo n W = W) := hide (cutTo_id fun y hy => by have := HGR.out.1 y hy; rwa [HN.out, Int.toNat_natCast] at this)
    have HSM := hide (decRows_small27 W n (by rw [HWl.out]; omega))
    go_wp2_with fail
    refine modelWordG (P1 := fun x y w5 => ∃ (X : List Nat) (b : Nat), x = .slice (some ⟨b, 0, none⟩) X.length X.length ∧ y = .bool true ∧ Letters (decRows W n W.length 0) X ∧ IntsAt w5 x (X.map Int.ofNat) ∧ Same w4 w5) HV4.out (by rw [valsOf_length, List.length_replicate]; omega) ?_ ?_
    · intro w5 u R1 hrw hs hR1
      rw [valsOf_sets, List.length_replicate] at hrw
      refine wordEncode hrw HSM.out (by rw [decRows_len]; exact hn6) fun e w6 b X he hL hX _ k => hR1 e w6 _ _ he ⟨X, b, rfl, rfl, hL, hX.ints hL.2.1 rfl (Nat.le_refl _) ?_, hs.tr k⟩
      have hXb : (X.length : Int) ≤ 1000 := by rw [hL.1]; exact (bnd_bounds (fun x hx => by obtain ⟨l, hl, hxl⟩ := List.mem_flatten.1 hx; exact HSM.out l hl x hxl)).2
      unfold maxLen; omega
    rintro e w5 x y rfl ⟨X, b, rfl, rfl, hL, hX, k5⟩
    have HX := hide hX
    have HEQ : Hid (X.map Int.ofNat = trim (W.map Int.ofNat)) := hide (by rw [letters_again hn6 hL, HWI.out])
    have HK5 := hide (HK4.out.tr k5)
    have hS := k5.at BX4.out trivial
    have BX5 := hide hS
    have q0 := cell_at hS 0; have q1 := cell_at hS 1; have q2 := cell_at hS 2; simp only [List.getElem?_toArray, List.getElem?_cons_zero, List.getElem?_cons_succ] at q0 q1 q2
    clear hL hX k5 hS
    go_wp2_with fail
    refine refShortest (HA.out.same HK5.out) HOK.out ?_ ?_
    · rintro e w6 u6 x6 rfl lw6 i6 k6
      obtain rfl := lw6.uniq HLG.out
      obtain ⟨xa6, xc6, rfl, _, hc6, _⟩ := i6.open
      unfold maxLen at hc6
      have HI6 := hide i6
      rw [List.length_map, HWl.out] at HI6 ⊢
      have HX6 := hide (HX.out.same k6)
      have HK6 := hide (HK5.out.tr k6)
      clear lw6 i6 k6 q0 q1 q2
      go_wp2_with fail
      refine refTrim HI6.out (by rw [List.length_map, HWl.out]; omega) ?_; rintro e w7 u7 rfl o7 k7
      have HI7 := hide (o7.ints (trim_bounds HI6.out.2))
      have HX7 := hide (HX6.out.same k7)
      have HK7 := hide (HK6.out.tr k7)
      clear o7 k7
      go_wp2_with fail
      refine sameInts HX7.out HI7.out ?_; rintro e w8 rfl k8
      rw [show decide (X.map Int.ofNat = trim (x6.map Int.ofNat)) = true by rw [HEQ.out]; simp]
      have HK8 := hide (HK7.out.tr k8)
      clear k8
      cases ac with
      | false =>
        go_wp2_with fail
        refine known27 ?_; rintro e w9 rfl k9
        have HK9 := hide (HK8.out.tr k9)
        clear k9
        go_wp2_with fail
        exact HR.out _ _ rfl (HK9.out.mono fun _ _ _ => trivial)
      | true =>
        have hkl := HLE.out rfl
        go_wp2_with fail
        refine known27 ?_; rintro e w9 rfl k9
        have HK9 := hide (HK8.out.tr k9)
        clear k9
        go_wp2_with fail
        exact HR.out _ _ rfl (HK9.out.mono fun _ _ _ => trivial)
    · rintro e w6 rfl hno k6
      have := hno W HGR.out.1
      rw [HGR.out.2.2.1] at this
      cases this
  · have HEX := hide hex
    have HF : Hid (accA A (runA A l) = false) := hide (by
      cases h : accA A (runA A l) with
      | false => rfl
      | true =>
        obtain ⟨_, h2, h3⟩ := acc_word HOK.out h
        exact absurd (Dst.of_can (can_run _ _ h2 h3)) hex)
    clear hex
    refine modelOfNot HD2.out HV2.out (.inl HEX.out) ?_; rintro e w3 rfl k3
    have HK3 := hide (HK2.out.tr k3)
    have hS := k3.at BX2.out trivial
    have q0 := cell_at hS 0; have q1 := cell_at hS 1; have q2 := cell_at hS 2; simp only [List.getElem?_toArray, List.getElem?_cons_zero, List.getElem?_cons_succ] at q0 q1 q2
    clear k3 hS
    go_wp2_with fail
    refine refRun (HA.out.same HK3.out) HOK.out (HL.out.same HK3.out) ?_; rintro e w4 rfl k4
    rw [HF.out]
    generalize runA A l = r1
    have HK4 := hide (HK3.out.tr k4)
    clear q0 q1 q2 k4
    go_wp2_with fail
    refine known27 ?_; rintro e w5 rfl k5
    have HK5 := hide (HK4.out.tr k5)
    clear k5
    go_wp2_with fail
    exact HR.out _ _ rfl (HK5.out.mono fun _ _ _ => trivial)

end Go.Proofs.Ytbmpnfibebiaeaa
