/- The walk of BddShared. -/
import Derived.Test.YtameihkcajceeaaSortI
import Derived.Test.YtameihkcajceeaaShared
import Derived.Test.YtameihkcajceeaaLaw16
import Derived.Test.YtameihkcajceeaaRun19
namespace Go.Proofs.Ytameihkcajceeaa
open Go.RowKit

attribute [local irreducible] wpQuiet

variable {R : Ending → World → Prop} {w : World} {t : Nat} {a b : Int}

theorem all_bounds16 {row : List Int} (h : row.all isVal = true) : ∀ x ∈ row, InI64 x := fun x hx => by
  have := List.all_eq_true.1 h x hx
  simp [isVal] at this
  unfold InI64; omega

theorem oneRow_succ (t : Nat) (a b : Int) (m : Nat) : oneRow t a b (m + 1) = oneRow t a b m ++ [if m.testBit t then b else a] := by
  unfold oneRow; rw [List.range_succ, List.map_append]; rfl

theorem oneRow_mem {T : Nat} (ht : t < T) : (∀ x ∈ oneRow t a b (2 ^ T), x = a ∨ x = b) ∧ a ∈ oneRow t a b (2 ^ T) ∧ b ∈ oneRow t a b (2 ^ T) := by
  refine ⟨fun x hx => ?_, List.mem_map.2 ⟨0, List.mem_range.2 (Nat.pow_pos (by decide)), by simp⟩, List.mem_map.2 ⟨2 ^ t, List.mem_range.2 (Nat.pow_lt_pow_right (by decide) ht), by simp⟩⟩
  obtain ⟨i, _, rfl⟩ := List.mem_map.1 hx
  split
  · exact .inr rfl
  · exact .inl rfl

theorem leaves_two {T : Nat} (ht : t < T) (hab : a ≠ b) : (Lib.compact ((oneRow t a b (2 ^ T)).mergeSort leI)).length = 2 := by
  obtain ⟨h1, h2, h3⟩ := oneRow_mem (a := a) (b := b) ht
  refine compact_row a b hab _ _ (List.mergeSort_perm _ _) ?_ h1 h2 h3
  exact List.pairwise_mergeSort (le := leI) (fun x y z h1 h2 => by simp [leI] at *; omega) (fun x y => by simp [leI]; omega) _

set_option maxRecDepth 10000 in
set_option maxHeartbeats 1000000 in
theorem bddSharedWalk (T t a b : Int) (w : World) (hTi : InI64 T) (hti : InI64 t) (hai : InI64 a) (hbi : InI64 b) :
    Calls Try.prog 13 #[.int .i64 T, .int .i64 t, .int .i64 a, .int .i64 b] w fun e w' => e = .returned (.bool true) ∧ Below w.heap.size w w' := by
  refine law_of fun R HR => ?_
  unfold InI64 at hTi hti hai hbi
  by_cases hyes : 1 ≤ T ∧ T ≤ 6 ∧ 0 ≤ t ∧ t < T ∧ 0 ≤ a ∧ a ≤ 1000 ∧ 0 ≤ b ∧ b ≤ 1000 ∧ a ≠ b
  case neg =>
    by_cases h1 : T < 1
    · clear hyes
      go_enter Try.func13, Try.ntmps13
      go_wp2_with fail
      exact HR.out _ _ rfl (Keeps.refl _ _)
    by_cases h2 : 6 < T
    · clear hyes
      go_enter Try.func13, Try.ntmps13
      go_wp2_with fail
      exact HR.out _ _ rfl (Keeps.refl _ _)
    by_cases h3 : t < 0
    · clear hyes
      go_enter Try.func13, Try.ntmps13
      go_wp2_with fail
      exact HR.out _ _ rfl (Keeps.refl _ _)
    by_cases h4 : T ≤ t
    · clear hyes
      go_enter Try.func13, Try.ntmps13
      go_wp2_with fail
      exact HR.out _ _ rfl (Keeps.refl _ _)
    by_cases h5 : a < 0
    · clear hyes
      go_enter Try.func13, Try.ntmps13
      go_wp2_with fail
      exact HR.out _ _ rfl (Keeps.refl _ _)
    by_cases h6 : b < 0
    · clear hyes
      go_enter Try.func13, Try.ntmps13
      go_wp2_with fail
      exact HR.out _ _ rfl (Keeps.refl _ _)
    by_cases h7 : 1000 < a
    · clear hyes
      go_enter Try.func13, Try.ntmps13
      go_wp2_with fail
      exact HR.out _ _ rfl (Keeps.refl _ _)
    by_cases h8 : 1000 < b
    · clear hyes
      go_enter Try.func13, Try.ntmps13
      go_wp2_with fail
      exact HR.out _ _ rfl (Keeps.refl _ _)
    have h9 : a = b := by omega
    subst h9
    have hee : (a == a) = true := by simp
    clear hyes
    go_enter Try.func13, Try.ntmps13
    go_wp2_with fail
    exact HR.out _ _ rfl (Keeps.refl _ _)
  obtain ⟨g1, g2, g3, g4, g5, g6, g7, g8, g9⟩ := hyes
  obtain ⟨T, rfl⟩ := Int.eq_ofNat_of_zero_le (show 0 ≤ T by omega)
  obtain ⟨t, rfl⟩ := Int.eq_ofNat_of_zero_le g3
  have hne : (a == b) = false := by simpa using g9
  have HTT : Hid (T ≤ 6 ∧ t < T) := hide (by omega)
  have HG := hide (And.intro g1 g2)
  have hva : isVal a = true := by simp [isVal]; omega
  have hvb : isVal b = true := by simp [isVal]; omega
  have HV := hide (And.intro hva (And.intro hvb g9))
  have HOF := hide (ofA_one HTT.out.1 HTT.out.2 hva hvb g9 T 0 (by omega) (by omega))
  have hOf : OfA T [] (oneRow t a b (2 ^ T)) = ([.leaf a, .leaf b, .fork t 0 1], 2) := by
    unfold OfA
    rw [if_pos ⟨oneRow_len t a b _, oneRow_all hva hvb⟩, HOF.out]
  have HO := hide hOf
  have HLV := hide (leaves_two (a := a) (b := b) HTT.out.2 g9)
  have hsh := shl_u64 HTT.out.1
  have hw2 := wrap_two HTT.out.1
  have h64 := two_le HTT.out.1
  have HBT : Hid (∀ m : Nat, m < 64 → (bits .and .i64 ((m : Int) / 2 ^ t) 1 == 1) = m.testBit t) := hide fun m hm => bit_test m t (by omega)
  have HL : Hid (∀ m, (oneRow t a b m).length = m) := hide fun m => oneRow_len t a b m
  have HP := hide (rfl : 2 ^ T = 2 ^ T)
  clear hva hvb hOf g9 hai hbi HOF
  obtain ⟨B0, hB0⟩ : ∃ B0, B0 = w.heap.size := ⟨_, rfl⟩
  have HB0 := hide hB0
  clear hB0
  go_enter Try.func13, Try.ntmps13
  go_wp2_with fail
  refine storeNew (T : Int) (by have := HG.out; omega) HG.out.2 ?_; rintro e w1 s rfl s1 k1 f1
  rw [Int.toNat_natCast] at s1
  obtain ⟨B, hBs⟩ : ∃ B, B = w1.heap.size := ⟨_, rfl⟩
  have HBS := hide hBs
  have S1 := hide s1
  have F1 := hide f1
  have K1 := hide k1
  clear s1 f1 k1 hBs g1 g2 g4 g5 g6 g7 g8 hne hTi hti
  go_wp2_with fail
  obtain ⟨p, hpp⟩ : ∃ p, p = 2 ^ T := ⟨_, rfl⟩
  rw [← hpp] at hsh h64 hw2
  have HPP := hide hpp
  clear hpp
  go_loopw [10, 11] (fun u i wr => ∃ m : Nat, i = .int .i64 m ∧ m ≤ p ∧ OwnInts wr B u (oneRow t a b m) ∧ Same w1 wr) (fun _ i _ => p - (intOf i).toNat)
  case atStart => exact ⟨0, rfl, Nat.zero_le _, World.ownsRow_nil _ _ _ _, Keeps.refl _ _⟩
  case round =>
    obtain ⟨m, rfl, hm, hu, hK⟩ := hrel
    by_cases hlt : m < p
    · have hbt := HBT.out m (by omega)
      have hsn := oneRow_succ t a b m
      obtain ⟨ua, uc, rfl⟩ := hu.shape
      have main : ∀ z : Int, (if m.testBit t then b else a) = z → ∃ gg cap1 w2, (Builtin.append_ #[40, 40] 40 #[.slice ua (oneRow t a b m).length uc, .slice (some ⟨wr.heap.size, 0, none⟩) 1 1]).run Try.prog (wr.alloc (.cells #[.int .i64 z] 3)) = .ok (.slice (some ⟨gg, 0, none⟩) ((oneRow t a b m).length + 1) cap1) w2 ∧
          OwnInts w2 B (.slice (some ⟨gg, 0, none⟩) ((oneRow t a b m).length + 1) cap1) (oneRow t a b (m + 1)) ∧ Same w1 w2 := fun z hz => by
        obtain ⟨gg, cap1, w2, hr, hown2, hk2, hg, _⟩ := append_one (P := Try.prog) wr 40 40 3 Try.underlying40 int_info rfl hu (by rw [HBS.out]; exact hK.size) (.int .i64 z) rfl (by rw [HL.out]; omega) (by decide)
        refine ⟨gg, cap1, w2, hr, ?_, hK.trans hk2 fun y hy _ => ⟨trivial, fun e => ?_⟩⟩
        · unfold OwnInts
          rw [hsn, hz]
          simpa using hown2
        · have := (hu.lt y e).1
          rw [HBS.out] at this; omega
      rw [HL.out] at main ⊢
      clear hu hK hsn
      cases hb : m.testBit t with
      | true =>
        rw [hb] at hbt
        obtain ⟨gg, cap1, w2, hr, ho2, hk2⟩ := main b (by rw [hb]; rfl)
        have HF := hide (And.intro ho2 hk2)
        clear ho2 hk2 main hb
        go_wp2_with (at_builtin; refine wpList_append_run rfl _ _ _ rfl rfl rfl hr ?_; clear hr)
        go_roundw
        case rel => exact ⟨m + 1, by go_num, by omega, HF.out.1, HF.out.2⟩
        case measure => simp [intOf]; omega
      | false =>
        rw [hb] at hbt
        obtain ⟨gg, cap1, w2, hr, ho2, hk2⟩ := main a (by rw [hb]; rfl)
        have HF := hide (And.intro ho2 hk2)
        clear ho2 hk2 main hb
        go_wp2_with (at_builtin; refine wpList_append_run rfl _ _ _ rfl rfl rfl hr ?_; clear hr)
        go_roundw
        case rel => exact ⟨m + 1, by go_num, by omega, HF.out.1, HF.out.2⟩
        case measure => simp [intOf]; omega
    · obtain rfl : m = p := by omega
      have hmp := HPP.out
      subst hmp
      have s2 := S1.out.same hK
      have F2 := hide (S1.out.foot hK F1.out)
      have hbd := all_bounds16 (oneRow_all (t := t) (m := 2 ^ T) HV.out.1 HV.out.2.1)
      have HI := hide (hu.ints hbd)
      have HAP := hide (hu.apart s2)
      have HK2 := hide (K1.out.tr hK)
      obtain ⟨ua, uc, rfl⟩ := hu.shape
      rw [HL.out] at HI HAP ⊢
      clear hu hK hbd
      go_wp2_with fail
      refine storeOfC s2 HI.out HAP.out (by decide) ?_; rw [HO.out]; rintro e w3 rfl s3 g3
      have HK3 : Hid (Keeps (· < w.heap.size) w w3) := hide (HK2.out.trans (g3.below F2.out) fun z _ hz => ⟨trivial, hz⟩)
      have wf3 := wf_3 HTT.out.1 HTT.out.2 HV.out.1 HV.out.2.1 HV.out.2.2
      have hrow : rowA T [.leaf a, .leaf b, .fork t 0 1] (2 : Int) = oneRow t a b (2 ^ T) := by
        unfold rowA
        rw [if_pos ⟨by decide, by simp⟩]
        refine row_ext (by simp [oneRow]) fun z hz => ?_
        have hz' : z < 2 ^ T := by simpa using hz
        rw [oneRow_get hz', List.getD_eq_getElem?_getD, List.getElem?_map, List.getElem?_range hz', Option.map_some, Option.getD_some]
        show val _ 2 z = _
        rw [val_fork wf3 (t := t) (lo := 0) (hi := 1) rfl]
        split
        · exact val_leaf rfl
        · exact val_leaf rfl
      have htr : trackA [.leaf a, .leaf b, .fork t 0 1] (2 : Int) = (t : Int) := by
        unfold trackA
        rw [if_pos ⟨by decide, by simp⟩]
        rfl
      have HROW := hide hrow
      have HTR := hide htr
      clear g3 s2 wf3 hrow htr
      simp only [] at s3 ⊢
      go_wp2_with fail
      refine storeLen s3 ?_; rintro e rfl
      rw [show (([.leaf a, .leaf b, .fork t 0 1] : List Nd).length : Int) = 3 from rfl]
      go_wp2_with fail
      refine storeTrack s3 2 ?_; rw [HTR.out]; rintro e w4 rfl k4
      have htt : ((t : Int) == (t : Int)) = true := by simp
      have s4 := s3.same k4
      have HK4 := hide (HK3.out.tr_same k4)
      clear s3 k4
      go_wp2_with fail
      refine storeLeaves s4 2 ?_; rw [HROW.out, HLV.out]; rintro e w5 sa sc rfl k5
      have HK5 := hide (HK4.out.tr_same k5)
      clear s4 k5
      go_wp2_with fail
      refine known16 ?_; rintro e w6 rfl k6
      go_wp2_with fail
      exact HR.out _ _ rfl (HK5.out.tr_same k6)

end Go.Proofs.Ytameihkcajceeaa
