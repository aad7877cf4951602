/- The walk of BddMakes. -/
import Derived.Test.YtonddhepndhgbaaLaw16b
namespace Go.Proofs.Ytonddhepndhgbaa
open Go.RowKit

variable {R : Ending → World → Prop} {w : World} {a T : Nat} {L : List Nd}

theorem leafA_get {v : Int} (hv : isVal v = true) {k : Nat} (hk : (leafA L v).2 = (k : Int)) : (leafA L v).1[k]? = some (.leaf v) := by
  have hv' : 0 ≤ v ∧ v ≤ 1099511627776 := by simpa [isVal] using hv
  have e : leafA L v = ((idOf L (.leaf v)).1, ((idOf L (.leaf v)).2 : Int)) := if_pos hv'
  rw [e] at hk ⊢
  have : (idOf L (.leaf v)).2 = k := Int.ofNat_inj.1 hk
  rw [← this]
  exact idOf_get

theorem get_prefix {L L' : List Nd} (h : L <+: L') {k : Nat} {n : Nd} (hk : L[k]? = some n) : L'[k]? = some n := by
  obtain ⟨M, rfl⟩ := h
  rw [List.getElem?_append_left (List.getElem?_eq_some_iff.1 hk).1]
  exact hk

theorem leaf_under {k : Nat} {v : Int} (hk : L[k]? = some (.leaf v)) (t : Nat) : Under L k t :=
  ⟨(List.getElem?_eq_some_iff.1 hk).1, fun u lo hi e => by rw [hk] at e; cases e⟩

theorem makes_law {a b c d : Int} (ha : isVal a = true) (hb : isVal b = true) (hc : isVal c = true) (hd : isVal d = true) {r1 r2 r3 r4 r5 r6 r7 : List Nd × Int}
    (e1 : leafA [] a = r1) (e2 : leafA r1.1 c = r2) (e3 : mkA 2 r2.1 1 r1.2 r2.2 = r3) (e4 : leafA r3.1 b = r4) (e5 : leafA r4.1 d = r5) (e6 : mkA 2 r5.1 1 r4.2 r5.2 = r6) (e7 : mkA 2 r6.1 0 r3.2 r6.2 = r7) :
    WF 2 r7.1 ∧ ∃ k : Nat, r7.2 = k ∧ k < r7.1.length ∧ ∀ x, x < 2 ^ 2 → val r7.1 k x = [a, b, c, d].getD x 0 := by
  obtain ⟨k1, m1, v1⟩ := leafA_made (WF.nil (T := 2) (by decide)) ha
  have g1 := leafA_get ha m1.num
  rw [e1] at m1 v1 g1
  obtain ⟨k2, m2, v2⟩ := leafA_made m1.wf hc
  have g2 := leafA_get hc m2.num
  rw [e2] at m2 v2 g2
  have g1' := get_prefix m2.pre g1
  obtain ⟨k3, m3, f3, v3⟩ := mkA_made m2.wf (show 1 < 2 by decide) (leaf_under g1' 1) (leaf_under g2 1)
  rw [← m1.num, ← m2.num, show ((1 : Nat) : Int) = 1 from rfl, e3] at m3 f3 v3
  obtain ⟨k4, m4, v4⟩ := leafA_made m3.wf hb
  have g4 := leafA_get hb m4.num
  rw [e4] at m4 v4 g4
  obtain ⟨k5, m5, v5⟩ := leafA_made m4.wf hd
  have g5 := leafA_get hd m5.num
  rw [e5] at m5 v5 g5
  have g4' := get_prefix m5.pre g4
  obtain ⟨k6, m6, f6, v6⟩ := mkA_made m5.wf (show 1 < 2 by decide) (leaf_under g4' 1) (leaf_under g5 1)
  rw [← m4.num, ← m5.num, show ((1 : Nat) : Int) = 1 from rfl, e6] at m6 f6 v6
  have p36 : r3.1 <+: r6.1 := (m4.pre.trans m5.pre).trans m6.pre
  have h36 : k3 < r6.1.length := Nat.lt_of_lt_of_le m3.lt p36.length_le
  obtain ⟨k7, m7, f7, v7⟩ := mkA_made m6.wf (show 0 < 2 by decide) ((f3.prefx p36 m3.lt).under h36) (f6.under m6.lt)
  rw [← m3.num, ← m6.num, show ((0 : Nat) : Int) = 0 from rfl, e7] at m7 f7 v7
  refine ⟨m7.wf, k7, m7.num, m7.lt, fun x hx => ?_⟩
  have w3 : ∀ x, val r6.1 k3 x = if x.testBit 1 then c else a := fun x => by
    rw [val_prefix m3.wf m6.wf p36 x k3 m3.lt, v3]
    split
    · exact val_leaf g2
    · exact val_leaf g1'
  have w6 : ∀ x, val r6.1 k6 x = if x.testBit 1 then d else b := fun x => by
    rw [v6]
    split
    · exact val_leaf g5
    · exact val_leaf g4'
  rw [v7]
  have : x = 0 ∨ x = 1 ∨ x = 2 ∨ x = 3 := by omega
  rcases this with rfl | rfl | rfl | rfl
  · rw [show Nat.testBit 0 0 = false by decide, if_neg (by decide), w3, show Nat.testBit 0 1 = false by decide]; rfl
  · rw [show Nat.testBit 1 0 = true by decide, if_pos rfl, w6, show Nat.testBit 1 1 = false by decide]; rfl
  · rw [show Nat.testBit 2 0 = false by decide, if_neg (by decide), w3, show Nat.testBit 2 1 = true by decide]; rfl
  · rw [show Nat.testBit 3 0 = true by decide, if_pos rfl, w6, show Nat.testBit 3 1 = true by decide]; rfl

set_option maxHeartbeats 2000000 in
theorem bddMakesWalk (a b c d : Int) (w : World) (_ : InI64 a) (_ : InI64 b) (_ : InI64 c) (_ : InI64 d) :
    Calls Try.prog 11 #[.int .i64 a, .int .i64 b, .int .i64 c, .int .i64 d] w fun e w' => e = .returned (.bool true) ∧ Below w.heap.size w w' := by
  refine law_of fun R HR => ?_
  by_cases h : (a < 0 ∨ b < 0 ∨ c < 0 ∨ d < 0 ∨ 1073741824 < a ∨ 1073741824 < b ∨ 1073741824 < c ∨ 1073741824 < d)
  · go_enter Try.func11, Try.ntmps11
    go_wp2_with fail
    all_goals first | exact HR.out _ _ rfl (Keeps.refl _ _) | (exfalso; omega)
  · have ha0 : 0 ≤ a := by omega
    have hb0 : 0 ≤ b := by omega
    have hc0 : 0 ≤ c := by omega
    have hd0 : 0 ≤ d := by omega
    have ha1 : a ≤ 1073741824 := by omega
    have hb1 : b ≤ 1073741824 := by omega
    have hc1 : c ≤ 1073741824 := by omega
    have hd1 : d ≤ 1073741824 := by omega
    clear h
    have va : isVal a = true := by simp [isVal]; omega
    have vb : isVal b = true := by simp [isVal]; omega
    have vc : isVal c = true := by simp [isVal]; omega
    have vd : isVal d = true := by simp [isVal]; omega
    generalize e1 : leafA [] a = r1
    generalize e2 : leafA r1.1 c = r2
    generalize e3 : mkA 2 r2.1 1 r1.2 r2.2 = r3
    generalize e4 : leafA r3.1 b = r4
    generalize e5 : leafA r4.1 d = r5
    generalize e6 : mkA 2 r5.1 1 r4.2 r5.2 = r6
    generalize e7 : mkA 2 r6.1 0 r3.2 r6.2 = r7
    have HM := hide (makes_law va vb vc vd e1 e2 e3 e4 e5 e6 e7)
    have l1 : r1.1.length ≤ 1 := by rw [← e1]; exact leafA_len [] a
    have l2 : r2.1.length ≤ r1.1.length + 1 := by rw [← e2]; exact leafA_len _ _
    have l3 : r3.1.length ≤ r2.1.length + 1 := by rw [← e3]; exact mkA_len _ _ _ _ _
    have l4 : r4.1.length ≤ r3.1.length + 1 := by rw [← e4]; exact leafA_len _ _
    have l5 : r5.1.length ≤ r4.1.length + 1 := by rw [← e5]; exact leafA_len _ _
    have l6 : r6.1.length ≤ r5.1.length + 1 := by rw [← e6]; exact mkA_len _ _ _ _ _
    have l7 : r7.1.length ≤ r6.1.length + 1 := by rw [← e7]; exact mkA_len _ _ _ _ _
    have E1 := hide e1
    have E2 := hide e2
    have E3 := hide e3
    have E4 := hide e4
    have E5 := hide e5
    have E6 := hide e6
    have E7 := hide e7
    have HV : Hid (∀ x ∈ [a, b, c, d], InI64 x) := hide (by intro x hx; simp at hx; unfold InI64; omega)
    clear e1 e2 e3 e4 e5 e6 e7 va vb vc vd
    go_enter Try.func11, Try.ntmps11
    go_wp2_with fail
    refine storeNew 2 (by decide) (by decide) ?_; rintro e w1 s rfl s1 k1 f1
    rw [show Int.toNat 2 = 2 from rfl] at s1
    have F1 := hide f1
    clear f1
    go_wp2_with fail
    refine storeLeaf s1 a (by decide) ?_; rw [E1.out]; rintro e w2 rfl s2 g2
    go_wp2_with fail
    refine storeLeaf s2 c (by omega) ?_; rw [E2.out]; rintro e w3 rfl s3 g3
    go_wp2_with fail
    refine storeMk s3 _ _ _ (by omega) ?_; rw [E3.out]; rintro e w4 rfl s4 g4
    go_wp2_with fail
    refine storeLeaf s4 b (by omega) ?_; rw [E4.out]; rintro e w5 rfl s5 g5
    go_wp2_with fail
    refine storeLeaf s5 d (by omega) ?_; rw [E5.out]; rintro e w6 rfl s6 g6
    go_wp2_with fail
    refine storeMk s6 _ _ _ (by omega) ?_; rw [E6.out]; rintro e w7 rfl s7 g7
    go_wp2_with fail
    refine storeMk s7 _ _ _ (by omega) ?_; rw [E7.out]; rintro e w8 rfl s8 g8
    obtain ⟨hwf, k, hk, hkl, hkv⟩ := HM.out
    rw [hk]
    have hk0 : (0 : Int) ≤ (k : Int) := by omega
    have HK := hide hkv
    clear hk hkv hwf
    have g28 := hide ((((((g2.trans g3).trans g4).trans g5).trans g6).trans g7).trans g8)
    clear g2 g3 g4 g5 g6 g7 g8 s2 s3 s4 s5 s6 s7
    go_wp2_with fail
    have iv := ints_of_block (heap_new w8 (.cells #[.int .i64 a, .int .i64 b, .int .i64 c, .int .i64 d] 3)) [a, b, c, d] rfl HV.out (n := 4) (c := 4) rfl (Nat.le_refl _) (by decide)
    have ka := (Keeps.refl (fun _ => True) w8).alloc (.cells #[.int .i64 a, .int .i64 b, .int .i64 c, .int .i64 d] 3)
    have sa := s8.same ka
    refine storeOfC sa iv (Apart.cells sa (heap_new _ _) (by decide) (by decide)) (by omega) ?_
    rw [OfA_have s8.wf rfl (by simp [isVal]; omega) hkl HK.out]
    rintro e w9 rfl s9 g9
    simp only []
    have hkk : ((k : Int) == (k : Int)) = true := by simp
    go_wp2_with fail
    refine storeRow s9 k ?_; rintro e w10 rv rfl o10 k10
    have hrow : rowA 2 r7.1 k = [a, b, c, d] := by
      unfold rowA
      rw [if_pos ⟨by omega, by omega⟩, Int.toNat_natCast]
      apply List.ext_getElem (by simp)
      intro i h1 h2
      simp only [List.getElem_map, List.getElem_range]
      rw [HK.out i (by simpa using h1)]
      simp [List.getD, List.getElem?_eq_getElem h2]
    rw [hrow] at o10
    have gall := (g28.out.trans (Grew.under s8 ka)).trans g9
    have kB : Keeps (· < w.heap.size) w w9 := k1.trans (gall.below F1.out) fun x _ hx => ⟨trivial, hx⟩
    have KB := hide kB
    clear kB gall hrow
    go_wp2_with fail
    have iv2 := ints_of_block (heap_new w10 (.cells #[.int .i64 a, .int .i64 b, .int .i64 c, .int .i64 d] 3)) [a, b, c, d] rfl HV.out (n := 4) (c := 4) rfl (Nat.le_refl _) (by decide)
    have ka2 := (Keeps.refl (fun _ => True) w10).alloc (.cells #[.int .i64 a, .int .i64 b, .int .i64 c, .int .i64 d] 3)
    refine sameInts ((o10.same ka2).ints HV.out) iv2 ?_; rintro e w11 rfl k11
    rw [show decide ([a, b, c, d] = [a, b, c, d]) = true from decide_eq_true rfl]
    go_wp2_with fail
    refine known16 ?_; rintro e w12 rfl k12
    go_wp2_with fail
    exact HR.out _ _ rfl (KB.out.tr_same (((k10.tr ka2).tr k11).tr k12))

end Go.Proofs.Ytonddhepndhgbaa
