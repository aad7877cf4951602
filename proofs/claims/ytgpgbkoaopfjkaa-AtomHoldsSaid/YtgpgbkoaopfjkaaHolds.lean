/- The walks of sibylref12.sing, holds. -/
import Derived.Test.YtgpgbkoaopfjkaaMasks
import Derived.Test.YtgpgbkoaopfjkaaRef25d
namespace Go.Proofs.Ytgpgbkoaopfjkaa
open Go.RowKit

attribute [local irreducible] wpQuiet wpPlan wpPlanZ wpUp
set_option linter.unusedVariables false

variable {R : Ending → World → Prop} {w : World}

theorem i64_andNot_nat (a b : Nat) (ha : a < 65536) (hb : b < 65536) : bits .andNot .i64 (a : Int) (b : Int) = ((andN a b : Nat) : Int) := by
  have hx : andN a b < 2 ^ 63 := Nat.lt_of_lt_of_le (Nat.xor_lt_two_pow (n := 16) ha (Nat.and_lt_two_pow _ hb)) (by decide)
  show IntKind.i64.wrap ((BitVec.ofInt 64 (a : Int) &&& ~~~BitVec.ofInt 64 (b : Int)).toNat : Int) = _
  have e : (BitVec.ofInt 64 (a : Int) &&& ~~~BitVec.ofInt 64 (b : Int)).toNat = andN a b := by
    apply Nat.eq_of_testBit_eq
    intro k
    rw [andN_bit, BitVec.toNat_and, Nat.testBit_and, ofInt_i64 a (by omega)]
    by_cases hk : k < 64
    · congr 1
      rw [BitVec.testBit_toNat, BitVec.getLsbD_not, ← BitVec.testBit_toNat, ofInt_i64 b (by omega)]
      simp [hk]
    · have : a.testBit k = false := Nat.testBit_lt_two_pow (Nat.lt_of_lt_of_le ha (Nat.pow_le_pow_right (n := 2) (by decide) (show 16 ≤ k by omega)))
      rw [this]; simp
  rw [e, IntKind.wrap_i64]
  omega

theorem bit_zero (a : Nat) (ha : a < 65536) : (bits .and .i64 (a : Int) 1 == 1) = a.testBit 0 := by
  have h := bit_test a 0 (by omega)
  simpa using h

set_option maxHeartbeats 1000000 in
theorem refSing {v : Nat} (hv : v < 65536) (hR : ∀ e w', e = .returned (.bool (decide (0 < v ∧ v &&& (v - 1) = 0))) → Same w w' → R e w') :
    Calls Try.prog 69 #[.int .i64 (v : Int)] w R := by
  have HR := hide hR
  clear hR
  by_cases h0 : v = 0
  · subst h0
    go_enter Try.func69, Try.ntmps69
    go_wp2_with fail
    exact HR.out _ _ rfl (Keeps.refl _ _)
  have HAND : Hid (bits .and .i64 (v : Int) ((v : Int) - 1) = ((v &&& (v - 1) : Nat) : Int)) := hide (by
    rw [show ((v : Int) - 1) = ((v - 1 : Nat) : Int) by omega]
    exact i64_and_nat v (v - 1) (by omega) (by omega))
  go_enter Try.func69, Try.ntmps69
  go_wp2_with fail
  rw [HAND.out]
  refine HR.out _ _ (ret_bool ?_) (Keeps.refl _ _)
  rw [Bool.eq_iff_iff, beq_iff_eq, decide_eq_true_eq]
  constructor
  · intro h; exact ⟨by omega, by omega⟩
  · rintro ⟨_, h⟩; omega

theorem int_beq (a b : Nat) : ((a : Int) == (b : Int)) = decide (a = b) := by
  cases h : decide (a = b) with
  | true => rw [of_decide_eq_true h]; simp
  | false => rw [beq_eq_false_iff_ne]; have := of_decide_eq_false h; omega

theorem two20 {N : Nat} (h : N ≤ 20) : 0 < 2 ^ N ∧ 2 ^ N ≤ 1048576 := by
  have h2 := Nat.pow_le_pow_right (n := 2) (by decide) h
  exact ⟨Nat.pow_pos (by decide), h2⟩

theorem wrap_two20 {N : Nat} (h : N ≤ 20) : wrap64 ((2 : Int) ^ N) = ((2 ^ N : Nat) : Int) := by
  have h1 := two20 h
  rw [show ((2 : Int) ^ N) = ((2 ^ N : Nat) : Int) by simp]
  generalize 2 ^ N = q at h1
  exact IntWalk.wrap64_in _ ⟨by omega, by omega⟩

theorem wrap_shl {x N : Nat} (hx : x < 65536) (h : N ≤ 20) : wrap64 ((x : Int) * 2 ^ N) = ((x * 2 ^ N : Nat) : Int) := by
  have h1 := two20 h
  rw [show ((2 : Int) ^ N) = ((2 ^ N : Nat) : Int) by simp]
  generalize 2 ^ N = q at h1
  have h2 : x * q ≤ 65536 * 1048576 := Nat.mul_le_mul (by omega) h1.2
  rw [← Int.natCast_mul]
  generalize x * q = p at h2
  exact IntWalk.wrap64_in _ ⟨by omega, by omega⟩

set_option maxRecDepth 10000 in
set_option maxHeartbeats 4000000 in
theorem holdsIn_tru {A B C N n x y z sb soff sc : Nat} {ka : Option Addr} {kc : Nat} (hN : N ≤ 20) (hA : A < n) (hB : B < n) (hC : C < n) (hx : x < 65536) (hy : y < 65536) (hz : z < 65536) (hn : n ≤ 6)
    (cx : w.cell? ⟨sb, soff + A, none⟩ = some (.int .i64 (x : Int))) (cy : w.cell? ⟨sb, soff + B, none⟩ = some (.int .i64 (y : Int))) (cz : w.cell? ⟨sb, soff + C, none⟩ = some (.int .i64 (z : Int)))
    (hR : ∀ e w', e = .returned (.bool (holdsO .tru N x y z)) → Same w w' → R e w') :
    Calls Try.prog 35 #[.agg #[.string (AOp.name .tru), .int .i64 (A : Int), .int .i64 (B : Int), .int .i64 (C : Int), .int .i64 (N : Int), .slice ka 0 kc], .slice (some ⟨sb, soff, none⟩) n sc, .int .i64 0] w R := by
  have HR := hide hR
  clear hR
  have hk1 : Same w (w.alloc (.cells #[.string (AOp.name .tru), .int .i64 (A : Int), .int .i64 (B : Int), .int .i64 (C : Int), .int .i64 (N : Int), .slice ka 0 kc] 24)) := (Keeps.refl _ w).alloc _
  have hb1 := heap_new w (.cells #[.string (AOp.name .tru), .int .i64 (A : Int), .int .i64 (B : Int), .int .i64 (C : Int), .int .i64 (N : Int), .slice ka 0 kc] 24)
  have q0 := cell_at hb1 0; have q1 := cell_at hb1 1; have q2 := cell_at hb1 2; have q3 := cell_at hb1 3; have q4 := cell_at hb1 4
  simp only [List.getElem?_toArray, List.getElem?_cons_zero, List.getElem?_cons_succ] at q0 q1 q2 q3 q4
  have cx := Keeps.cell hk1 cx trivial; have cy := Keeps.cell hk1 cy trivial; have cz := Keeps.cell hk1 cz trivial
  have HK1 := hide hk1
  clear hk1 hb1
  unfold AOp.name at q0 q1 q2 q3 q4 cx cy cz HK1 ⊢
  go_enter Try.func35, Try.ntmps35
  go_wp2_with fail
  generalize w.alloc (.cells #[.string ⟨#[116, 114, 117, 101]⟩, .int .i64 (A : Int), .int .i64 (B : Int), .int .i64 (C : Int), .int .i64 (N : Int), .slice ka 0 kc] 24) = w1 at HK1 q0 q1 q2 q3 q4 cx cy cz ⊢
  generalize w.heap.size = xc at q0 q1 q2 q3 q4 ⊢
  refine wp_region_same (by kernel_rfl) (by kernel_rfl) ?_
  iterate 18
    (apply wpQuiet_step
     intro K hK
     first
       | (apply quiet_skip
          case hw => rfl
          go_simp
          refine hK _ ?_; clear hK K)
       | (apply quiet_do
          case hw => rfl
          case h =>
            intro w' hw'
            (have z1 := Keeps.cell hw' q1 trivial; have z2 := Keeps.cell hw' q2 trivial; have z3 := Keeps.cell hw' q3 trivial; have y1 := Keeps.cell hw' cx trivial; have y2 := Keeps.cell hw' cy trivial; have y3 := Keeps.cell hw' cz trivial)
            go_simp
            first | exact rfl | (fail)
          go_simp
          refine hK _ ?_; clear hK K))
  apply wpQuiet_nil
  intro w2 k2
  have q0 := Keeps.cell k2 q0 trivial; have q4 := Keeps.cell k2 q4 trivial
  have HK2 := hide (HK1.out.tr k2)
  clear k2 q1 q2 q3 cx cy cz
  go_wp2_with fail
  exact HR.out _ _ rfl HK2.out

set_option maxRecDepth 10000 in
set_option maxHeartbeats 4000000 in
theorem holdsIn_sub {A B C N n x y z sb soff sc : Nat} {ka : Option Addr} {kc : Nat} (hN : N ≤ 20) (hA : A < n) (hB : B < n) (hC : C < n) (hx : x < 65536) (hy : y < 65536) (hz : z < 65536) (hn : n ≤ 6)
    (cx : w.cell? ⟨sb, soff + A, none⟩ = some (.int .i64 (x : Int))) (cy : w.cell? ⟨sb, soff + B, none⟩ = some (.int .i64 (y : Int))) (cz : w.cell? ⟨sb, soff + C, none⟩ = some (.int .i64 (z : Int)))
    (hR : ∀ e w', e = .returned (.bool (holdsO .sub N x y z)) → Same w w' → R e w') :
    Calls Try.prog 35 #[.agg #[.string (AOp.name .sub), .int .i64 (A : Int), .int .i64 (B : Int), .int .i64 (C : Int), .int .i64 (N : Int), .slice ka 0 kc], .slice (some ⟨sb, soff, none⟩) n sc, .int .i64 0] w R := by
  have HR := hide hR
  clear hR
  have hk1 : Same w (w.alloc (.cells #[.string (AOp.name .sub), .int .i64 (A : Int), .int .i64 (B : Int), .int .i64 (C : Int), .int .i64 (N : Int), .slice ka 0 kc] 24)) := (Keeps.refl _ w).alloc _
  have hb1 := heap_new w (.cells #[.string (AOp.name .sub), .int .i64 (A : Int), .int .i64 (B : Int), .int .i64 (C : Int), .int .i64 (N : Int), .slice ka 0 kc] 24)
  have q0 := cell_at hb1 0; have q1 := cell_at hb1 1; have q2 := cell_at hb1 2; have q3 := cell_at hb1 3; have q4 := cell_at hb1 4
  simp only [List.getElem?_toArray, List.getElem?_cons_zero, List.getElem?_cons_succ] at q0 q1 q2 q3 q4
  have cx := Keeps.cell hk1 cx trivial; have cy := Keeps.cell hk1 cy trivial; have cz := Keeps.cell hk1 cz trivial
  have HK1 := hide hk1
  clear hk1 hb1
  unfold AOp.name at q0 q1 q2 q3 q4 cx cy cz HK1 ⊢
  go_enter Try.func35, Try.ntmps35
  go_wp2_with fail
  generalize w.alloc (.cells #[.string ⟨#[115, 117, 98]⟩, .int .i64 (A : Int), .int .i64 (B : Int), .int .i64 (C : Int), .int .i64 (N : Int), .slice ka 0 kc] 24) = w1 at HK1 q0 q1 q2 q3 q4 cx cy cz ⊢
  generalize w.heap.size = xc at q0 q1 q2 q3 q4 ⊢
  refine wp_region_same (by kernel_rfl) (by kernel_rfl) ?_
  iterate 18
    (apply wpQuiet_step
     intro K hK
     first
       | (apply quiet_skip
          case hw => rfl
          go_simp
          refine hK _ ?_; clear hK K)
       | (apply quiet_do
          case hw => rfl
          case h =>
            intro w' hw'
            (have z1 := Keeps.cell hw' q1 trivial; have z2 := Keeps.cell hw' q2 trivial; have z3 := Keeps.cell hw' q3 trivial; have y1 := Keeps.cell hw' cx trivial; have y2 := Keeps.cell hw' cy trivial; have y3 := Keeps.cell hw' cz trivial)
            go_simp
            first | exact rfl | (fail)
          go_simp
          refine hK _ ?_; clear hK K))
  apply wpQuiet_nil
  intro w2 k2
  have q0 := Keeps.cell k2 q0 trivial; have q4 := Keeps.cell k2 q4 trivial
  have HK2 := hide (HK1.out.tr k2)
  clear k2 q1 q2 q3 cx cy cz
  have HB := hide (i64_andNot_nat x y hx hy)
  go_wp2_with fail
  refine HR.out _ _ (ret_bool ?_) HK2.out
  rw [HB.out]
  exact int_beq _ 0

set_option maxRecDepth 10000 in
set_option maxHeartbeats 4000000 in
theorem holdsIn_non {A B C N n x y z sb soff sc : Nat} {ka : Option Addr} {kc : Nat} (hN : N ≤ 20) (hA : A < n) (hB : B < n) (hC : C < n) (hx : x < 65536) (hy : y < 65536) (hz : z < 65536) (hn : n ≤ 6)
    (cx : w.cell? ⟨sb, soff + A, none⟩ = some (.int .i64 (x : Int))) (cy : w.cell? ⟨sb, soff + B, none⟩ = some (.int .i64 (y : Int))) (cz : w.cell? ⟨sb, soff + C, none⟩ = some (.int .i64 (z : Int)))
    (hR : ∀ e w', e = .returned (.bool (holdsO .non N x y z)) → Same w w' → R e w') :
    Calls Try.prog 35 #[.agg #[.string (AOp.name .non), .int .i64 (A : Int), .int .i64 (B : Int), .int .i64 (C : Int), .int .i64 (N : Int), .slice ka 0 kc], .slice (some ⟨sb, soff, none⟩) n sc, .int .i64 0] w R := by
  have HR := hide hR
  clear hR
  have hk1 : Same w (w.alloc (.cells #[.string (AOp.name .non), .int .i64 (A : Int), .int .i64 (B : Int), .int .i64 (C : Int), .int .i64 (N : Int), .slice ka 0 kc] 24)) := (Keeps.refl _ w).alloc _
  have hb1 := heap_new w (.cells #[.string (AOp.name .non), .int .i64 (A : Int), .int .i64 (B : Int), .int .i64 (C : Int), .int .i64 (N : Int), .slice ka 0 kc] 24)
  have q0 := cell_at hb1 0; have q1 := cell_at hb1 1; have q2 := cell_at hb1 2; have q3 := cell_at hb1 3; have q4 := cell_at hb1 4
  simp only [List.getElem?_toArray, List.getElem?_cons_zero, List.getElem?_cons_succ] at q0 q1 q2 q3 q4
  have cx := Keeps.cell hk1 cx trivial; have cy := Keeps.cell hk1 cy trivial; have cz := Keeps.cell hk1 cz trivial
  have HK1 := hide hk1
  clear hk1 hb1
  unfold AOp.name at q0 q1 q2 q3 q4 cx cy cz HK1 ⊢
  go_enter Try.func35, Try.ntmps35
  go_wp2_with fail
  generalize w.alloc (.cells #[.string ⟨#[110, 111, 110, 101]⟩, .int .i64 (A : Int), .int .i64 (B : Int), .int .i64 (C : Int), .int .i64 (N : Int), .slice ka 0 kc] 24) = w1 at HK1 q0 q1 q2 q3 q4 cx cy cz ⊢
  generalize w.heap.size = xc at q0 q1 q2 q3 q4 ⊢
  refine wp_region_same (by kernel_rfl) (by kernel_rfl) ?_
  iterate 18
    (apply wpQuiet_step
     intro K hK
     first
       | (apply quiet_skip
          case hw => rfl
          go_simp
          refine hK _ ?_; clear hK K)
       | (apply quiet_do
          case hw => rfl
          case h =>
            intro w' hw'
            (have z1 := Keeps.cell hw' q1 trivial; have z2 := Keeps.cell hw' q2 trivial; have z3 := Keeps.cell hw' q3 trivial; have y1 := Keeps.cell hw' cx trivial; have y2 := Keeps.cell hw' cy trivial; have y3 := Keeps.cell hw' cz trivial)
            go_simp
            first | exact rfl | (fail)
          go_simp
          refine hK _ ?_; clear hK K))
  apply wpQuiet_nil
  intro w2 k2
  have q0 := Keeps.cell k2 q0 trivial; have q4 := Keeps.cell k2 q4 trivial
  have HK2 := hide (HK1.out.tr k2)
  clear k2 q1 q2 q3 cx cy cz
  go_wp2_with fail
  refine HR.out _ _ (ret_bool ?_) HK2.out
  exact int_beq _ 0

set_option maxRecDepth 10000 in
set_option maxHeartbeats 4000000 in
theorem holdsIn_uni {A B C N n x y z sb soff sc : Nat} {ka : Option Addr} {kc : Nat} (hN : N ≤ 20) (hA : A < n) (hB : B < n) (hC : C < n) (hx : x < 65536) (hy : y < 65536) (hz : z < 65536) (hn : n ≤ 6)
    (cx : w.cell? ⟨sb, soff + A, none⟩ = some (.int .i64 (x : Int))) (cy : w.cell? ⟨sb, soff + B, none⟩ = some (.int .i64 (y : Int))) (cz : w.cell? ⟨sb, soff + C, none⟩ = some (.int .i64 (z : Int)))
    (hR : ∀ e w', e = .returned (.bool (holdsO .uni N x y z)) → Same w w' → R e w') :
    Calls Try.prog 35 #[.agg #[.string (AOp.name .uni), .int .i64 (A : Int), .int .i64 (B : Int), .int .i64 (C : Int), .int .i64 (N : Int), .slice ka 0 kc], .slice (some ⟨sb, soff, none⟩) n sc, .int .i64 0] w R := by
  have HR := hide hR
  clear hR
  have hk1 : Same w (w.alloc (.cells #[.string (AOp.name .uni), .int .i64 (A : Int), .int .i64 (B : Int), .int .i64 (C : Int), .int .i64 (N : Int), .slice ka 0 kc] 24)) := (Keeps.refl _ w).alloc _
  have hb1 := heap_new w (.cells #[.string (AOp.name .uni), .int .i64 (A : Int), .int .i64 (B : Int), .int .i64 (C : Int), .int .i64 (N : Int), .slice ka 0 kc] 24)
  have q0 := cell_at hb1 0; have q1 := cell_at hb1 1; have q2 := cell_at hb1 2; have q3 := cell_at hb1 3; have q4 := cell_at hb1 4
  simp only [List.getElem?_toArray, List.getElem?_cons_zero, List.getElem?_cons_succ] at q0 q1 q2 q3 q4
  have cx := Keeps.cell hk1 cx trivial; have cy := Keeps.cell hk1 cy trivial; have cz := Keeps.cell hk1 cz trivial
  have HK1 := hide hk1
  clear hk1 hb1
  unfold AOp.name at q0 q1 q2 q3 q4 cx cy cz HK1 ⊢
  go_enter Try.func35, Try.ntmps35
  go_wp2_with fail
  generalize w.alloc (.cells #[.string ⟨#[117, 110, 105, 111, 110]⟩, .int .i64 (A : Int), .int .i64 (B : Int), .int .i64 (C : Int), .int .i64 (N : Int), .slice ka 0 kc] 24) = w1 at HK1 q0 q1 q2 q3 q4 cx cy cz ⊢
  generalize w.heap.size = xc at q0 q1 q2 q3 q4 ⊢
  refine wp_region_same (by kernel_rfl) (by kernel_rfl) ?_
  iterate 18
    (apply wpQuiet_step
     intro K hK
     first
       | (apply quiet_skip
          case hw => rfl
          go_simp
          refine hK _ ?_; clear hK K)
       | (apply quiet_do
          case hw => rfl
          case h =>
            intro w' hw'
            (have z1 := Keeps.cell hw' q1 trivial; have z2 := Keeps.cell hw' q2 trivial; have z3 := Keeps.cell hw' q3 trivial; have y1 := Keeps.cell hw' cx trivial; have y2 := Keeps.cell hw' cy trivial; have y3 := Keeps.cell hw' cz trivial)
            go_simp
            first | exact rfl | (fail)
          go_simp
          refine hK _ ?_; clear hK K))
  apply wpQuiet_nil
  intro w2 k2
  have q0 := Keeps.cell k2 q0 trivial; have q4 := Keeps.cell k2 q4 trivial
  have HK2 := hide (HK1.out.tr k2)
  clear k2 q1 q2 q3 cx cy cz
  have HB := hide (i64_or_nat x y (by omega) (by omega))
  go_wp2_with fail
  refine HR.out _ _ (ret_bool ?_) HK2.out
  rw [HB.out]
  exact int_beq _ _

set_option maxRecDepth 10000 in
set_option maxHeartbeats 4000000 in
theorem holdsIn_int {A B C N n x y z sb soff sc : Nat} {ka : Option Addr} {kc : Nat} (hN : N ≤ 20) (hA : A < n) (hB : B < n) (hC : C < n) (hx : x < 65536) (hy : y < 65536) (hz : z < 65536) (hn : n ≤ 6)
    (cx : w.cell? ⟨sb, soff + A, none⟩ = some (.int .i64 (x : Int))) (cy : w.cell? ⟨sb, soff + B, none⟩ = some (.int .i64 (y : Int))) (cz : w.cell? ⟨sb, soff + C, none⟩ = some (.int .i64 (z : Int)))
    (hR : ∀ e w', e = .returned (.bool (holdsO .int N x y z)) → Same w w' → R e w') :
    Calls Try.prog 35 #[.agg #[.string (AOp.name .int), .int .i64 (A : Int), .int .i64 (B : Int), .int .i64 (C : Int), .int .i64 (N : Int), .slice ka 0 kc], .slice (some ⟨sb, soff, none⟩) n sc, .int .i64 0] w R := by
  have HR := hide hR
  clear hR
  have hk1 : Same w (w.alloc (.cells #[.string (AOp.name .int), .int .i64 (A : Int), .int .i64 (B : Int), .int .i64 (C : Int), .int .i64 (N : Int), .slice ka 0 kc] 24)) := (Keeps.refl _ w).alloc _
  have hb1 := heap_new w (.cells #[.string (AOp.name .int), .int .i64 (A : Int), .int .i64 (B : Int), .int .i64 (C : Int), .int .i64 (N : Int), .slice ka 0 kc] 24)
  have q0 := cell_at hb1 0; have q1 := cell_at hb1 1; have q2 := cell_at hb1 2; have q3 := cell_at hb1 3; have q4 := cell_at hb1 4
  simp only [List.getElem?_toArray, List.getElem?_cons_zero, List.getElem?_cons_succ] at q0 q1 q2 q3 q4
  have cx := Keeps.cell hk1 cx trivial; have cy := Keeps.cell hk1 cy trivial; have cz := Keeps.cell hk1 cz trivial
  have HK1 := hide hk1
  clear hk1 hb1
  unfold AOp.name at q0 q1 q2 q3 q4 cx cy cz HK1 ⊢
  go_enter Try.func35, Try.ntmps35
  go_wp2_with fail
  generalize w.alloc (.cells #[.string ⟨#[105, 110, 116, 101, 114]⟩, .int .i64 (A : Int), .int .i64 (B : Int), .int .i64 (C : Int), .int .i64 (N : Int), .slice ka 0 kc] 24) = w1 at HK1 q0 q1 q2 q3 q4 cx cy cz ⊢
  generalize w.heap.size = xc at q0 q1 q2 q3 q4 ⊢
  refine wp_region_same (by kernel_rfl) (by kernel_rfl) ?_
  iterate 18
    (apply wpQuiet_step
     intro K hK
     first
       | (apply quiet_skip
          case hw => rfl
          go_simp
          refine hK _ ?_; clear hK K)
       | (apply quiet_do
          case hw => rfl
          case h =>
            intro w' hw'
            (have z1 := Keeps.cell hw' q1 trivial; have z2 := Keeps.cell hw' q2 trivial; have z3 := Keeps.cell hw' q3 trivial; have y1 := Keeps.cell hw' cx trivial; have y2 := Keeps.cell hw' cy trivial; have y3 := Keeps.cell hw' cz trivial)
            go_simp
            first | exact rfl | (fail)
          go_simp
          refine hK _ ?_; clear hK K))
  apply wpQuiet_nil
  intro w2 k2
  have q0 := Keeps.cell k2 q0 trivial; have q4 := Keeps.cell k2 q4 trivial
  have HK2 := hide (HK1.out.tr k2)
  clear k2 q1 q2 q3 cx cy cz
  have HB := hide (i64_and_nat x y (by omega) (by omega))
  go_wp2_with fail
  refine HR.out _ _ (ret_bool ?_) HK2.out
  rw [HB.out]
  exact int_beq _ _

set_option maxRecDepth 10000 in
set_option maxHeartbeats 4000000 in
theorem holdsIn_mns {A B C N n x y z sb soff sc : Nat} {ka : Option Addr} {kc : Nat} (hN : N ≤ 20) (hA : A < n) (hB : B < n) (hC : C < n) (hx : x < 65536) (hy : y < 65536) (hz : z < 65536) (hn : n ≤ 6)
    (cx : w.cell? ⟨sb, soff + A, none⟩ = some (.int .i64 (x : Int))) (cy : w.cell? ⟨sb, soff + B, none⟩ = some (.int .i64 (y : Int))) (cz : w.cell? ⟨sb, soff + C, none⟩ = some (.int .i64 (z : Int)))
    (hR : ∀ e w', e = .returned (.bool (holdsO .mns N x y z)) → Same w w' → R e w') :
    Calls Try.prog 35 #[.agg #[.string (AOp.name .mns), .int .i64 (A : Int), .int .i64 (B : Int), .int .i64 (C : Int), .int .i64 (N : Int), .slice ka 0 kc], .slice (some ⟨sb, soff, none⟩) n sc, .int .i64 0] w R := by
  have HR := hide hR
  clear hR
  have hk1 : Same w (w.alloc (.cells #[.string (AOp.name .mns), .int .i64 (A : Int), .int .i64 (B : Int), .int .i64 (C : Int), .int .i64 (N : Int), .slice ka 0 kc] 24)) := (Keeps.refl _ w).alloc _
  have hb1 := heap_new w (.cells #[.string (AOp.name .mns), .int .i64 (A : Int), .int .i64 (B : Int), .int .i64 (C : Int), .int .i64 (N : Int), .slice ka 0 kc] 24)
  have q0 := cell_at hb1 0; have q1 := cell_at hb1 1; have q2 := cell_at hb1 2; have q3 := cell_at hb1 3; have q4 := cell_at hb1 4
  simp only [List.getElem?_toArray, List.getElem?_cons_zero, List.getElem?_cons_succ] at q0 q1 q2 q3 q4
  have cx := Keeps.cell hk1 cx trivial; have cy := Keeps.cell hk1 cy trivial; have cz := Keeps.cell hk1 cz trivial
  have HK1 := hide hk1
  clear hk1 hb1
  unfold AOp.name at q0 q1 q2 q3 q4 cx cy cz HK1 ⊢
  go_enter Try.func35, Try.ntmps35
  go_wp2_with fail
  generalize w.alloc (.cells #[.string ⟨#[109, 105, 110, 117, 115]⟩, .int .i64 (A : Int), .int .i64 (B : Int), .int .i64 (C : Int), .int .i64 (N : Int), .slice ka 0 kc] 24) = w1 at HK1 q0 q1 q2 q3 q4 cx cy cz ⊢
  generalize w.heap.size = xc at q0 q1 q2 q3 q4 ⊢
  refine wp_region_same (by kernel_rfl) (by kernel_rfl) ?_
  iterate 18
    (apply wpQuiet_step
     intro K hK
     first
       | (apply quiet_skip
          case hw => rfl
          go_simp
          refine hK _ ?_; clear hK K)
       | (apply quiet_do
          case hw => rfl
          case h =>
            intro w' hw'
            (have z1 := Keeps.cell hw' q1 trivial; have z2 := Keeps.cell hw' q2 trivial; have z3 := Keeps.cell hw' q3 trivial; have y1 := Keeps.cell hw' cx trivial; have y2 := Keeps.cell hw' cy trivial; have y3 := Keeps.cell hw' cz trivial)
            go_simp
            first | exact rfl | (fail)
          go_simp
          refine hK _ ?_; clear hK K))
  apply wpQuiet_nil
  intro w2 k2
  have q0 := Keeps.cell k2 q0 trivial; have q4 := Keeps.cell k2 q4 trivial
  have HK2 := hide (HK1.out.tr k2)
  clear k2 q1 q2 q3 cx cy cz
  have HB := hide (i64_andNot_nat x y hx hy)
  go_wp2_with fail
  refine HR.out _ _ (ret_bool ?_) HK2.out
  rw [HB.out]
  exact int_beq _ _

set_option maxRecDepth 10000 in
set_option maxHeartbeats 4000000 in
theorem holdsIn_sing {A B C N n x y z sb soff sc : Nat} {ka : Option Addr} {kc : Nat} (hN : N ≤ 20) (hA : A < n) (hB : B < n) (hC : C < n) (hx : x < 65536) (hy : y < 65536) (hz : z < 65536) (hn : n ≤ 6)
    (cx : w.cell? ⟨sb, soff + A, none⟩ = some (.int .i64 (x : Int))) (cy : w.cell? ⟨sb, soff + B, none⟩ = some (.int .i64 (y : Int))) (cz : w.cell? ⟨sb, soff + C, none⟩ = some (.int .i64 (z : Int)))
    (hR : ∀ e w', e = .returned (.bool (holdsO .sing N x y z)) → Same w w' → R e w') :
    Calls Try.prog 35 #[.agg #[.string (AOp.name .sing), .int .i64 (A : Int), .int .i64 (B : Int), .int .i64 (C : Int), .int .i64 (N : Int), .slice ka 0 kc], .slice (some ⟨sb, soff, none⟩) n sc, .int .i64 0] w R := by
  have HR := hide hR
  clear hR
  have hk1 : Same w (w.alloc (.cells #[.string (AOp.name .sing), .int .i64 (A : Int), .int .i64 (B : Int), .int .i64 (C : Int), .int .i64 (N : Int), .slice ka 0 kc] 24)) := (Keeps.refl _ w).alloc _
  have hb1 := heap_new w (.cells #[.string (AOp.name .sing), .int .i64 (A : Int), .int .i64 (B : Int), .int .i64 (C : Int), .int .i64 (N : Int), .slice ka 0 kc] 24)
  have q0 := cell_at hb1 0; have q1 := cell_at hb1 1; have q2 := cell_at hb1 2; have q3 := cell_at hb1 3; have q4 := cell_at hb1 4
  simp only [List.getElem?_toArray, List.getElem?_cons_zero, List.getElem?_cons_succ] at q0 q1 q2 q3 q4
  have cx := Keeps.cell hk1 cx trivial; have cy := Keeps.cell hk1 cy trivial; have cz := Keeps.cell hk1 cz trivial
  have HK1 := hide hk1
  clear hk1 hb1
  unfold AOp.name at q0 q1 q2 q3 q4 cx cy cz HK1 ⊢
  go_enter Try.func35, Try.ntmps35
  go_wp2_with fail
  generalize w.alloc (.cells #[.string ⟨#[115, 105, 110, 103]⟩, .int .i64 (A : Int), .int .i64 (B : Int), .int .i64 (C : Int), .int .i64 (N : Int), .slice ka 0 kc] 24) = w1 at HK1 q0 q1 q2 q3 q4 cx cy cz ⊢
  generalize w.heap.size = xc at q0 q1 q2 q3 q4 ⊢
  refine wp_region_same (by kernel_rfl) (by kernel_rfl) ?_
  iterate 18
    (apply wpQuiet_step
     intro K hK
     first
       | (apply quiet_skip
          case hw => rfl
          go_simp
          refine hK _ ?_; clear hK K)
       | (apply quiet_do
          case hw => rfl
          case h =>
            intro w' hw'
            (have z1 := Keeps.cell hw' q1 trivial; have z2 := Keeps.cell hw' q2 trivial; have z3 := Keeps.cell hw' q3 trivial; have y1 := Keeps.cell hw' cx trivial; have y2 := Keeps.cell hw' cy trivial; have y3 := Keeps.cell hw' cz trivial)
            go_simp
            first | exact rfl | (fail)
          go_simp
          refine hK _ ?_; clear hK K))
  apply wpQuiet_nil
  intro w2 k2
  have q0 := Keeps.cell k2 q0 trivial; have q4 := Keeps.cell k2 q4 trivial
  have HK2 := hide (HK1.out.tr k2)
  clear k2 q1 q2 q3 cx cy cz
  go_wp2_with fail
  refine refSing hx ?_; rintro e w3 rfl k3
  have HK3 := hide (HK2.out.tr k3)
  clear k3
  go_wp2_with fail
  refine HR.out _ _ (ret_bool ?_) HK3.out
  simp [holdsO]

set_option maxRecDepth 10000 in
set_option maxHeartbeats 4000000 in
theorem holdsIn_flag {A B C N n x y z sb soff sc : Nat} {ka : Option Addr} {kc : Nat} (hN : N ≤ 20) (hA : A < n) (hB : B < n) (hC : C < n) (hx : x < 65536) (hy : y < 65536) (hz : z < 65536) (hn : n ≤ 6)
    (cx : w.cell? ⟨sb, soff + A, none⟩ = some (.int .i64 (x : Int))) (cy : w.cell? ⟨sb, soff + B, none⟩ = some (.int .i64 (y : Int))) (cz : w.cell? ⟨sb, soff + C, none⟩ = some (.int .i64 (z : Int)))
    (hR : ∀ e w', e = .returned (.bool (holdsO .flag N x y z)) → Same w w' → R e w') :
    Calls Try.prog 35 #[.agg #[.string (AOp.name .flag), .int .i64 (A : Int), .int .i64 (B : Int), .int .i64 (C : Int), .int .i64 (N : Int), .slice ka 0 kc], .slice (some ⟨sb, soff, none⟩) n sc, .int .i64 0] w R := by
  have HR := hide hR
  clear hR
  have hk1 : Same w (w.alloc (.cells #[.string (AOp.name .flag), .int .i64 (A : Int), .int .i64 (B : Int), .int .i64 (C : Int), .int .i64 (N : Int), .slice ka 0 kc] 24)) := (Keeps.refl _ w).alloc _
  have hb1 := heap_new w (.cells #[.string (AOp.name .flag), .int .i64 (A : Int), .int .i64 (B : Int), .int .i64 (C : Int), .int .i64 (N : Int), .slice ka 0 kc] 24)
  have q0 := cell_at hb1 0; have q1 := cell_at hb1 1; have q2 := cell_at hb1 2; have q3 := cell_at hb1 3; have q4 := cell_at hb1 4
  simp only [List.getElem?_toArray, List.getElem?_cons_zero, List.getElem?_cons_succ] at q0 q1 q2 q3 q4
  have cx := Keeps.cell hk1 cx trivial; have cy := Keeps.cell hk1 cy trivial; have cz := Keeps.cell hk1 cz trivial
  have HK1 := hide hk1
  clear hk1 hb1
  unfold AOp.name at q0 q1 q2 q3 q4 cx cy cz HK1 ⊢
  go_enter Try.func35, Try.ntmps35
  go_wp2_with fail
  generalize w.alloc (.cells #[.string ⟨#[102, 108, 97, 103]⟩, .int .i64 (A : Int), .int .i64 (B : Int), .int .i64 (C : Int), .int .i64 (N : Int), .slice ka 0 kc] 24) = w1 at HK1 q0 q1 q2 q3 q4 cx cy cz ⊢
  generalize w.heap.size = xc at q0 q1 q2 q3 q4 ⊢
  refine wp_region_same (by kernel_rfl) (by kernel_rfl) ?_
  iterate 18
    (apply wpQuiet_step
     intro K hK
     first
       | (apply quiet_skip
          case hw => rfl
          go_simp
          refine hK _ ?_; clear hK K)
       | (apply quiet_do
          case hw => rfl
          case h =>
            intro w' hw'
            (have z1 := Keeps.cell hw' q1 trivial; have z2 := Keeps.cell hw' q2 trivial; have z3 := Keeps.cell hw' q3 trivial; have y1 := Keeps.cell hw' cx trivial; have y2 := Keeps.cell hw' cy trivial; have y3 := Keeps.cell hw' cz trivial)
            go_simp
            first | exact rfl | (fail)
          go_simp
          refine hK _ ?_; clear hK K))
  apply wpQuiet_nil
  intro w2 k2
  have q0 := Keeps.cell k2 q0 trivial; have q4 := Keeps.cell k2 q4 trivial
  have HK2 := hide (HK1.out.tr k2)
  clear k2 q1 q2 q3 cx cy cz
  have HB := hide (bit_zero x hx)
  go_wp2_with fail
  refine HR.out _ _ (ret_bool ?_) HK2.out
  exact HB.out

set_option maxRecDepth 10000 in
set_option maxHeartbeats 4000000 in
theorem holdsIn_less {A B C N n x y z sb soff sc : Nat} {ka : Option Addr} {kc : Nat} (hN : N ≤ 20) (hA : A < n) (hB : B < n) (hC : C < n) (hx : x < 65536) (hy : y < 65536) (hz : z < 65536) (hn : n ≤ 6)
    (cx : w.cell? ⟨sb, soff + A, none⟩ = some (.int .i64 (x : Int))) (cy : w.cell? ⟨sb, soff + B, none⟩ = some (.int .i64 (y : Int))) (cz : w.cell? ⟨sb, soff + C, none⟩ = some (.int .i64 (z : Int)))
    (hR : ∀ e w', e = .returned (.bool (holdsO .less N x y z)) → Same w w' → R e w') :
    Calls Try.prog 35 #[.agg #[.string (AOp.name .less), .int .i64 (A : Int), .int .i64 (B : Int), .int .i64 (C : Int), .int .i64 (N : Int), .slice ka 0 kc], .slice (some ⟨sb, soff, none⟩) n sc, .int .i64 0] w R := by
  have HR := hide hR
  clear hR
  have hk1 : Same w (w.alloc (.cells #[.string (AOp.name .less), .int .i64 (A : Int), .int .i64 (B : Int), .int .i64 (C : Int), .int .i64 (N : Int), .slice ka 0 kc] 24)) := (Keeps.refl _ w).alloc _
  have hb1 := heap_new w (.cells #[.string (AOp.name .less), .int .i64 (A : Int), .int .i64 (B : Int), .int .i64 (C : Int), .int .i64 (N : Int), .slice ka 0 kc] 24)
  have q0 := cell_at hb1 0; have q1 := cell_at hb1 1; have q2 := cell_at hb1 2; have q3 := cell_at hb1 3; have q4 := cell_at hb1 4
  simp only [List.getElem?_toArray, List.getElem?_cons_zero, List.getElem?_cons_succ] at q0 q1 q2 q3 q4
  have cx := Keeps.cell hk1 cx trivial; have cy := Keeps.cell hk1 cy trivial; have cz := Keeps.cell hk1 cz trivial
  have HK1 := hide hk1
  clear hk1 hb1
  unfold AOp.name at q0 q1 q2 q3 q4 cx cy cz HK1 ⊢
  go_enter Try.func35, Try.ntmps35
  go_wp2_with fail
  generalize w.alloc (.cells #[.string ⟨#[108, 101, 115, 115]⟩, .int .i64 (A : Int), .int .i64 (B : Int), .int .i64 (C : Int), .int .i64 (N : Int), .slice ka 0 kc] 24) = w1 at HK1 q0 q1 q2 q3 q4 cx cy cz ⊢
  generalize w.heap.size = xc at q0 q1 q2 q3 q4 ⊢
  refine wp_region_same (by kernel_rfl) (by kernel_rfl) ?_
  iterate 18
    (apply wpQuiet_step
     intro K hK
     first
       | (apply quiet_skip
          case hw => rfl
          go_simp
          refine hK _ ?_; clear hK K)
       | (apply quiet_do
          case hw => rfl
          case h =>
            intro w' hw'
            (have z1 := Keeps.cell hw' q1 trivial; have z2 := Keeps.cell hw' q2 trivial; have z3 := Keeps.cell hw' q3 trivial; have y1 := Keeps.cell hw' cx trivial; have y2 := Keeps.cell hw' cy trivial; have y3 := Keeps.cell hw' cz trivial)
            go_simp
            first | exact rfl | (fail)
          go_simp
          refine hK _ ?_; clear hK K))
  apply wpQuiet_nil
  intro w2 k2
  have q0 := Keeps.cell k2 q0 trivial; have q4 := Keeps.cell k2 q4 trivial
  have HK2 := hide (HK1.out.tr k2)
  clear k2 q1 q2 q3 cx cy cz
  go_wp2_with fail
  refine refSing hx ?_; rintro e w3 rfl k3
  have HK3 := hide (HK2.out.tr k3)
  clear k3
  have HH : Hid (holdsO .less N x y z = (decide (0 < x ∧ x &&& (x - 1) = 0) && decide (0 < y ∧ y &&& (y - 1) = 0) && decide (x < y))) := hide rfl
  generalize decide (0 < x ∧ x &&& (x - 1) = 0) = b1 at HH ⊢
  cases b1 with
  | false =>
    go_wp2_with fail
    refine HR.out _ _ (ret_bool ?_) HK3.out
    rw [HH.out]; rfl
  | true =>
  go_wp2_with fail
  refine refSing hy ?_; rintro e w4 rfl k4
  have HK4 := hide (HK3.out.tr k4)
  clear k4
  generalize decide (0 < y ∧ y &&& (y - 1) = 0) = b2 at HH ⊢
  cases b2 with
  | false =>
    go_wp2_with fail
    refine HR.out _ _ (ret_bool ?_) HK4.out
    rw [HH.out]; rfl
  | true =>
  go_wp2_with fail
  refine HR.out _ _ (ret_bool ?_) HK4.out
  rw [HH.out]
  simp

set_option maxRecDepth 10000 in
set_option maxHeartbeats 4000000 in
theorem holdsIn_plus {A B C N n x y z sb soff sc : Nat} {ka : Option Addr} {kc : Nat} (hN : N ≤ 20) (hA : A < n) (hB : B < n) (hC : C < n) (hx : x < 65536) (hy : y < 65536) (hz : z < 65536) (hn : n ≤ 6)
    (cx : w.cell? ⟨sb, soff + A, none⟩ = some (.int .i64 (x : Int))) (cy : w.cell? ⟨sb, soff + B, none⟩ = some (.int .i64 (y : Int))) (cz : w.cell? ⟨sb, soff + C, none⟩ = some (.int .i64 (z : Int)))
    (hR : ∀ e w', e = .returned (.bool (holdsO .plus N x y z)) → Same w w' → R e w') :
    Calls Try.prog 35 #[.agg #[.string (AOp.name .plus), .int .i64 (A : Int), .int .i64 (B : Int), .int .i64 (C : Int), .int .i64 (N : Int), .slice ka 0 kc], .slice (some ⟨sb, soff, none⟩) n sc, .int .i64 0] w R := by
  have HR := hide hR
  clear hR
  have hk1 : Same w (w.alloc (.cells #[.string (AOp.name .plus), .int .i64 (A : Int), .int .i64 (B : Int), .int .i64 (C : Int), .int .i64 (N : Int), .slice ka 0 kc] 24)) := (Keeps.refl _ w).alloc _
  have hb1 := heap_new w (.cells #[.string (AOp.name .plus), .int .i64 (A : Int), .int .i64 (B : Int), .int .i64 (C : Int), .int .i64 (N : Int), .slice ka 0 kc] 24)
  have q0 := cell_at hb1 0; have q1 := cell_at hb1 1; have q2 := cell_at hb1 2; have q3 := cell_at hb1 3; have q4 := cell_at hb1 4
  simp only [List.getElem?_toArray, List.getElem?_cons_zero, List.getElem?_cons_succ] at q0 q1 q2 q3 q4
  have cx := Keeps.cell hk1 cx trivial; have cy := Keeps.cell hk1 cy trivial; have cz := Keeps.cell hk1 cz trivial
  have HK1 := hide hk1
  clear hk1 hb1
  unfold AOp.name at q0 q1 q2 q3 q4 cx cy cz HK1 ⊢
  go_enter Try.func35, Try.ntmps35
  go_wp2_with fail
  generalize w.alloc (.cells #[.string ⟨#[112, 108, 117, 115]⟩, .int .i64 (A : Int), .int .i64 (B : Int), .int .i64 (C : Int), .int .i64 (N : Int), .slice ka 0 kc] 24) = w1 at HK1 q0 q1 q2 q3 q4 cx cy cz ⊢
  generalize w.heap.size = xc at q0 q1 q2 q3 q4 ⊢
  refine wp_region_same (by kernel_rfl) (by kernel_rfl) ?_
  iterate 18
    (apply wpQuiet_step
     intro K hK
     first
       | (apply quiet_skip
          case hw => rfl
          go_simp
          refine hK _ ?_; clear hK K)
       | (apply quiet_do
          case hw => rfl
          case h =>
            intro w' hw'
            (have z1 := Keeps.cell hw' q1 trivial; have z2 := Keeps.cell hw' q2 trivial; have z3 := Keeps.cell hw' q3 trivial; have y1 := Keeps.cell hw' cx trivial; have y2 := Keeps.cell hw' cy trivial; have y3 := Keeps.cell hw' cz trivial)
            go_simp
            first | exact rfl | (fail)
          go_simp
          refine hK _ ?_; clear hK K))
  apply wpQuiet_nil
  intro w2 k2
  have q0 := Keeps.cell k2 q0 trivial; have q4 := Keeps.cell k2 q4 trivial
  have HK2 := hide (HK1.out.tr k2)
  clear k2 q1 q2 q3 cx cy cz
  have HW : Hid (wrap64 ((x : Int) * 2 ^ N) = ((x * 2 ^ N : Nat) : Int)) := hide (wrap_shl hx hN)
  go_wp2_with fail
  refine refSing hx ?_; rintro e w3 rfl k3
  have q4 := Keeps.cell k3 q4 trivial
  have HK3 := hide (HK2.out.tr k3)
  clear k3
  have HH : Hid (holdsO .plus N x y z = (decide (0 < x ∧ x &&& (x - 1) = 0) && decide (x * 2 ^ N = y))) := hide rfl
  generalize decide (0 < x ∧ x &&& (x - 1) = 0) = b1 at HH ⊢
  cases b1 with
  | false =>
    go_wp2_with fail
    refine HR.out _ _ (ret_bool ?_) HK3.out
    rw [HH.out]; rfl
  | true =>
  go_wp2_with fail
  refine HR.out _ _ (ret_bool ?_) HK3.out
  rw [HH.out, HW.out]
  exact int_beq _ _

set_option maxRecDepth 10000 in
set_option maxHeartbeats 4000000 in
theorem holdsIn_num {A B C N n x y z sb soff sc : Nat} {ka : Option Addr} {kc : Nat} (hN : N ≤ 20) (hA : A < n) (hB : B < n) (hC : C < n) (hx : x < 65536) (hy : y < 65536) (hz : z < 65536) (hn : n ≤ 6)
    (cx : w.cell? ⟨sb, soff + A, none⟩ = some (.int .i64 (x : Int))) (cy : w.cell? ⟨sb, soff + B, none⟩ = some (.int .i64 (y : Int))) (cz : w.cell? ⟨sb, soff + C, none⟩ = some (.int .i64 (z : Int)))
    (hR : ∀ e w', e = .returned (.bool (holdsO .num N x y z)) → Same w w' → R e w') :
    Calls Try.prog 35 #[.agg #[.string (AOp.name .num), .int .i64 (A : Int), .int .i64 (B : Int), .int .i64 (C : Int), .int .i64 (N : Int), .slice ka 0 kc], .slice (some ⟨sb, soff, none⟩) n sc, .int .i64 0] w R := by
  have HR := hide hR
  clear hR
  have hk1 : Same w (w.alloc (.cells #[.string (AOp.name .num), .int .i64 (A : Int), .int .i64 (B : Int), .int .i64 (C : Int), .int .i64 (N : Int), .slice ka 0 kc] 24)) := (Keeps.refl _ w).alloc _
  have hb1 := heap_new w (.cells #[.string (AOp.name .num), .int .i64 (A : Int), .int .i64 (B : Int), .int .i64 (C : Int), .int .i64 (N : Int), .slice ka 0 kc] 24)
  have q0 := cell_at hb1 0; have q1 := cell_at hb1 1; have q2 := cell_at hb1 2; have q3 := cell_at hb1 3; have q4 := cell_at hb1 4
  simp only [List.getElem?_toArray, List.getElem?_cons_zero, List.getElem?_cons_succ] at q0 q1 q2 q3 q4
  have cx := Keeps.cell hk1 cx trivial; have cy := Keeps.cell hk1 cy trivial; have cz := Keeps.cell hk1 cz trivial
  have HK1 := hide hk1
  clear hk1 hb1
  unfold AOp.name at q0 q1 q2 q3 q4 cx cy cz HK1 ⊢
  go_enter Try.func35, Try.ntmps35
  go_wp2_with fail
  generalize w.alloc (.cells #[.string ⟨#[110, 117, 109]⟩, .int .i64 (A : Int), .int .i64 (B : Int), .int .i64 (C : Int), .int .i64 (N : Int), .slice ka 0 kc] 24) = w1 at HK1 q0 q1 q2 q3 q4 cx cy cz ⊢
  generalize w.heap.size = xc at q0 q1 q2 q3 q4 ⊢
  refine wp_region_same (by kernel_rfl) (by kernel_rfl) ?_
  iterate 18
    (apply wpQuiet_step
     intro K hK
     first
       | (apply quiet_skip
          case hw => rfl
          go_simp
          refine hK _ ?_; clear hK K)
       | (apply quiet_do
          case hw => rfl
          case h =>
            intro w' hw'
            (have z1 := Keeps.cell hw' q1 trivial; have z2 := Keeps.cell hw' q2 trivial; have z3 := Keeps.cell hw' q3 trivial; have y1 := Keeps.cell hw' cx trivial; have y2 := Keeps.cell hw' cy trivial; have y3 := Keeps.cell hw' cz trivial)
            go_simp
            first | exact rfl | (fail)
          go_simp
          refine hK _ ?_; clear hK K))
  apply wpQuiet_nil
  intro w2 k2
  have q0 := Keeps.cell k2 q0 trivial; have q4 := Keeps.cell k2 q4 trivial
  have HK2 := hide (HK1.out.tr k2)
  clear k2 q1 q2 q3 cx cy cz
  have HW : Hid (wrap64 ((2 : Int) ^ N) = ((2 ^ N : Nat) : Int)) := hide (wrap_two20 hN)
  go_wp2_with fail
  refine HR.out _ _ (ret_bool ?_) HK2.out
  rw [HW.out]
  exact int_beq _ _

theorem holdsIn {o : AOp} {A B C N n x y z sb soff sc : Nat} {ka : Option Addr} {kc : Nat} (hN : N ≤ 20) (hA : A < n) (hB : B < n) (hC : C < n) (hx : x < 65536) (hy : y < 65536) (hz : z < 65536) (hn : n ≤ 6)
    (cx : w.cell? ⟨sb, soff + A, none⟩ = some (.int .i64 (x : Int))) (cy : w.cell? ⟨sb, soff + B, none⟩ = some (.int .i64 (y : Int))) (cz : w.cell? ⟨sb, soff + C, none⟩ = some (.int .i64 (z : Int)))
    (hR : ∀ e w', e = .returned (.bool (holdsO o N x y z)) → Same w w' → R e w') :
    Calls Try.prog 35 #[.agg #[.string o.name, .int .i64 (A : Int), .int .i64 (B : Int), .int .i64 (C : Int), .int .i64 (N : Int), .slice ka 0 kc], .slice (some ⟨sb, soff, none⟩) n sc, .int .i64 0] w R := by
  cases o with
  | tru => exact holdsIn_tru hN hA hB hC hx hy hz hn cx cy cz hR
  | sub => exact holdsIn_sub hN hA hB hC hx hy hz hn cx cy cz hR
  | non => exact holdsIn_non hN hA hB hC hx hy hz hn cx cy cz hR
  | uni => exact holdsIn_uni hN hA hB hC hx hy hz hn cx cy cz hR
  | int => exact holdsIn_int hN hA hB hC hx hy hz hn cx cy cz hR
  | mns => exact holdsIn_mns hN hA hB hC hx hy hz hn cx cy cz hR
  | sing => exact holdsIn_sing hN hA hB hC hx hy hz hn cx cy cz hR
  | flag => exact holdsIn_flag hN hA hB hC hx hy hz hn cx cy cz hR
  | less => exact holdsIn_less hN hA hB hC hx hy hz hn cx cy cz hR
  | plus => exact holdsIn_plus hN hA hB hC hx hy hz hn cx cy cz hR
  | num => exact holdsIn_num hN hA hB hC hx hy hz hn cx cy cz hR

set_option maxRecDepth 10000 in
set_option maxHeartbeats 1000000 in
theorem holdsNone {A B C N : Nat} {ka sa : Option Addr} {kc sc : Nat} (hR : ∀ e w', e = .returned (.bool true) → Same w w' → R e w') :
    Calls Try.prog 35 #[.agg #[.string (AOp.name .tru), .int .i64 (A : Int), .int .i64 (B : Int), .int .i64 (C : Int), .int .i64 (N : Int), .slice ka 0 kc], .slice sa 0 sc, .int .i64 0] w R := by
  have HR := hide hR
  clear hR
  have HK1 := hide ((Keeps.refl (fun _ => True) w).alloc (.cells #[.string (AOp.name .tru), .int .i64 (A : Int), .int .i64 (B : Int), .int .i64 (C : Int), .int .i64 (N : Int), .slice ka 0 kc] 24))
  unfold AOp.name at HK1 ⊢
  go_enter Try.func35, Try.ntmps35
  go_wp2_with fail
  exact HR.out _ _ rfl HK1.out

end Go.Proofs.Ytgpgbkoaopfjkaa
