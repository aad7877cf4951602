/- The walk of atom.Of at an atom that may not be. -/
import Derived.Test.YtgpgbkoaopfjkaaAtomOf2
import Derived.Test.YtgpgbkoaopfjkaaCoreIs2
import Derived.Test.YtgpgbkoaopfjkaaRef9c
namespace Go.Proofs.Ytgpgbkoaopfjkaa
open Go.RowKit

attribute [local irreducible] wpQuiet wpPlan wpPlanZ wpUp

variable {R : Ending → World → Prop} {w : World}

set_option maxRecDepth 10000 in
set_option maxHeartbeats 2000000 in
theorem atomAnyF_plus {A B C : Int} (Nv : Int) {ka : Option Addr} {kn kc : Nat} (hR : ∀ e w' F caps x y, e = .returned (.tuple #[.agg #[.func (.func F) #[] caps, .int .i64 x, .int .i64 y], .bool true]) → Same w w' → R e w') :
    Calls Try.prog 20 #[.agg #[.string (AOp.name .plus), .int .i64 A, .int .i64 B, .int .i64 C, .int .i64 Nv, .slice ka kn kc]] w R := by
  have HR := hide hR
  clear hR
  unfold AOp.name
  go_enter Try.func20, Try.ntmps20
  go_wp2_with fail
  refine atomCountedAny _ ?_; rintro e w1 F caps x y rfl k1
  obtain ⟨hb, HK, hsz⟩ := of_boxes _ _ k1
  have z0 := cell_at hb 0; have z1 := cell_at hb 1; have z2 := cell_at hb 2
  have f0 := free_at hb 0; have f1 := free_at hb 1; have f2 := free_at hb 2
  simp only [List.getElem?_toArray, List.getElem?_cons_zero, List.getElem?_cons_succ] at z0 z1 z2
  have HKF := hide HK
  skip
  clear HK k1 hb 
  go_wp2_with fail
  have hk := keeps_box HKF.out (show w.heap.size ≤ w.heap.size + 1 by omega) (.func (.func F) #[] caps) (.int .i64 x) (.int .i64 y)
  refine bodyPost_ret (v := .tuple #[.agg #[.func (.func F) #[] caps, .int .i64 x, .int .i64 y], .bool true]) (by simp [results, Try.results20, go_sem, z0, z1, z2]) rfl (HR.out _ _ _ _ _ _ rfl hk)

set_option maxRecDepth 10000 in
set_option maxHeartbeats 2000000 in
theorem atomAnyF_num {A B C : Int} (Nv : Int) {ka : Option Addr} {kn kc : Nat} (hR : ∀ e w' F caps x y, e = .returned (.tuple #[.agg #[.func (.func F) #[] caps, .int .i64 x, .int .i64 y], .bool true]) → Same w w' → R e w') :
    Calls Try.prog 20 #[.agg #[.string (AOp.name .num), .int .i64 A, .int .i64 B, .int .i64 C, .int .i64 Nv, .slice ka kn kc]] w R := by
  have HR := hide hR
  clear hR
  unfold AOp.name
  go_enter Try.func20, Try.ntmps20
  go_wp2_with fail
  refine atomNumberAny _ ?_; rintro e w1 F caps x y rfl k1
  obtain ⟨hb, HK, hsz⟩ := of_boxes _ _ k1
  have z0 := cell_at hb 0; have z1 := cell_at hb 1; have z2 := cell_at hb 2
  have f0 := free_at hb 0; have f1 := free_at hb 1; have f2 := free_at hb 2
  simp only [List.getElem?_toArray, List.getElem?_cons_zero, List.getElem?_cons_succ] at z0 z1 z2
  have HKF := hide HK
  skip
  clear HK k1 hb 
  go_wp2_with fail
  have hk := keeps_box HKF.out (show w.heap.size ≤ w.heap.size + 1 by omega) (.func (.func F) #[] caps) (.int .i64 x) (.int .i64 y)
  refine bodyPost_ret (v := .tuple #[.agg #[.func (.func F) #[] caps, .int .i64 x, .int .i64 y], .bool true]) (by simp [results, Try.results20, go_sem, z0, z1, z2]) rfl (HR.out _ _ _ _ _ _ rfl hk)

theorem atomOfAnyF {o : AOp} {A B C Nv : Int} {ka : Option Addr} {kn kc : Nat} (hR : ∀ e w' F caps x y, e = .returned (.tuple #[.agg #[.func (.func F) #[] caps, .int .i64 x, .int .i64 y], .bool true]) → Same w w' → R e w') :
    Calls Try.prog 20 #[.agg #[.string o.name, .int .i64 A, .int .i64 B, .int .i64 C, .int .i64 Nv, .slice ka kn kc]] w R := by
  have h : ∀ o, OfTells w o 0 R := fun o e w' F caps he _ _ hk => hR e w' _ _ _ _ he hk
  cases o with
  | tru => exact atomOf_tru 0 (h _)
  | sub => exact atomOf_sub 0 (h _)
  | non => exact atomOf_non 0 (h _)
  | uni => exact atomOf_uni 0 (h _)
  | int => exact atomOf_int 0 (h _)
  | mns => exact atomOf_mns 0 (h _)
  | sing => exact atomOf_sing 0 (h _)
  | flag => exact atomOf_flag 0 (h _)
  | less => exact atomOf_less 0 (h _)
  | plus => exact atomAnyF_plus Nv hR
  | num => exact atomAnyF_num Nv hR

set_option maxRecDepth 10000 in
set_option maxHeartbeats 2000000 in
theorem atomOfNoneF {op : ByteArray} {A B C Nv : Int} {ka : Option Addr} {kn kc : Nat} (hop : ∀ o : AOp, op ≠ o.name) (hR : ∀ e w', e = .returned (.tuple #[.agg #[.nilFunc, .int .i64 0, .int .i64 0], .bool false]) → Same w w' → R e w') :
    Calls Try.prog 20 #[.agg #[.string op, .int .i64 A, .int .i64 B, .int .i64 C, .int .i64 Nv, .slice ka kn kc]] w R := by
  have HR := hide hR
  have hne : ∀ o : AOp, (op.toList == o.name.toList) = false := fun o => (Go.Lib.bytes_beq_false_iff _ _).2 (hop o)
  have n0 : (op.toList == [116, 114, 117, 101]) = false := by have h := hne .tru; rw [ByteArray.toList_eq (AOp.name .tru)] at h; exact h
  have n1 : (op.toList == [115, 117, 98]) = false := by have h := hne .sub; rw [ByteArray.toList_eq (AOp.name .sub)] at h; exact h
  have n2 : (op.toList == [110, 111, 110, 101]) = false := by have h := hne .non; rw [ByteArray.toList_eq (AOp.name .non)] at h; exact h
  have n3 : (op.toList == [117, 110, 105, 111, 110]) = false := by have h := hne .uni; rw [ByteArray.toList_eq (AOp.name .uni)] at h; exact h
  have n4 : (op.toList == [105, 110, 116, 101, 114]) = false := by have h := hne .int; rw [ByteArray.toList_eq (AOp.name .int)] at h; exact h
  have n5 : (op.toList == [109, 105, 110, 117, 115]) = false := by have h := hne .mns; rw [ByteArray.toList_eq (AOp.name .mns)] at h; exact h
  have n6 : (op.toList == [115, 105, 110, 103]) = false := by have h := hne .sing; rw [ByteArray.toList_eq (AOp.name .sing)] at h; exact h
  have n7 : (op.toList == [102, 108, 97, 103]) = false := by have h := hne .flag; rw [ByteArray.toList_eq (AOp.name .flag)] at h; exact h
  have n8 : (op.toList == [108, 101, 115, 115]) = false := by have h := hne .less; rw [ByteArray.toList_eq (AOp.name .less)] at h; exact h
  have n9 : (op.toList == [112, 108, 117, 115]) = false := by have h := hne .plus; rw [ByteArray.toList_eq (AOp.name .plus)] at h; exact h
  have n10 : (op.toList == [110, 117, 109]) = false := by have h := hne .num; rw [ByteArray.toList_eq (AOp.name .num)] at h; exact h
  clear hR hne hop
  go_enter Try.func20, Try.ntmps20
  go_wp2_with fail
  refine bodyPost_ret (v := .tuple #[.agg #[.nilFunc, .int .i64 0, .int .i64 0], .bool false]) (by simp [results, Try.results20, go_sem]) rfl (HR.out _ _ rfl (((Keeps.refl _ w).alloc _).alloc _))

set_option maxRecDepth 10000 in
set_option maxHeartbeats 4000000 in
theorem atomOfBad {h : Nat} {op : ByteArray} {a b c N n : Int} {ka : Option Addr} {kn kc : Nat} (hv : CoreIn w h (.agg #[.string op, .int .i64 a, .int .i64 b, .int .i64 c, .int .i64 N, .slice ka kn kc])) (hbad : ¬ GoodC op a b c N n kn)
    (hR : ∀ e w', e = .returned (.tuple #[.pointer none, .int .i64 1]) → Same w w' → R e w') :
    Calls Try.prog 9 #[.agg #[.string op, .int .i64 a, .int .i64 b, .int .i64 c, .int .i64 N, .slice ka kn kc], .int .i64 n] w R := by
  have HR := hide hR
  clear hR
  have hk1 : Same w (w.alloc (.cells #[.string op, .int .i64 a, .int .i64 b, .int .i64 c, .int .i64 N, .slice ka kn kc] 24)) := (Keeps.refl _ w).alloc _
  have HV := hide (CoreIn.same hk1 hv)
  have HK1 := hide hk1
  have HB1 := hide (heap_new w (.cells #[.string op, .int .i64 a, .int .i64 b, .int .i64 c, .int .i64 N, .slice ka kn kc] 24))
  have HBAD := hide hbad
  clear hv hk1 hbad
  go_enter Try.func9, Try.ntmps9
  go_wp2_with fail
  generalize w.alloc (.cells #[.string op, .int .i64 a, .int .i64 b, .int .i64 c, .int .i64 N, .slice ka kn kc] 24) = w1 at HB1 HK1 HV ⊢
  generalize w.heap.size = xc at HB1 ⊢
  by_cases hop : ∃ o : AOp, op = o.name
  · obtain ⟨o, rfl⟩ := hop
    refine atomOfAnyF ?_; rintro e w2 F caps x y rfl k2
    have hb2 := k2.at HB1.out trivial
    have HK2 := hide (HK1.out.tr k2)
    have HV2 := hide (CoreIn.same k2 HV.out)
    have q0 := cell_at hb2 0; have q1 := cell_at hb2 1; have q2 := cell_at hb2 2; have q3 := cell_at hb2 3; have q4 := cell_at hb2 4; have q5 := cell_at hb2 5
    simp only [List.getElem?_toArray, List.getElem?_cons_zero, List.getElem?_cons_succ] at q0 q1 q2 q3 q4 q5
    clear k2 hb2
    have km : Same w2 (w2.alloc (.cells #[.func (.func F) #[] caps, .int .i64 x, .int .i64 y] 53)) := (Keeps.refl _ w2).alloc _
    have q0 := Keeps.cell km q0 trivial; have q1 := Keeps.cell km q1 trivial; have q2 := Keeps.cell km q2 trivial; have q3 := Keeps.cell km q3 trivial; have q4 := Keeps.cell km q4 trivial; have q5 := Keeps.cell km q5 trivial
    have HKM := hide km
    clear km
    go_wp2_with fail
    refine coreIs (CoreIn.same HKM.out HV2.out) ?_; rintro e w3 r rfl hr k3
    have HK3 := hide ((HK2.out.tr HKM.out).tr k3)
    cases r with
    | true => exact absurd ⟨(hr.1 rfl).1, (hr.1 rfl).2.1, o, rfl, (hr.1 rfl).2.2⟩ HBAD.out
    | false =>
      clear hr k3 q0 q1 q2 q3 q4 q5
      go_wp2_with fail
      exact HR.out _ _ rfl HK3.out
  · refine atomOfNoneF (fun o e => hop ⟨o, e⟩) ?_; rintro e w2 rfl k2
    have HK2 := hide (HK1.out.tr k2)
    clear k2
    have km : Same w2 (w2.alloc (.cells #[.nilFunc, .int .i64 0, .int .i64 0] 53)) := (Keeps.refl _ w2).alloc _
    have HK3 := hide (HK2.out.tr km)
    clear km
    go_wp2_with fail
    exact HR.out _ _ rfl HK3.out

end Go.Proofs.Ytgpgbkoaopfjkaa
