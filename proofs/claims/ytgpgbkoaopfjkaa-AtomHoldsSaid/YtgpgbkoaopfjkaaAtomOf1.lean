/- The walk of atom.of: an atom's machine. -/
import Derived.Test.YtgpgbkoaopfjkaaAtomFn
import Derived.Test.YtgpgbkoaopfjkaaCore
import Derived.Lib.SlicesS
namespace Go.Proofs.Ytgpgbkoaopfjkaa
open Go.RowKit

attribute [local irreducible] wpQuiet wpPlan wpPlanZ wpUp

variable {R : Ending → World → Prop} {w : World}

theorem callFunc_of1 (args : Array Value) (w : World) : (callFunc 38 args).run Try.prog w = .ok (.enter 38 args) w := by kernel_rfl
theorem callFunc_of2 (args : Array Value) (w : World) : (callFunc 39 args).run Try.prog w = .ok (.enter 39 args) w := by kernel_rfl
theorem callFunc_of3 (args : Array Value) (w : World) : (callFunc 40 args).run Try.prog w = .ok (.enter 40 args) w := by kernel_rfl
theorem callFunc_of4 (args : Array Value) (w : World) : (callFunc 41 args).run Try.prog w = .ok (.enter 41 args) w := by kernel_rfl
theorem callFunc_of5 (args : Array Value) (w : World) : (callFunc 42 args).run Try.prog w = .ok (.enter 42 args) w := by kernel_rfl
theorem callFunc_of6 (args : Array Value) (w : World) : (callFunc 43 args).run Try.prog w = .ok (.enter 43 args) w := by kernel_rfl
theorem callFunc_same1 (args : Array Value) (w : World) : (callFunc 70 args).run Try.prog w = .ok (.enter 70 args) w := by kernel_rfl
theorem callFunc_counted1 (args : Array Value) (w : World) : (callFunc 71 args).run Try.prog w = .ok (.enter 71 args) w := by kernel_rfl
theorem callFunc_number1 (args : Array Value) (w : World) : (callFunc 72 args).run Try.prog w = .ok (.enter 72 args) w := by kernel_rfl
theorem callFunc_single (args : Array Value) (w : World) : (callFunc 44 args).run Try.prog w = .ok (.enter 44 args) w := by kernel_rfl
theorem callFunc_first (args : Array Value) (w : World) : (callFunc 45 args).run Try.prog w = .ok (.enter 45 args) w := by kernel_rfl
theorem callFunc_later (args : Array Value) (w : World) : (callFunc 46 args).run Try.prog w = .ok (.enter 46 args) w := by kernel_rfl

set_option maxHeartbeats 1000000 in
theorem atomSame {G : Nat} (hR : ∀ e w' p, e = .returned (.agg #[.func (.func 70) #[] #[.pointer (some ⟨p, 0, none⟩)], .int .i64 0, .int .i64 1]) → w'.cell? ⟨p, 0, none⟩ = some (.func (.func G) #[] #[]) → Same w w' → R e w') :
    Calls Try.prog 37 #[.func (.func G) #[] #[]] w R := by
  have HR := hide hR
  clear hR
  go_enter Try.func37, Try.ntmps37
  go_wp2_with fail
  refine bodyPost_ret (v := .agg #[.func (.func 70) #[] #[.pointer (some ⟨w.heap.size, 0, none⟩)], .int .i64 0, .int .i64 1]) (by simp [results, Try.results37, go_sem]) rfl (HR.out _ _ w.heap.size rfl ?_ (((Keeps.refl _ w).alloc _).alloc _))
  exact cell_at (heap_old (heap_new w _) _) 0

set_option maxHeartbeats 1000000 in
theorem atomCounted {N : Nat} (hN : N ≤ 20) (hR : ∀ e w' p q, e = .returned (.agg #[.func (.func 71) #[] #[.pointer (some ⟨p, 0, none⟩), .pointer (some ⟨q, 0, none⟩)], .int .i64 ((N : Int) + 1), .int .i64 ((N : Int) + 1 + 1)]) →
      w'.cell? ⟨p, 0, none⟩ = some (.int .i64 (N : Int)) → w'.cell? ⟨q, 0, none⟩ = some (.int .i64 ((N : Int) + 1)) → Same w w' → R e w') :
    Calls Try.prog 47 #[.int .i64 (N : Int)] w R := by
  have HR := hide hR
  clear hR
  go_enter Try.func47, Try.ntmps47
  go_wp2_with fail
  refine bodyPost_ret (v := .agg #[.func (.func 71) #[] #[.pointer (some ⟨w.heap.size, 0, none⟩), .pointer (some ⟨w.heap.size + 1 + 1, 0, none⟩)], .int .i64 ((N : Int) + 1), .int .i64 ((N : Int) + 1 + 1)]) (by simp [results, Try.results47, go_sem]) rfl (HR.out _ _ w.heap.size (w.heap.size + 1 + 1) rfl ?_ ?_ ((((Keeps.refl _ w).alloc _).alloc _).alloc _))
  · exact cell_at (heap_old (heap_old (heap_new w _) _) _) 0
  have := cell_at (heap_new ((w.alloc (.cells #[.int .i64 (N : Int)] 3)).alloc (.cells #[.func (.func 71) #[] #[.pointer (some ⟨w.heap.size, 0, none⟩), .pointer (some ⟨w.heap.size + 1 + 1, 0, none⟩)], .int .i64 ((N : Int) + 1), .int .i64 ((N : Int) + 1 + 1)] 53)) (.cells #[.int .i64 ((N : Int) + 1)] 3)) 0
  simpa using this

set_option maxHeartbeats 1000000 in
theorem atomCountedAny (N : Int) (hR : ∀ e w' F caps x y, e = .returned (.agg #[.func (.func F) #[] caps, .int .i64 x, .int .i64 y]) → Same w w' → R e w') :
    Calls Try.prog 47 #[.int .i64 N] w R := by
  have HR := hide hR
  clear hR
  go_enter Try.func47, Try.ntmps47
  go_wp2_with fail
  refine bodyPost_ret (v := .agg #[.func (.func 71) #[] #[.pointer (some ⟨w.heap.size, 0, none⟩), .pointer (some ⟨w.heap.size + 1 + 1, 0, none⟩)], .int .i64 (wrap64 (N + 1)), .int .i64 (wrap64 (wrap64 (N + 1) + 1))]) (by simp [results, Try.results47, go_sem]) rfl (HR.out _ _ _ _ _ _ rfl ((((Keeps.refl _ w).alloc _).alloc _).alloc _))

set_option maxHeartbeats 1000000 in
theorem atomNumber {N : Nat} (hN : N ≤ 20) (hR : ∀ e w' p q, e = .returned (.agg #[.func (.func 72) #[] #[.pointer (some ⟨q, 0, none⟩), .pointer (some ⟨p, 0, none⟩)], .int .i64 ((N : Int) + 1), .int .i64 ((N : Int) + 1 + 1)]) →
      w'.cell? ⟨p, 0, none⟩ = some (.int .i64 (N : Int)) → w'.cell? ⟨q, 0, none⟩ = some (.int .i64 ((N : Int) + 1)) → Same w w' → R e w') :
    Calls Try.prog 48 #[.int .i64 (N : Int)] w R := by
  have HR := hide hR
  clear hR
  go_enter Try.func48, Try.ntmps48
  go_wp2_with fail
  refine bodyPost_ret (v := .agg #[.func (.func 72) #[] #[.pointer (some ⟨w.heap.size + 1 + 1, 0, none⟩), .pointer (some ⟨w.heap.size, 0, none⟩)], .int .i64 ((N : Int) + 1), .int .i64 ((N : Int) + 1 + 1)]) (by simp [results, Try.results48, go_sem]) rfl (HR.out _ _ w.heap.size (w.heap.size + 1 + 1) rfl ?_ ?_ ((((Keeps.refl _ w).alloc _).alloc _).alloc _))
  · exact cell_at (heap_old (heap_old (heap_new w _) _) _) 0
  have := cell_at (heap_new ((w.alloc (.cells #[.int .i64 (N : Int)] 3)).alloc (.cells #[.func (.func 72) #[] #[.pointer (some ⟨w.heap.size + 1 + 1, 0, none⟩), .pointer (some ⟨w.heap.size, 0, none⟩)], .int .i64 ((N : Int) + 1), .int .i64 ((N : Int) + 1 + 1)] 53)) (.cells #[.int .i64 ((N : Int) + 1)] 3)) 0
  simpa using this

set_option maxHeartbeats 1000000 in
theorem atomNumberAny (N : Int) (hR : ∀ e w' F caps x y, e = .returned (.agg #[.func (.func F) #[] caps, .int .i64 x, .int .i64 y]) → Same w w' → R e w') :
    Calls Try.prog 48 #[.int .i64 N] w R := by
  have HR := hide hR
  clear hR
  go_enter Try.func48, Try.ntmps48
  go_wp2_with fail
  refine bodyPost_ret (v := .agg #[.func (.func 72) #[] #[.pointer (some ⟨w.heap.size + 1 + 1, 0, none⟩), .pointer (some ⟨w.heap.size, 0, none⟩)], .int .i64 (wrap64 (N + 1)), .int .i64 (wrap64 (wrap64 (N + 1) + 1))]) (by simp [results, Try.results48, go_sem]) rfl (HR.out _ _ _ _ _ _ rfl ((((Keeps.refl _ w).alloc _).alloc _).alloc _))

/-- What atom.of tells of an atom. -/
def OfTells (w : World) (o : AOp) (N : Nat) (R : Ending → World → Prop) : Prop :=
  ∀ e w' F caps, e = .returned (.tuple #[.agg #[.func (.func F) #[] caps, .int .i64 (lastO o N : Int), .int .i64 ((lastO o N : Int) + 1)], .bool true]) → (∀ args w, (callFunc F args).run Try.prog w = .ok (.enter F args) w) → AnsM F caps o N w' → Same w w' → R e w'

/-- The boxes of atom.of, behind a call. -/
theorem of_boxes {w w1 : World} (cs : Array Value) (t : TypeId) (k1 : Same ((w.alloc (.cells cs t)).alloc (.cells #[.nilFunc, .int .i64 0, .int .i64 0] 53)) w1) :
    w1.heap[w.heap.size + 1]? = some (.cells #[.nilFunc, .int .i64 0, .int .i64 0] 53 (0, 0)) ∧ Same w w1 ∧ w.heap.size + 2 ≤ w1.heap.size := by
  have h := heap_new (w.alloc (.cells cs t)) (.cells #[.nilFunc, .int .i64 0, .int .i64 0] 53)
  have hs := k1.size
  have e1 : (w.alloc (.cells cs t)).heap.size = w.heap.size + 1 := by simp
  have e2 : ((w.alloc (.cells cs t)).alloc (.cells #[.nilFunc, .int .i64 0, .int .i64 0] 53)).heap.size = w.heap.size + 1 + 1 := by simp
  rw [e1] at h
  exact ⟨k1.at h trivial, (((Keeps.refl _ w).alloc _).alloc _).tr k1, by omega⟩

/-- A new block written keeps what was there. -/
theorem keeps_box {w w1 : World} (k : Same w w1) {b : Nat} (hb : w.heap.size ≤ b) (x y z : Value) : Same w (((w1.setCell ⟨b, 0, none⟩ x).setCell ⟨b, 1, none⟩ y).setCell ⟨b, 2, none⟩ z) :=
  ((k.setCell (fun h => absurd h.1 (Nat.not_lt.2 hb)) x).setCell (fun h => absurd h.1 (Nat.not_lt.2 hb)) y).setCell (fun h => absurd h.1 (Nat.not_lt.2 hb)) z

theorem cell_box {w1 : World} {b p : Nat} {v : Value} (h : w1.cell? ⟨p, 0, none⟩ = some v) (hp : p ≠ b) (x y z : Value) : (((w1.setCell ⟨b, 0, none⟩ x).setCell ⟨b, 1, none⟩ y).setCell ⟨b, 2, none⟩ z).cell? ⟨p, 0, none⟩ = some v := by
  rw [World.cell?_of_block (w := w1)]
  · exact h
  · show (((w1.setCell ⟨b, 0, none⟩ x).setCell ⟨b, 1, none⟩ y).setCell ⟨b, 2, none⟩ z).heap[p]? = w1.heap[p]?
    rw [heap_setCell_ne hp, heap_setCell_ne hp, heap_setCell_ne hp]

theorem box_ne {w1 : World} {b p : Nat} {v x y z : Value} (h : w1.cell? ⟨p, 0, none⟩ = some v) (hb : w1.heap[b]? = some (.cells #[x, y, z] 53 (0, 0))) (hx : x = .nilFunc) (hv : v ≠ .nilFunc) : p ≠ b := by
  rintro rfl
  rw [cell_at hb 0] at h
  simp [hx] at h
  exact hv h.symm

set_option maxRecDepth 10000 in
set_option maxHeartbeats 2000000 in
theorem atomOf_tru {A B C : Int} {Nv : Int} (N : Nat) {ka : Option Addr} {kn kc : Nat} (hR : OfTells w .tru N R) :
    Calls Try.prog 20 #[.agg #[.string (AOp.name .tru), .int .i64 A, .int .i64 B, .int .i64 C, .int .i64 Nv, .slice ka kn kc]] w R := by
  have HR := hide hR
  clear hR
  unfold AOp.name
  go_enter Try.func20, Try.ntmps20
  go_wp2_with fail
  refine atomSame ?_; rintro e w1 p rfl hp k1
  obtain ⟨hb, HK, hsz⟩ := of_boxes _ _ k1
  have z0 := cell_at hb 0; have z1 := cell_at hb 1; have z2 := cell_at hb 2
  have f0 := free_at hb 0; have f1 := free_at hb 1; have f2 := free_at hb 2
  simp only [List.getElem?_toArray, List.getElem?_cons_zero, List.getElem?_cons_succ] at z0 z1 z2
  have HKF := hide HK
  have HP := hide (cell_box hp (box_ne hp hb rfl (by simp)))
  clear HK k1 hb hp
  go_wp2_with fail
  have hk := keeps_box HKF.out (show w.heap.size ≤ w.heap.size + 1 by omega) (.func (.func 70) #[] #[.pointer (some ⟨p, 0, none⟩)]) (.int .i64 0) (.int .i64 1)
  refine bodyPost_ret (v := .tuple #[.agg #[.func (.func 70) #[] #[.pointer (some ⟨p, 0, none⟩)], .int .i64 0, .int .i64 1], .bool true]) (by simp [results, Try.results20, go_sem, z0, z1, z2]) rfl (HR.out _ _ _ _ rfl callFunc_same1 (sameFn rfl callFunc_of1 askFn1 (HP.out _ _ _)) hk)

set_option maxRecDepth 10000 in
set_option maxHeartbeats 2000000 in
theorem atomOf_sub {A B C : Int} {Nv : Int} (N : Nat) {ka : Option Addr} {kn kc : Nat} (hR : OfTells w .sub N R) :
    Calls Try.prog 20 #[.agg #[.string (AOp.name .sub), .int .i64 A, .int .i64 B, .int .i64 C, .int .i64 Nv, .slice ka kn kc]] w R := by
  have HR := hide hR
  clear hR
  unfold AOp.name
  go_enter Try.func20, Try.ntmps20
  go_wp2_with fail
  refine atomSame ?_; rintro e w1 p rfl hp k1
  obtain ⟨hb, HK, hsz⟩ := of_boxes _ _ k1
  have z0 := cell_at hb 0; have z1 := cell_at hb 1; have z2 := cell_at hb 2
  have f0 := free_at hb 0; have f1 := free_at hb 1; have f2 := free_at hb 2
  simp only [List.getElem?_toArray, List.getElem?_cons_zero, List.getElem?_cons_succ] at z0 z1 z2
  have HKF := hide HK
  have HP := hide (cell_box hp (box_ne hp hb rfl (by simp)))
  clear HK k1 hb hp
  go_wp2_with fail
  have hk := keeps_box HKF.out (show w.heap.size ≤ w.heap.size + 1 by omega) (.func (.func 70) #[] #[.pointer (some ⟨p, 0, none⟩)]) (.int .i64 0) (.int .i64 1)
  refine bodyPost_ret (v := .tuple #[.agg #[.func (.func 70) #[] #[.pointer (some ⟨p, 0, none⟩)], .int .i64 0, .int .i64 1], .bool true]) (by simp [results, Try.results20, go_sem, z0, z1, z2]) rfl (HR.out _ _ _ _ rfl callFunc_same1 (sameFn rfl callFunc_of2 askFn2 (HP.out _ _ _)) hk)

set_option maxRecDepth 10000 in
set_option maxHeartbeats 2000000 in
theorem atomOf_non {A B C : Int} {Nv : Int} (N : Nat) {ka : Option Addr} {kn kc : Nat} (hR : OfTells w .non N R) :
    Calls Try.prog 20 #[.agg #[.string (AOp.name .non), .int .i64 A, .int .i64 B, .int .i64 C, .int .i64 Nv, .slice ka kn kc]] w R := by
  have HR := hide hR
  clear hR
  unfold AOp.name
  go_enter Try.func20, Try.ntmps20
  go_wp2_with fail
  refine atomSame ?_; rintro e w1 p rfl hp k1
  obtain ⟨hb, HK, hsz⟩ := of_boxes _ _ k1
  have z0 := cell_at hb 0; have z1 := cell_at hb 1; have z2 := cell_at hb 2
  have f0 := free_at hb 0; have f1 := free_at hb 1; have f2 := free_at hb 2
  simp only [List.getElem?_toArray, List.getElem?_cons_zero, List.getElem?_cons_succ] at z0 z1 z2
  have HKF := hide HK
  have HP := hide (cell_box hp (box_ne hp hb rfl (by simp)))
  clear HK k1 hb hp
  go_wp2_with fail
  have hk := keeps_box HKF.out (show w.heap.size ≤ w.heap.size + 1 by omega) (.func (.func 70) #[] #[.pointer (some ⟨p, 0, none⟩)]) (.int .i64 0) (.int .i64 1)
  refine bodyPost_ret (v := .tuple #[.agg #[.func (.func 70) #[] #[.pointer (some ⟨p, 0, none⟩)], .int .i64 0, .int .i64 1], .bool true]) (by simp [results, Try.results20, go_sem, z0, z1, z2]) rfl (HR.out _ _ _ _ rfl callFunc_same1 (sameFn rfl callFunc_of3 askFn3 (HP.out _ _ _)) hk)

set_option maxRecDepth 10000 in
set_option maxHeartbeats 2000000 in
theorem atomOf_uni {A B C : Int} {Nv : Int} (N : Nat) {ka : Option Addr} {kn kc : Nat} (hR : OfTells w .uni N R) :
    Calls Try.prog 20 #[.agg #[.string (AOp.name .uni), .int .i64 A, .int .i64 B, .int .i64 C, .int .i64 Nv, .slice ka kn kc]] w R := by
  have HR := hide hR
  clear hR
  unfold AOp.name
  go_enter Try.func20, Try.ntmps20
  go_wp2_with fail
  refine atomSame ?_; rintro e w1 p rfl hp k1
  obtain ⟨hb, HK, hsz⟩ := of_boxes _ _ k1
  have z0 := cell_at hb 0; have z1 := cell_at hb 1; have z2 := cell_at hb 2
  have f0 := free_at hb 0; have f1 := free_at hb 1; have f2 := free_at hb 2
  simp only [List.getElem?_toArray, List.getElem?_cons_zero, List.getElem?_cons_succ] at z0 z1 z2
  have HKF := hide HK
  have HP := hide (cell_box hp (box_ne hp hb rfl (by simp)))
  clear HK k1 hb hp
  go_wp2_with fail
  have hk := keeps_box HKF.out (show w.heap.size ≤ w.heap.size + 1 by omega) (.func (.func 70) #[] #[.pointer (some ⟨p, 0, none⟩)]) (.int .i64 0) (.int .i64 1)
  refine bodyPost_ret (v := .tuple #[.agg #[.func (.func 70) #[] #[.pointer (some ⟨p, 0, none⟩)], .int .i64 0, .int .i64 1], .bool true]) (by simp [results, Try.results20, go_sem, z0, z1, z2]) rfl (HR.out _ _ _ _ rfl callFunc_same1 (sameFn rfl callFunc_of4 askFn4 (HP.out _ _ _)) hk)

set_option maxRecDepth 10000 in
set_option maxHeartbeats 2000000 in
theorem atomOf_int {A B C : Int} {Nv : Int} (N : Nat) {ka : Option Addr} {kn kc : Nat} (hR : OfTells w .int N R) :
    Calls Try.prog 20 #[.agg #[.string (AOp.name .int), .int .i64 A, .int .i64 B, .int .i64 C, .int .i64 Nv, .slice ka kn kc]] w R := by
  have HR := hide hR
  clear hR
  unfold AOp.name
  go_enter Try.func20, Try.ntmps20
  go_wp2_with fail
  refine atomSame ?_; rintro e w1 p rfl hp k1
  obtain ⟨hb, HK, hsz⟩ := of_boxes _ _ k1
  have z0 := cell_at hb 0; have z1 := cell_at hb 1; have z2 := cell_at hb 2
  have f0 := free_at hb 0; have f1 := free_at hb 1; have f2 := free_at hb 2
  simp only [List.getElem?_toArray, List.getElem?_cons_zero, List.getElem?_cons_succ] at z0 z1 z2
  have HKF := hide HK
  have HP := hide (cell_box hp (box_ne hp hb rfl (by simp)))
  clear HK k1 hb hp
  go_wp2_with fail
  have hk := keeps_box HKF.out (show w.heap.size ≤ w.heap.size + 1 by omega) (.func (.func 70) #[] #[.pointer (some ⟨p, 0, none⟩)]) (.int .i64 0) (.int .i64 1)
  refine bodyPost_ret (v := .tuple #[.agg #[.func (.func 70) #[] #[.pointer (some ⟨p, 0, none⟩)], .int .i64 0, .int .i64 1], .bool true]) (by simp [results, Try.results20, go_sem, z0, z1, z2]) rfl (HR.out _ _ _ _ rfl callFunc_same1 (sameFn rfl callFunc_of5 askFn5 (HP.out _ _ _)) hk)

set_option maxRecDepth 10000 in
set_option maxHeartbeats 2000000 in
theorem atomOf_mns {A B C : Int} {Nv : Int} (N : Nat) {ka : Option Addr} {kn kc : Nat} (hR : OfTells w .mns N R) :
    Calls Try.prog 20 #[.agg #[.string (AOp.name .mns), .int .i64 A, .int .i64 B, .int .i64 C, .int .i64 Nv, .slice ka kn kc]] w R := by
  have HR := hide hR
  clear hR
  unfold AOp.name
  go_enter Try.func20, Try.ntmps20
  go_wp2_with fail
  refine atomSame ?_; rintro e w1 p rfl hp k1
  obtain ⟨hb, HK, hsz⟩ := of_boxes _ _ k1
  have z0 := cell_at hb 0; have z1 := cell_at hb 1; have z2 := cell_at hb 2
  have f0 := free_at hb 0; have f1 := free_at hb 1; have f2 := free_at hb 2
  simp only [List.getElem?_toArray, List.getElem?_cons_zero, List.getElem?_cons_succ] at z0 z1 z2
  have HKF := hide HK
  have HP := hide (cell_box hp (box_ne hp hb rfl (by simp)))
  clear HK k1 hb hp
  go_wp2_with fail
  have hk := keeps_box HKF.out (show w.heap.size ≤ w.heap.size + 1 by omega) (.func (.func 70) #[] #[.pointer (some ⟨p, 0, none⟩)]) (.int .i64 0) (.int .i64 1)
  refine bodyPost_ret (v := .tuple #[.agg #[.func (.func 70) #[] #[.pointer (some ⟨p, 0, none⟩)], .int .i64 0, .int .i64 1], .bool true]) (by simp [results, Try.results20, go_sem, z0, z1, z2]) rfl (HR.out _ _ _ _ rfl callFunc_same1 (sameFn rfl callFunc_of6 askFn6 (HP.out _ _ _)) hk)

set_option maxRecDepth 10000 in
set_option maxHeartbeats 2000000 in
theorem atomOf_sing {A B C : Int} {Nv : Int} (N : Nat) {ka : Option Addr} {kn kc : Nat} (hR : OfTells w .sing N R) :
    Calls Try.prog 20 #[.agg #[.string (AOp.name .sing), .int .i64 A, .int .i64 B, .int .i64 C, .int .i64 Nv, .slice ka kn kc]] w R := by
  have HR := hide hR
  clear hR
  unfold AOp.name
  go_enter Try.func20, Try.ntmps20
  go_wp2_with fail
  refine bodyPost_ret (v := .tuple #[.agg #[.func (.func 44) #[] #[], .int .i64 1, .int .i64 2], .bool true]) (by simp [results, Try.results20, go_sem]) rfl (HR.out _ _ _ _ rfl callFunc_single (singleFn N) (((Keeps.refl _ w).alloc _).alloc _))

set_option maxRecDepth 10000 in
set_option maxHeartbeats 2000000 in
theorem atomOf_flag {A B C : Int} {Nv : Int} (N : Nat) {ka : Option Addr} {kn kc : Nat} (hR : OfTells w .flag N R) :
    Calls Try.prog 20 #[.agg #[.string (AOp.name .flag), .int .i64 A, .int .i64 B, .int .i64 C, .int .i64 Nv, .slice ka kn kc]] w R := by
  have HR := hide hR
  clear hR
  unfold AOp.name
  go_enter Try.func20, Try.ntmps20
  go_wp2_with fail
  refine bodyPost_ret (v := .tuple #[.agg #[.func (.func 45) #[] #[], .int .i64 1, .int .i64 2], .bool true]) (by simp [results, Try.results20, go_sem]) rfl (HR.out _ _ _ _ rfl callFunc_first (firstFn N) (((Keeps.refl _ w).alloc _).alloc _))

set_option maxRecDepth 10000 in
set_option maxHeartbeats 2000000 in
theorem atomOf_less {A B C : Int} {Nv : Int} (N : Nat) {ka : Option Addr} {kn kc : Nat} (hR : OfTells w .less N R) :
    Calls Try.prog 20 #[.agg #[.string (AOp.name .less), .int .i64 A, .int .i64 B, .int .i64 C, .int .i64 Nv, .slice ka kn kc]] w R := by
  have HR := hide hR
  clear hR
  unfold AOp.name
  go_enter Try.func20, Try.ntmps20
  go_wp2_with fail
  refine bodyPost_ret (v := .tuple #[.agg #[.func (.func 46) #[] #[], .int .i64 2, .int .i64 3], .bool true]) (by simp [results, Try.results20, go_sem]) rfl (HR.out _ _ _ _ rfl callFunc_later (laterFn N) (((Keeps.refl _ w).alloc _).alloc _))

set_option maxRecDepth 10000 in
set_option maxHeartbeats 2000000 in
theorem atomOf_plus {A B C : Int} {N : Nat} {ka : Option Addr} {kn kc : Nat} (hN : N ≤ 20) (hR : OfTells w .plus N R) :
    Calls Try.prog 20 #[.agg #[.string (AOp.name .plus), .int .i64 A, .int .i64 B, .int .i64 C, .int .i64 (N : Int), .slice ka kn kc]] w R := by
  have HR := hide hR
  clear hR
  unfold AOp.name
  go_enter Try.func20, Try.ntmps20
  go_wp2_with fail
  refine atomCounted hN ?_; rintro e w1 p q rfl hp hq k1
  obtain ⟨hb, HK, hsz⟩ := of_boxes _ _ k1
  have z0 := cell_at hb 0; have z1 := cell_at hb 1; have z2 := cell_at hb 2
  have f0 := free_at hb 0; have f1 := free_at hb 1; have f2 := free_at hb 2
  simp only [List.getElem?_toArray, List.getElem?_cons_zero, List.getElem?_cons_succ] at z0 z1 z2
  have HKF := hide HK
  have HP := hide (cell_box hp (box_ne hp hb rfl (by simp)))
  have HQ := hide (cell_box hq (box_ne hq hb rfl (by simp)))
  clear HK k1 hb hp hq
  go_wp2_with fail
  have hk := keeps_box HKF.out (show w.heap.size ≤ w.heap.size + 1 by omega) (.func (.func 71) #[] #[.pointer (some ⟨p, 0, none⟩), .pointer (some ⟨q, 0, none⟩)]) (.int .i64 ((N : Int) + 1)) (.int .i64 ((N : Int) + 1 + 1))
  refine bodyPost_ret (v := .tuple #[.agg #[.func (.func 71) #[] #[.pointer (some ⟨p, 0, none⟩), .pointer (some ⟨q, 0, none⟩)], .int .i64 ((N : Int) + 1), .int .i64 ((N : Int) + 1 + 1)], .bool true]) (by simp [results, Try.results20, go_sem, z0, z1, z2]) rfl (HR.out _ _ _ _ rfl callFunc_counted1 (countedFn hN (HP.out _ _ _) (HQ.out _ _ _)) hk)

set_option maxRecDepth 10000 in
set_option maxHeartbeats 2000000 in
theorem atomAny_plus {A B C : Int} (Nv : Int) {ka : Option Addr} {kn kc : Nat} (hR : ∀ e w' f x y, e = .returned (.tuple #[.agg #[f, .int .i64 x, .int .i64 y], .bool true]) → Same w w' → R e w') :
    Calls Try.prog 20 #[.agg #[.string (AOp.name .plus), .int .i64 A, .int .i64 B, .int .i64 C, .int .i64 Nv, .slice ka kn kc]] w R := by
  have HR := hide hR
  clear hR
  unfold AOp.name
  go_enter Try.func20, Try.ntmps20
  go_wp2_with fail
  refine atomCountedAny _ ?_; rintro e w1 F caps x y rfl k1
  obtain ⟨hb, HK, hsz⟩ := of_boxes _ _ k1
  have z0 := cell_at hb 0; have z1 := cell_at hb 1; have z2 := cell_at hb 2
  have f0 := free_at hb 0; have f1 := free_at hb 1; have f2 := free_at hb 2
  simp only [List.getElem?_toArray, List.getElem?_cons_zero, List.getElem?_cons_succ] at z0 z1 z2
  have HKF := hide HK
  skip
  clear HK k1 hb 
  go_wp2_with fail
  have hk := keeps_box HKF.out (show w.heap.size ≤ w.heap.size + 1 by omega) (.func (.func F) #[] caps) (.int .i64 x) (.int .i64 y)
  refine bodyPost_ret (v := .tuple #[.agg #[.func (.func F) #[] caps, .int .i64 x, .int .i64 y], .bool true]) (by simp [results, Try.results20, go_sem, z0, z1, z2]) rfl (HR.out _ _ _ _ _ rfl hk)

set_option maxRecDepth 10000 in
set_option maxHeartbeats 2000000 in
theorem atomOf_num {A B C : Int} {N : Nat} {ka : Option Addr} {kn kc : Nat} (hN : N ≤ 20) (hR : OfTells w .num N R) :
    Calls Try.prog 20 #[.agg #[.string (AOp.name .num), .int .i64 A, .int .i64 B, .int .i64 C, .int .i64 (N : Int), .slice ka kn kc]] w R := by
  have HR := hide hR
  clear hR
  unfold AOp.name
  go_enter Try.func20, Try.ntmps20
  go_wp2_with fail
  refine atomNumber hN ?_; rintro e w1 p q rfl hp hq k1
  obtain ⟨hb, HK, hsz⟩ := of_boxes _ _ k1
  have z0 := cell_at hb 0; have z1 := cell_at hb 1; have z2 := cell_at hb 2
  have f0 := free_at hb 0; have f1 := free_at hb 1; have f2 := free_at hb 2
  simp only [List.getElem?_toArray, List.getElem?_cons_zero, List.getElem?_cons_succ] at z0 z1 z2
  have HKF := hide HK
  have HP := hide (cell_box hp (box_ne hp hb rfl (by simp)))
  have HQ := hide (cell_box hq (box_ne hq hb rfl (by simp)))
  clear HK k1 hb hp hq
  go_wp2_with fail
  have hk := keeps_box HKF.out (show w.heap.size ≤ w.heap.size + 1 by omega) (.func (.func 72) #[] #[.pointer (some ⟨q, 0, none⟩), .pointer (some ⟨p, 0, none⟩)]) (.int .i64 ((N : Int) + 1)) (.int .i64 ((N : Int) + 1 + 1))
  refine bodyPost_ret (v := .tuple #[.agg #[.func (.func 72) #[] #[.pointer (some ⟨q, 0, none⟩), .pointer (some ⟨p, 0, none⟩)], .int .i64 ((N : Int) + 1), .int .i64 ((N : Int) + 1 + 1)], .bool true]) (by simp [results, Try.results20, go_sem, z0, z1, z2]) rfl (HR.out _ _ _ _ rfl callFunc_number1 (numberFn hN (HP.out _ _ _) (HQ.out _ _ _)) hk)

set_option maxRecDepth 10000 in
set_option maxHeartbeats 2000000 in
theorem atomAny_num {A B C : Int} (Nv : Int) {ka : Option Addr} {kn kc : Nat} (hR : ∀ e w' f x y, e = .returned (.tuple #[.agg #[f, .int .i64 x, .int .i64 y], .bool true]) → Same w w' → R e w') :
    Calls Try.prog 20 #[.agg #[.string (AOp.name .num), .int .i64 A, .int .i64 B, .int .i64 C, .int .i64 Nv, .slice ka kn kc]] w R := by
  have HR := hide hR
  clear hR
  unfold AOp.name
  go_enter Try.func20, Try.ntmps20
  go_wp2_with fail
  refine atomNumberAny _ ?_; rintro e w1 F caps x y rfl k1
  obtain ⟨hb, HK, hsz⟩ := of_boxes _ _ k1
  have z0 := cell_at hb 0; have z1 := cell_at hb 1; have z2 := cell_at hb 2
  have f0 := free_at hb 0; have f1 := free_at hb 1; have f2 := free_at hb 2
  simp only [List.getElem?_toArray, List.getElem?_cons_zero, List.getElem?_cons_succ] at z0 z1 z2
  have HKF := hide HK
  skip
  clear HK k1 hb 
  go_wp2_with fail
  have hk := keeps_box HKF.out (show w.heap.size ≤ w.heap.size + 1 by omega) (.func (.func F) #[] caps) (.int .i64 x) (.int .i64 y)
  refine bodyPost_ret (v := .tuple #[.agg #[.func (.func F) #[] caps, .int .i64 x, .int .i64 y], .bool true]) (by simp [results, Try.results20, go_sem, z0, z1, z2]) rfl (HR.out _ _ _ _ _ rfl hk)

/-- An atom's machine. -/
theorem atomOf {o : AOp} {A B C : Int} {N : Nat} {ka : Option Addr} {kn kc : Nat} (hN : N ≤ 20) (hR : OfTells w o N R) :
    Calls Try.prog 20 #[.agg #[.string o.name, .int .i64 A, .int .i64 B, .int .i64 C, .int .i64 (N : Int), .slice ka kn kc]] w R := by
  cases o with
  | tru => exact atomOf_tru N hR
  | sub => exact atomOf_sub N hR
  | non => exact atomOf_non N hR
  | uni => exact atomOf_uni N hR
  | int => exact atomOf_int N hR
  | mns => exact atomOf_mns N hR
  | sing => exact atomOf_sing N hR
  | flag => exact atomOf_flag N hR
  | less => exact atomOf_less N hR
  | plus => exact atomOf_plus hN hR
  | num => exact atomOf_num hN hR

theorem atomOfAny {o : AOp} {A B C Nv : Int} {ka : Option Addr} {kn kc : Nat} (hR : ∀ e w' f x y, e = .returned (.tuple #[.agg #[f, .int .i64 x, .int .i64 y], .bool true]) → Same w w' → R e w') :
    Calls Try.prog 20 #[.agg #[.string o.name, .int .i64 A, .int .i64 B, .int .i64 C, .int .i64 Nv, .slice ka kn kc]] w R := by
  have h : ∀ o, OfTells w o 0 R := fun o e w' F caps he _ _ hk => hR e w' _ _ _ he hk
  cases o with
  | tru => exact atomOf_tru 0 (h _)
  | sub => exact atomOf_sub 0 (h _)
  | non => exact atomOf_non 0 (h _)
  | uni => exact atomOf_uni 0 (h _)
  | int => exact atomOf_int 0 (h _)
  | mns => exact atomOf_mns 0 (h _)
  | sing => exact atomOf_sing 0 (h _)
  | flag => exact atomOf_flag 0 (h _)
  | less => exact atomOf_less 0 (h _)
  | plus => exact atomAny_plus Nv hR
  | num => exact atomAny_num Nv hR

set_option maxRecDepth 10000 in
set_option maxHeartbeats 2000000 in
theorem atomOfNone {op : ByteArray} {A B C Nv : Int} {ka : Option Addr} {kn kc : Nat} (hop : ∀ o : AOp, op ≠ o.name) (hR : ∀ e w' f x y, e = .returned (.tuple #[.agg #[f, .int .i64 x, .int .i64 y], .bool false]) → Same w w' → R e w') :
    Calls Try.prog 20 #[.agg #[.string op, .int .i64 A, .int .i64 B, .int .i64 C, .int .i64 Nv, .slice ka kn kc]] w R := by
  have HR := hide hR
  have hne : ∀ o : AOp, (op.toList == o.name.toList) = false := fun o => (Go.Lib.bytes_beq_false_iff _ _).2 (hop o)
  have n0 : (op.toList == [116, 114, 117, 101]) = false := by have h := hne .tru; rw [ByteArray.toList_eq (AOp.name .tru)] at h; exact h
  have n1 : (op.toList == [115, 117, 98]) = false := by have h := hne .sub; rw [ByteArray.toList_eq (AOp.name .sub)] at h; exact h
  have n2 : (op.toList == [110, 111, 110, 101]) = false := by have h := hne .non; rw [ByteArray.toList_eq (AOp.name .non)] at h; exact h
  have n3 : (op.toList == [117, 110, 105, 111, 110]) = false := by have h := hne .uni; rw [ByteArray.toList_eq (AOp.name .uni)] at h; exact h
  have n4 : (op.toList == [105, 110, 116, 101, 114]) = false := by have h := hne .int; rw [ByteArray.toList_eq (AOp.name .int)] at h; exact h
  have n5 : (op.toList == [109, 105, 110, 117, 115]) = false := by have h := hne .mns; rw [ByteArray.toList_eq (AOp.name .mns)] at h; exact h
  have n6 : (op.toList == [115, 105, 110, 103]) = false := by have h := hne .sing; rw [ByteArray.toList_eq (AOp.name .sing)] at h; exact h
  have n7 : (op.toList == [102, 108, 97, 103]) = false := by have h := hne .flag; rw [ByteArray.toList_eq (AOp.name .flag)] at h; exact h
  have n8 : (op.toList == [108, 101, 115, 115]) = false := by have h := hne .less; rw [ByteArray.toList_eq (AOp.name .less)] at h; exact h
  have n9 : (op.toList == [112, 108, 117, 115]) = false := by have h := hne .plus; rw [ByteArray.toList_eq (AOp.name .plus)] at h; exact h
  have n10 : (op.toList == [110, 117, 109]) = false := by have h := hne .num; rw [ByteArray.toList_eq (AOp.name .num)] at h; exact h
  clear hR hne hop
  go_enter Try.func20, Try.ntmps20
  go_wp2_with fail
  refine bodyPost_ret (v := .tuple #[.agg #[.nilFunc, .int .i64 0, .int .i64 0], .bool false]) (by simp [results, Try.results20, go_sem]) rfl (HR.out _ _ _ _ _ rfl (((Keeps.refl _ w).alloc _).alloc _))

end Go.Proofs.Ytgpgbkoaopfjkaa
