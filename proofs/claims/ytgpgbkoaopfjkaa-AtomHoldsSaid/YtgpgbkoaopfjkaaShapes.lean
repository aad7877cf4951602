/- The walk of core.shapes: what each name has. -/
import Derived.Test.YtgpgbkoaopfjkaaAtomLaw
import Derived.Test.YtgpgbkoaopfjkaaPkA
namespace Go.Proofs.Ytgpgbkoaopfjkaa
open Go.RowKit

attribute [local irreducible] wpQuiet

variable {R : Ending → World → Prop} {w : World}

theorem bytes_same (a b : ByteArray) : (a == b) = true ↔ a = b := by
  show (a.data == b.data) = true ↔ a = b
  rw [beq_iff_eq]
  exact ⟨fun h => ByteArray.ext h, fun h => by rw [h]⟩

theorem findNow_str (x : ByteArray) : ∀ (es : List MapEntry) (A : List (ByteArray × Value)) (i : Nat), es.map (fun e => (e.key, e.val)) = A.map (fun p => (Value.string p.1, p.2)) →
    Instr.findNow .string (.string x) es i = some (((A.zipIdx i).find? fun p => decide (x = p.1.1)).map fun p => (p.2, p.1.2))
  | [], A, i, h => by
    have : A = [] := by simpa using h.symm
    subst this
    simp [Instr.findNow]
  | e :: es, A, i, h => by
    cases A with
    | nil => simp at h
    | cons p A =>
      simp only [List.map_cons, List.cons.injEq, Prod.mk.injEq] at h
      obtain ⟨⟨h1, h2⟩, h3⟩ := h
      have ih := findNow_str x es A (i + 1) h3
      unfold Instr.findNow
      rw [h1]
      by_cases hx : x = p.1
      · have hb : (x == p.1) = true := (bytes_same x p.1).2 hx
        rw [hx] at hb
        simp [Instr.sameNow, hx, h2, hb]
      · have hb : (x == p.1) = false := by
          cases h : (x == p.1) with
          | false => rfl
          | true => exact absurd ((bytes_same x p.1).1 h) hx
        simp [Instr.sameNow, hx, hb, ih]

/-- Strings as keys. -/
theorem strKeys {P : Program} {kt : TypeId} (hk : P.underlying kt = some .string) : KeyT P kt Value.string where
  find := fun x w es A h => by
    unfold Instr.findKey
    simp only [Sem.run_bind, run_underlying hk, Result.andThen_ok, findNow_str x es A 0 h]
    rfl
  check := fun b x w => by
    show (Instr.checkKey b (9999 + 1) kt (.string x)).run P w = _
    unfold Instr.checkKey
    simp [run_underlying hk]
  stays := fun x w => by
    unfold Instr.keyThatStays
    rw [if_pos]
    · rfl
    · show Instr.sameBits (9999 + 1) _ _ = true
      simp [Instr.sameBits, (bytes_same x x).2 rfl]

/-- What core.shapes holds. -/
def shapesA : List (ByteArray × Value) :=
  [(⟨#[116, 114, 117, 101]⟩, .agg #[.int .i64 0, .bool false, .int .i64 0]),
   (⟨#[115, 117, 98]⟩, .agg #[.int .i64 2, .bool false, .int .i64 0]),
   (⟨#[115, 105, 110, 103]⟩, .agg #[.int .i64 1, .bool false, .int .i64 0]),
   (⟨#[102, 108, 97, 103]⟩, .agg #[.int .i64 1, .bool false, .int .i64 0]),
   (⟨#[110, 111, 110, 101]⟩, .agg #[.int .i64 1, .bool false, .int .i64 0]),
   (⟨#[108, 101, 115, 115]⟩, .agg #[.int .i64 2, .bool false, .int .i64 0]),
   (⟨#[112, 108, 117, 115]⟩, .agg #[.int .i64 2, .bool true, .int .i64 0]),
   (⟨#[110, 117, 109]⟩, .agg #[.int .i64 1, .bool true, .int .i64 0]),
   (⟨#[117, 110, 105, 111, 110]⟩, .agg #[.int .i64 3, .bool false, .int .i64 0]),
   (⟨#[105, 110, 116, 101, 114]⟩, .agg #[.int .i64 3, .bool false, .int .i64 0]),
   (⟨#[109, 105, 110, 117, 115]⟩, .agg #[.int .i64 3, .bool false, .int .i64 0]),
   (⟨#[110, 111, 116]⟩, .agg #[.int .i64 0, .bool false, .int .i64 1]),
   (⟨#[97, 110, 100]⟩, .agg #[.int .i64 0, .bool false, .int .i64 2]),
   (⟨#[101, 120]⟩, .agg #[.int .i64 1, .bool false, .int .i64 1])]

theorem shapes_of (o : AOp) : shapesA.lookup o.name = some (.agg #[.int .i64 (o.vars : Int), .bool o.isNum, .int .i64 0]) := by cases o <;> rfl

set_option maxRecDepth 10000 in
set_option maxHeartbeats 4000000 in
theorem coreShapes (hR : ∀ e w' m, e = .returned (.map (some m)) → MapAt Value.string w' m shapesA → Same w w' → R e w') :
    Calls Try.prog 90 #[] w R := by
  have HR := hide hR
  clear hR
  have hmm := @run_makeMap Try.prog
  have m0 : MapAt Value.string (w.alloc (.map #[] 0)) w.heap.size [] := ⟨#[], 0, heap_new w _, rfl⟩
  have k0 : Same w (w.alloc (.map #[] 0)) := (Keeps.refl _ w).alloc _
  obtain ⟨w1, r1, m1, j1⟩ := run_update_new (P := Try.prog) (strKeys Try.underlying9) Try.underlying105 m0 ⟨#[116, 114, 117, 101]⟩ (.agg #[.int .i64 0, .bool false, .int .i64 0]) rfl
  have k1 : Same w w1 := k0.trans j1 fun x hx _ => ⟨trivial, Nat.ne_of_lt hx⟩
  obtain ⟨w2, r2, m2, j2⟩ := run_update_new (P := Try.prog) (strKeys Try.underlying9) Try.underlying105 m1 ⟨#[115, 117, 98]⟩ (.agg #[.int .i64 2, .bool false, .int .i64 0]) rfl
  have k2 : Same w w2 := k1.trans j2 fun x hx _ => ⟨trivial, Nat.ne_of_lt hx⟩
  obtain ⟨w3, r3, m3, j3⟩ := run_update_new (P := Try.prog) (strKeys Try.underlying9) Try.underlying105 m2 ⟨#[115, 105, 110, 103]⟩ (.agg #[.int .i64 1, .bool false, .int .i64 0]) rfl
  have k3 : Same w w3 := k2.trans j3 fun x hx _ => ⟨trivial, Nat.ne_of_lt hx⟩
  obtain ⟨w4, r4, m4, j4⟩ := run_update_new (P := Try.prog) (strKeys Try.underlying9) Try.underlying105 m3 ⟨#[102, 108, 97, 103]⟩ (.agg #[.int .i64 1, .bool false, .int .i64 0]) rfl
  have k4 : Same w w4 := k3.trans j4 fun x hx _ => ⟨trivial, Nat.ne_of_lt hx⟩
  obtain ⟨w5, r5, m5, j5⟩ := run_update_new (P := Try.prog) (strKeys Try.underlying9) Try.underlying105 m4 ⟨#[110, 111, 110, 101]⟩ (.agg #[.int .i64 1, .bool false, .int .i64 0]) rfl
  have k5 : Same w w5 := k4.trans j5 fun x hx _ => ⟨trivial, Nat.ne_of_lt hx⟩
  obtain ⟨w6, r6, m6, j6⟩ := run_update_new (P := Try.prog) (strKeys Try.underlying9) Try.underlying105 m5 ⟨#[108, 101, 115, 115]⟩ (.agg #[.int .i64 2, .bool false, .int .i64 0]) rfl
  have k6 : Same w w6 := k5.trans j6 fun x hx _ => ⟨trivial, Nat.ne_of_lt hx⟩
  obtain ⟨w7, r7, m7, j7⟩ := run_update_new (P := Try.prog) (strKeys Try.underlying9) Try.underlying105 m6 ⟨#[112, 108, 117, 115]⟩ (.agg #[.int .i64 2, .bool true, .int .i64 0]) rfl
  have k7 : Same w w7 := k6.trans j7 fun x hx _ => ⟨trivial, Nat.ne_of_lt hx⟩
  obtain ⟨w8, r8, m8, j8⟩ := run_update_new (P := Try.prog) (strKeys Try.underlying9) Try.underlying105 m7 ⟨#[110, 117, 109]⟩ (.agg #[.int .i64 1, .bool true, .int .i64 0]) rfl
  have k8 : Same w w8 := k7.trans j8 fun x hx _ => ⟨trivial, Nat.ne_of_lt hx⟩
  obtain ⟨w9, r9, m9, j9⟩ := run_update_new (P := Try.prog) (strKeys Try.underlying9) Try.underlying105 m8 ⟨#[117, 110, 105, 111, 110]⟩ (.agg #[.int .i64 3, .bool false, .int .i64 0]) rfl
  have k9 : Same w w9 := k8.trans j9 fun x hx _ => ⟨trivial, Nat.ne_of_lt hx⟩
  obtain ⟨w10, r10, m10, j10⟩ := run_update_new (P := Try.prog) (strKeys Try.underlying9) Try.underlying105 m9 ⟨#[105, 110, 116, 101, 114]⟩ (.agg #[.int .i64 3, .bool false, .int .i64 0]) rfl
  have k10 : Same w w10 := k9.trans j10 fun x hx _ => ⟨trivial, Nat.ne_of_lt hx⟩
  obtain ⟨w11, r11, m11, j11⟩ := run_update_new (P := Try.prog) (strKeys Try.underlying9) Try.underlying105 m10 ⟨#[109, 105, 110, 117, 115]⟩ (.agg #[.int .i64 3, .bool false, .int .i64 0]) rfl
  have k11 : Same w w11 := k10.trans j11 fun x hx _ => ⟨trivial, Nat.ne_of_lt hx⟩
  obtain ⟨w12, r12, m12, j12⟩ := run_update_new (P := Try.prog) (strKeys Try.underlying9) Try.underlying105 m11 ⟨#[110, 111, 116]⟩ (.agg #[.int .i64 0, .bool false, .int .i64 1]) rfl
  have k12 : Same w w12 := k11.trans j12 fun x hx _ => ⟨trivial, Nat.ne_of_lt hx⟩
  obtain ⟨w13, r13, m13, j13⟩ := run_update_new (P := Try.prog) (strKeys Try.underlying9) Try.underlying105 m12 ⟨#[97, 110, 100]⟩ (.agg #[.int .i64 0, .bool false, .int .i64 2]) rfl
  have k13 : Same w w13 := k12.trans j13 fun x hx _ => ⟨trivial, Nat.ne_of_lt hx⟩
  obtain ⟨w14, r14, m14, j14⟩ := run_update_new (P := Try.prog) (strKeys Try.underlying9) Try.underlying105 m13 ⟨#[101, 120]⟩ (.agg #[.int .i64 1, .bool false, .int .i64 1]) rfl
  have k14 : Same w w14 := k13.trans j14 fun x hx _ => ⟨trivial, Nat.ne_of_lt hx⟩
  have HM : Hid (MapAt Value.string w14 w.heap.size shapesA) := hide m14
  have HK := hide k14
  clear m0 m1 m2 m3 m4 m5 m6 m7 m8 m9 m10 m11 m12 m13 m14 k0 k1 k2 k3 k4 k5 k6 k7 k8 k9 k10 k11 k12 k13 k14 j1 j2 j3 j4 j5 j6 j7 j8 j9 j10 j11 j12 j13 j14
  go_enter Try.func90, Try.ntmps90
  go_wp2_with fail
  exact HR.out _ _ _ rfl HM.out HK.out

end Go.Proofs.Ytgpgbkoaopfjkaa
