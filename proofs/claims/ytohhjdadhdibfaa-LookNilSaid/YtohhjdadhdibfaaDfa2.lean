/- The walks of auto's small functions: States, Store, Tracks, is, Root, Accepts, Step, Run. -/
import Derived.Test.YtohhjdadhdibfaaDfa
namespace Go.Proofs.Ytohhjdadhdibfaa
open Go.RowKit

variable {R : Ending → World → Prop} {w : World} {A : Au} {B d : Nat}

/-- What lies behind the pointer, opened. -/
theorem DFAAt.open (h : DFAAt w B d A) : ∃ (aa ra : Option Addr) (ac rc s : Nat) (L : List Nd) (roots : List Int), w.cell? ⟨d, 0, none⟩ = some (.slice aa A.acc.length ac) ∧ w.cell? ⟨d, 1, none⟩ = some (.slice ra roots.length rc) ∧ w.cell? ⟨d, 2, none⟩ = some (.pointer (some ⟨s, 0, none⟩)) ∧
    BoolsAt w (.slice aa A.acc.length ac) A.acc ∧ IntsAt w (.slice ra roots.length rc) roots ∧ StoreAt w s A.T.toNat L ∧ L.length ≤ 127 * A.acc.length ∧ RootsOk A.T.toNat L roots A.next := by
  obtain ⟨va, vr, s, L, roots, hin, hl, hr⟩ := h.st
  obtain ⟨aa, ac, rfl⟩ := ownsRow_shape hin.acc
  obtain ⟨ra, rc, rfl⟩ := ownsRow_shape hin.roots
  have c0 := cell_at hin.blk 0
  have c1 := cell_at hin.blk 1
  have c2 := cell_at hin.blk 2
  simp only [List.getElem?_toArray, List.getElem?_cons_zero, List.getElem?_cons_succ] at c0 c1 c2
  refine ⟨aa, ra, ac, rc, s, L, roots, c0, c1, c2, hin.acc.bools, hin.roots.ints fun x hx => ?_, hin.store, hl, hr⟩
  obtain ⟨i, hi⟩ := List.getElem?_of_mem hx
  have hlt := (List.getElem?_eq_some_iff.1 hi).1
  rw [hr.1] at hlt
  obtain ⟨k, rfl, hk, _⟩ := hr.2 i x _ hi (List.getElem?_eq_getElem hlt)
  have := h.ok.1.2.2.2.1
  unfold InI64; omega

theorem dfaStates (h : DFAAt w B d A) (hR : ∀ e, e = .returned (.int .i64 (A.acc.length : Int)) → R e w) : Calls Try.prog 82 #[.pointer (some ⟨d, 0, none⟩)] w R := by
  have HR := hide hR
  clear hR
  obtain ⟨aa, ra, ac, rc, s, L, roots, c0, c1, c2, _⟩ := h.open
  clear h
  go_enter Try.func82, Try.ntmps82
  go_wp2_with fail
  exact HR.out _ rfl

theorem dfaStore (h : DFAAt w B d A) (hR : ∀ e s L roots va vr, e = .returned (.pointer (some ⟨s, 0, none⟩)) → DfaIn w B d s va vr A.T.toNat A.acc L roots → L.length ≤ 127 * A.acc.length → RootsOk A.T.toNat L roots A.next → R e w) : Calls Try.prog 85 #[.pointer (some ⟨d, 0, none⟩)] w R := by
  obtain ⟨va, vr, s, L, roots, hin, hl, hr⟩ := h.st
  have HR := hide (hR _ s L roots va vr rfl hin hl hr)
  clear hR
  have c2 := cell_at hin.blk 2
  simp only [List.getElem?_toArray, List.getElem?_cons_zero, List.getElem?_cons_succ] at c2
  clear h hin hl hr
  go_enter Try.func85, Try.ntmps85
  go_wp2_with fail
  exact HR.out

theorem dfaTracks (h : DFAAt w B d A) (hR : ∀ e, e = .returned (.int .i64 A.T) → R e w) : Calls Try.prog 59 #[.pointer (some ⟨d, 0, none⟩)] w R := by
  have HR := hide hR
  clear hR
  have hT : ((A.T.toNat : Nat) : Int) = A.T := Int.toNat_of_nonneg h.ok.1.1
  go_enter Try.func59, Try.ntmps59
  go_wp2_with fail
  refine dfaStore h ?_; rintro e s L roots va vr rfl hin _ _
  go_wp2_with fail
  refine storeTracks hin.store ?_; rintro e rfl
  rw [hT]
  go_wp2_with fail
  exact HR.out _ rfl

def inA (A : Au) (i : Int) : Bool := decide (0 ≤ i) && decide (i < (A.acc.length : Int))

theorem dfaIs (h : DFAAt w B d A) (i : Int) (hR : ∀ e, e = .returned (.bool (inA A i)) → R e w) : Calls Try.prog 86 #[.pointer (some ⟨d, 0, none⟩), .int .i64 i] w R := by
  have HR := hide hR
  clear hR
  by_cases h0 : 0 ≤ i
  · go_enter Try.func86, Try.ntmps86
    go_wp2_with fail
    refine dfaStates h ?_; rintro e rfl
    go_wp2_with fail
    exact HR.out _ (ret_bool (by simp [inA, h0]))
  · go_enter Try.func86, Try.ntmps86
    go_wp2_with fail
    exact HR.out _ (ret_bool (by simp [inA]; omega))

/-- The root of a state: a node that gives its row; -1: there is no such state. -/
theorem dfaRoot {s : Nat} {va vr : Value} {L : List Nd} {roots : List Int} (h : DFAAt w B d A) (hin : DfaIn w B d s va vr A.T.toNat A.acc L roots) (hlen : L.length ≤ 127 * A.acc.length) (hro : RootsOk A.T.toNat L roots A.next) (i : Int)
    (hR : ∀ e, e = .returned (.int .i64 (if inA A i then roots.getD i.toNat 0 else -1)) → R e w) : Calls Try.prog 89 #[.pointer (some ⟨d, 0, none⟩), .int .i64 i] w R := by
  have HR := hide hR
  clear hR
  cases hi : inA A i with
  | false =>
    rw [hi] at HR
    go_enter Try.func89, Try.ntmps89
    go_wp2_with fail
    refine dfaIs h i ?_; rintro e rfl
    rw [hi]
    go_wp2_with fail
    exact HR.out _ rfl
  | true =>
    rw [hi] at HR
    have hi2 : 0 ≤ i ∧ i < (A.acc.length : Int) := by simpa [inA] using hi
    obtain ⟨k, rfl⟩ := Int.eq_ofNat_of_zero_le hi2.1
    have hkl : k < roots.length := by rw [hro.1, h.ok.1.2.2.2.2]; omega
    obtain ⟨ra, rc, rfl⟩ := ownsRow_shape hin.roots
    have c1 := cell_at hin.blk 1
    simp only [List.getElem?_toArray, List.getElem?_cons_zero, List.getElem?_cons_succ] at c1
    have hints : IntsAt w (.slice ra roots.length rc) roots := hin.roots.ints fun x hx => by
      obtain ⟨i, hi⟩ := List.getElem?_of_mem hx
      have hlt := (List.getElem?_eq_some_iff.1 hi).1
      rw [hro.1] at hlt
      obtain ⟨k, rfl, hk, _⟩ := hro.2 i x _ hi (List.getElem?_eq_getElem hlt)
      have := h.ok.1.2.2.2.1
      unfold InI64; omega
    obtain ⟨ra', rc', e1, hc1, hc2, hcell⟩ := hints.open
    simp only [Value.slice.injEq] at e1
    obtain ⟨rfl, _, rfl⟩ := e1
    obtain ⟨b, off, rfl, _, hcl⟩ := hcell k hkl
    have hck := hcl k hkl
    have he : roots.getD k 0 = roots[k] := by simp [List.getD, List.getElem?_eq_getElem hkl]
    rw [Int.toNat_natCast, he] at HR
    unfold maxLen at hc2
    generalize roots[k] = r at hck HR
    have H := hide h
    clear h hcell hcl hints hro hin he hi2
    go_enter Try.func89, Try.ntmps89
    go_wp2_with fail
    refine dfaIs H.out k ?_; rintro e rfl
    rw [hi]
    clear hi
    go_wp2_with fail
    exact HR.out _ (by simp)

/-- Whether a state accepts. -/
def accA (A : Au) (i : Int) : Bool := inA A i && A.acc.getD i.toNat false

theorem dfaAccepts (h : DFAAt w B d A) (i : Int) (hR : ∀ e, e = .returned (.bool (accA A i)) → R e w) : Calls Try.prog 61 #[.pointer (some ⟨d, 0, none⟩), .int .i64 i] w R := by
  have HR := hide hR
  clear hR
  cases hi : inA A i with
  | false =>
    go_enter Try.func61, Try.ntmps61
    go_wp2_with fail
    refine dfaIs h i ?_; rintro e rfl
    rw [hi]
    go_wp2_with fail
    exact HR.out _ (ret_bool (by simp [accA, hi]))
  | true =>
    have hi2 : 0 ≤ i ∧ i < (A.acc.length : Int) := by simpa [inA] using hi
    obtain ⟨k, rfl⟩ := Int.eq_ofNat_of_zero_le hi2.1
    have hkl : k < A.acc.length := by omega
    obtain ⟨aa, ra, ac, rc, s, L, roots, c0, c1, c2, hb, _⟩ := h.open
    obtain ⟨aa', ac', e1, hc1, hc2, hcell⟩ := hb.open
    simp only [Value.slice.injEq] at e1
    obtain ⟨rfl, _, rfl⟩ := e1
    obtain ⟨b, off, rfl, _, hcl⟩ := hcell k hkl
    have hck := hcl k hkl
    have he : accA A (k : Int) = A.acc[k] := by simp [accA, hi, List.getD, List.getElem?_eq_getElem hkl]
    rw [he] at HR
    unfold maxLen at hc2
    generalize A.acc[k] = r at hck HR
    have H := hide h
    clear h hcell hcl hb he hi2
    go_enter Try.func61, Try.ntmps61
    go_wp2_with fail
    refine dfaIs H.out k ?_; rintro e rfl
    rw [hi]
    clear hi
    go_wp2_with fail
    exact HR.out _ rfl

/-- The next state; -1: none. -/
def stepA (A : Au) (i c : Int) : Int := if inA A i = true ∧ 0 ≤ c ∧ c < 2 ^ A.T.toNat then (A.next.getD i.toNat []).getD c.toNat 0 else -1

theorem dfaStep (h : DFAAt w B d A) (i c : Int) (hR : ∀ e w', e = .returned (.int .i64 (stepA A i c)) → Same w w' → R e w') : Calls Try.prog 67 #[.pointer (some ⟨d, 0, none⟩), .int .i64 i, .int .i64 c] w R := by
  have HR := hide hR
  clear hR
  go_enter Try.func67, Try.ntmps67
  go_wp2_with fail
  refine dfaStore h ?_; rintro e s L roots va vr rfl hin hlen hro
  go_wp2_with fail
  refine dfaRoot h hin hlen hro i ?_; rintro e rfl
  have hat : atA A.T.toNat L (if inA A i then roots.getD i.toNat 0 else -1) c = stepA A i c := by
    unfold stepA
    by_cases hi : inA A i = true
    · rw [if_pos hi]
      have hi2 : 0 ≤ i ∧ i < (A.acc.length : Int) := by simpa [inA] using hi
      obtain ⟨k, rfl⟩ := Int.eq_ofNat_of_zero_le hi2.1
      have hkn : k < A.next.length := by rw [h.ok.1.2.2.2.2]; omega
      have hkr : k < roots.length := by rw [hro.1]; exact hkn
      obtain ⟨j, e, hj, hv⟩ := hro.2 k _ _ (List.getElem?_eq_getElem hkr) (List.getElem?_eq_getElem hkn)
      simp only [Int.toNat_natCast, List.getD, List.getElem?_eq_getElem hkr, List.getElem?_eq_getElem hkn, Option.getD_some] at *
      rw [e]
      unfold atA
      by_cases hc : 0 ≤ c ∧ c < 2 ^ A.T.toNat
      · rw [if_pos ⟨by omega, by omega, hc.1, hc.2⟩, if_pos ⟨hi, hc.1, hc.2⟩]
        obtain ⟨m, rfl⟩ := Int.eq_ofNat_of_zero_le hc.1
        simp only [Int.toNat_natCast]
        exact hv m (by exact_mod_cast hc.2)
      · rw [if_neg (fun hh => hc ⟨hh.2.2.1, hh.2.2.2⟩), if_neg (fun hh => hc hh.2)]
    · rw [if_neg hi, if_neg (fun hh => hi hh.1)]
      unfold atA
      rw [if_neg (by omega)]
  have HAT := hide hat
  have HST := hide hin.store
  clear hat hin hlen hro
  generalize (if inA A i then roots.getD i.toNat 0 else -1) = r at HAT ⊢
  go_wp2_with fail
  refine storeAtC HST.out r c ?_; rintro e w1 rfl k1
  rw [HAT.out]
  go_wp2_with fail
  exact HR.out _ _ rfl k1

end Go.Proofs.Ytohhjdadhdibfaa
