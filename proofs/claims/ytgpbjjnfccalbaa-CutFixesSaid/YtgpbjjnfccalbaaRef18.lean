/- The walks of sibylref18.Fix, sibyllaw18.of, known. -/
import Derived.Test.YtgpbjjnfccalbaaCutLaw
namespace Go.Proofs.Ytgpbjjnfccalbaa
open Go.RowKit

variable {R : Ending → World → Prop} {w : World} {a T : Nat} {L : List Nd}

theorem andNot_bit (i t : Nat) (hi : i < 2 ^ 63) (ht : t < 63) : bits .andNot .i64 (i : Int) ((2 ^ t : Nat) : Int) = ((setB i t false : Nat) : Int) := by
  have h2 : 2 ^ t < 2 ^ 63 := Nat.pow_lt_pow_right (by decide) ht
  have hx : setB i t false < 2 ^ 63 := setB_lt hi ht false
  show IntKind.i64.wrap ((BitVec.ofInt 64 (i : Int) &&& ~~~ BitVec.ofInt 64 ((2 ^ t : Nat) : Int)).toNat : Int) = _
  have e : (BitVec.ofInt 64 (i : Int) &&& ~~~ BitVec.ofInt 64 ((2 ^ t : Nat) : Int)).toNat = setB i t false := by
    apply Nat.eq_of_testBit_eq
    intro j
    rw [BitVec.testBit_toNat, BitVec.getLsbD_and, BitVec.getLsbD_not, BitVec.ofInt_natCast, BitVec.ofInt_natCast, BitVec.getLsbD_ofNat, BitVec.getLsbD_ofNat]
    by_cases hj : j = t
    · subst hj
      rw [setB_at, Nat.testBit_two_pow_self]
      simp
    · rw [setB_ne _ _ _ hj, Nat.testBit_two_pow]
      by_cases h64 : j < 64
      · simp [h64, Ne.symm hj]
      · have : i.testBit j = false := Nat.testBit_lt_two_pow (Nat.lt_of_lt_of_le hi (Nat.pow_le_pow_right (by decide) (by omega)))
        simp [h64, this]
  rw [e, IntKind.wrap_i64]
  omega

theorem or_bit (i t : Nat) (hi : i < 2 ^ 63) (ht : t < 63) (b : Bool) : bits .or .i64 ((setB i t b : Nat) : Int) ((2 ^ t : Nat) : Int) = ((setB i t true : Nat) : Int) := by
  rw [i64_or_nat _ _ (setB_lt hi ht b) (Nat.pow_lt_pow_right (by decide) ht)]
  congr 1
  apply Nat.eq_of_testBit_eq
  intro j
  rw [Nat.testBit_or]
  by_cases hj : j = t
  · subst hj; rw [setB_at, setB_at, Nat.testBit_two_pow_self]; simp
  · rw [setB_ne _ _ _ hj, setB_ne _ _ _ hj, Nat.testBit_two_pow]; simp [Ne.symm hj]

/-- A row, a track's bit being what it is. -/
def fixRow (f : List Int) (t : Nat) (up : Bool) : List Int := (List.range f.length).map fun i => f.getD (setB i t up) 0

set_option maxHeartbeats 2000000 in
/-- The reference's Fix, of a row of 2^T numbers, where the track is one. -/
theorem refFix {f : List Int} {v : Value} (hv : IntsAt w v f) (h6 : T ≤ 6) (hl : f.length = 2 ^ T) (t : Nat) (ht : t < T) (up : Bool)
    (hR : ∀ e w' u, e = .returned (.tuple #[u, .bool true]) → OwnInts w' w.heap.size u (fixRow f t up) → Same w w' → R e w') :
    Calls Try.prog 46 #[v, .int .i64 t, .bool up] w R := by
  have HR := hide hR
  clear hR
  obtain ⟨va, vc, rfl, hc1, hc2, hcell⟩ := hv.open
  have HC := hide hcell
  clear hcell hv
  unfold maxLen at hc2
  have ht6 : t < 6 := by omega
  have hw2 := wrap_two (T := t) (by omega)
  have hlt2 : 2 ^ t < f.length := by rw [hl]; exact Nat.pow_lt_pow_right (by decide) ht
  have hle : f.length ≤ 64 := by rw [hl]; exact two_le h6
  have HX : Hid (∀ i, i < f.length → setB i t up < f.length ∧ bits .andNot .i64 (i : Int) ((2 ^ t : Nat) : Int) = ((setB i t false : Nat) : Int) ∧ bits .or .i64 ((setB i t false : Nat) : Int) ((2 ^ t : Nat) : Int) = ((setB i t true : Nat) : Int)) := hide fun i hi =>
    ⟨by rw [hl] at hi ⊢; exact setB_lt hi ht up, andNot_bit i t (by omega) (by omega), or_bit i t (by omega) (by omega) false⟩
  unfold fixRow at HR
  generalize hp : 2 ^ t = p at hw2 hlt2 HX
  obtain ⟨B, hBs⟩ : ∃ B, B = w.heap.size := ⟨_, rfl⟩
  rw [← hBs] at HR
  have HBS := hide hBs
  clear hp hl hBs
  go_enter Try.func46, Try.ntmps46
  go_wp2_with fail
  try rw [hw2]
  clear hw2
  go_loopw [9, 10] (fun u j wr => ∃ m : Nat, j = .int .i64 m ∧ m ≤ f.length ∧ OwnInts wr B u ((List.range m).map fun i => f.getD (setB i t up) 0) ∧ Same w wr) (fun _ j _ => f.length - (intOf j).toNat)
  case atStart => exact ⟨0, rfl, Nat.zero_le _, World.ownsRow_nil _ _ _ _, Keeps.refl _ _⟩
  case round =>
    obtain ⟨m, rfl, hm, hown, hK⟩ := hrel
    by_cases hlt : m < f.length
    · obtain ⟨hx1, hx2, hx3⟩ := HX.out m hlt
      obtain ⟨bl, off, rfl, hbl, hcl⟩ := HC.out m hlt
      have hck := Keeps.cell hK (hcl _ hx1) trivial
      clear hcl
      obtain ⟨z, hz⟩ : ∃ z, z = f[setB m t up] := ⟨_, rfl⟩
      rw [← hz] at hck
      have HZ := hide (show f.getD (setB m t up) 0 = z by rw [hz]; simp [List.getD, List.getElem?_eq_getElem hx1])
      obtain ⟨g, cap1, w2, hr, hown2, hk2, hg, _⟩ := append_one (P := Try.prog) wr 26 26 3 Try.underlying26 int_info rfl hown (by rw [HBS.out]; exact hK.size) (.int .i64 z) rfl (by simp; omega) (by decide)
      have hK2 : Same w w2 := by
        refine hK.trans hk2 fun x hx _ => ⟨trivial, ?_⟩
        intro e
        have := (hown.lt x e).1
        rw [HBS.out] at this; omega
      have HO : Hid (OwnInts w2 B (.slice (some ⟨g, 0, none⟩) (((List.range m).map (fun i => f.getD (setB i t up) 0)).length + 1) cap1) ((List.range (m + 1)).map (fun i => f.getD (setB i t up) 0))) := by
        refine hide ?_
        unfold OwnInts
        rw [List.range_succ, List.map_append, List.map_cons, List.map_nil, HZ.out]
        simpa using hown2
      rw [show ((List.range m).map (fun i => f.getD (setB i t up) 0)).length = m by simp] at HO hr
      clear hown2 hown hk2 hz
      cases up
      all_goals
        generalize hq1 : setB m t false = q1 at hx1 hx2 hx3 hck
        try (generalize hq2 : setB m t true = q2 at hx1 hx3 hck)
        clear hq1
        try clear hq2
        go_wp2_with (at_builtin; refine wpList_append_run rfl _ _ _ rfl rfl rfl hr ?_; clear hr)
        go_roundw
        case rel => exact ⟨m + 1, by go_num, by omega, HO.out, hK2⟩
        case measure => simp [intOf]; omega
    · go_wp2_with fail
      obtain rfl : m = f.length := by omega
      exact HR.out _ _ _ rfl hown hK

end Go.Proofs.Ytgpbjjnfccalbaa
