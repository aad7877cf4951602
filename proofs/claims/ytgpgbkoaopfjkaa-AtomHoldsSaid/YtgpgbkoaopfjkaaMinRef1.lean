/- The walks of sibylref24's sign, finer. -/
import Derived.Test.YtgpgbkoaopfjkaaMin4
import Derived.Test.YtgpgbkoaopfjkaaLookLaw
namespace Go.Proofs.Ytgpgbkoaopfjkaa
open Go.RowKit

attribute [local irreducible] wpQuiet wpPlan wpPlanZ wpUp

variable {R : Ending → World → Prop} {w : World} {A : Au} {B d : Nat}

/-- What a state's class hangs on, as a row. -/
def sigR (A : Au) (cls : List Nat) (s : Nat) : List Nat := cls.getD s 0 :: (rowN A s).map fun t => cls.getD t 0

theorem sigR_inj {cls : List Nat} {s t : Nat} : sigR A cls s = sigR A cls t ↔ sig A cls s = sig A cls t := by
  unfold sigR sig
  rw [List.cons.injEq, Prod.mk.injEq]

theorem getD_mem {cls : List Nat} {s : Nat} (hs : s < cls.length) : cls.getD s 0 ∈ cls := by
  rw [List.getD_eq_getElem?_getD, List.getElem?_eq_getElem hs]; exact List.getElem_mem hs

theorem sigR_small (h : AuOk A) {cls : List Nat} {s : Nat} (hs : s < cls.length) (hc : ∀ x ∈ cls, x ≤ 1000) (hl : cls.length = A.acc.length) : ∀ x ∈ sigR A cls s, x ≤ 1000 := fun x hx => by
  unfold sigR at hx
  rcases List.mem_cons.1 hx with rfl | hx
  · exact hc _ (getD_mem hs)
  · obtain ⟨t, ht, rfl⟩ := List.mem_map.1 hx
    exact hc _ (getD_mem (by rw [hl]; exact rowN_lt h ht))

set_option maxRecDepth 10000 in
set_option maxHeartbeats 4000000 in
theorem refSign {v cv : Value} {cls : List Nat} {s : Nat} (hA : AutoAt w v A) (hok : AuOk A) (hc : IntsAt w cv (cls.map Int.ofNat)) (hl : cls.length = A.acc.length) (hs : s < A.acc.length)
    (hR : ∀ e w' u, e = .returned u → OwnInts w' w.heap.size u ((sigR A cls s).map Int.ofNat) → Same w w' → R e w') :
    Calls Try.prog 98 #[v, cv, .int .i64 (s : Int)] w R := by
  have HR := hide hR
  clear hR
  have HOK := hide hok
  obtain ⟨va, vn, rfl, hacc, hnext, hT⟩ := hA
  obtain ⟨aa, ac', rfl, _⟩ := hacc.open
  obtain ⟨na, nc, rfl, _, hn2, hnc⟩ := hnext.open
  have hn4 : A.acc.length ≤ 400 := hok.1.2.2.2.1
  have HNL := hide hok.1.2.2.2.2
  have HP64 := hide (two_le (show A.T.toNat ≤ 6 by have := hok.1.1; have := hok.1.2.1; omega))
  have hsl : s < A.next.length := by rw [HNL.out]; exact hs
  obtain ⟨nb, noff, rfl, _, hnc⟩ := hnc s hsl
  obtain ⟨ru, hru, hri⟩ := hnc s hsl
  obtain ⟨ca, cc, rfl, hcc1, hcc2, hccell⟩ := hc.open
  have hcl : s < (cls.map Int.ofNat).length := by rw [List.length_map, hl]; exact hs
  obtain ⟨cb, coff, rfl, _, hccell⟩ := hccell s hcl
  obtain ⟨gf, hgf⟩ : ∃ gf : Nat → Nat, ∀ t, gf t = cls.getD t 0 := ⟨_, fun _ => rfl⟩
  have HGF := hide hgf
  have HCC : Hid (∀ t, t < A.acc.length → w.cell? ⟨cb, coff + t, none⟩ = some (.int .i64 ((gf t : Nat) : Int))) := hide fun t ht => by
    rw [hgf]
    have h1 := hccell t (by rw [List.length_map, hl]; exact ht)
    rw [List.getElem_map] at h1
    rw [h1, List.getD_eq_getElem?_getD, List.getElem?_eq_getElem (show t < cls.length by rw [hl]; exact ht)]
    rfl
  have hro := hok.2 _ (List.getElem_mem hsl)
  have hnx : ∀ c, c < 2 ^ A.T.toNat → (A.next[s])[c]? = some (nx A s c : Int) := fun c hc => by
    have hcl : c < (A.next[s]).length := by rw [hro.1]; exact hc
    have hb := hro.2 _ (List.getElem_mem hcl)
    rw [List.getElem?_eq_getElem hcl]
    unfold nx
    simp only [List.getD_eq_getElem?_getD, List.getElem?_eq_getElem hsl, Option.getD_some, List.getElem?_eq_getElem hcl]
    rw [Int.toNat_of_nonneg hb.1]
  generalize A.next[s] = row at hri hro hnx
  obtain ⟨ra, rc, rfl, _, hr2, hrcl⟩ := hri.open
  unfold maxLen at hr2 hn2 hcc2
  rw [List.length_map, hl] at hcc1 ⊢
  have hrl : row.length ≤ 64 := by rw [hro.1]; exact HP64.out
  have HRL := hide hro.1
  have HRC := hide hrcl
  have HNX := hide hnx
  have hbx := heap_new w (.cells #[.int .i64 A.T, .slice aa A.acc.length ac', .slice (some ⟨nb, noff, none⟩) A.next.length nc] 33)
  have hk1 : Same w (w.alloc (.cells #[.int .i64 A.T, .slice aa A.acc.length ac', .slice (some ⟨nb, noff, none⟩) A.next.length nc] 33)) := (Keeps.refl _ w).alloc _
  have hck := HCC.out s hs
  have hc0 := Keeps.cell hk1 hck trivial
  clear hok hacc hnext hT hnc hc hccell hcl hri hro hnx hrcl hgf
  go_enter Try.func98, Try.ntmps98
  go_wp2_with fail
  have hsz : (w.alloc (.cells #[.int .i64 A.T, .slice aa A.acc.length ac', .slice (some ⟨nb, noff, none⟩) A.next.length nc] 33)).heap.size = w.heap.size + 1 := by simp
  generalize w.alloc (.cells #[.int .i64 A.T, .slice aa A.acc.length ac', .slice (some ⟨nb, noff, none⟩) A.next.length nc] 33) = w1 at hbx hk1 hc0 hsz ⊢
  obtain ⟨xb, hxb⟩ : ∃ xb, xb = w.heap.size := ⟨_, rfl⟩
  rw [← hxb] at hbx hsz ⊢
  have HSX := hide hxb
  have HSZ := hide hsz
  clear hsz hxb
  have b2 := cell_at hbx 2
  simp only [List.getElem?_toArray, List.getElem?_cons_zero, List.getElem?_cons_succ] at b2
  have HB2 := hide b2
  have HRU := hide (Keeps.cell hk1 hru trivial)
  have HK1 := hide hk1
  have HSR : Hid (sigR A cls s = gf s :: (rowN A s).map gf) := hide (by
    unfold sigR
    rw [HGF.out s]
    congr 1
    exact List.map_congr_left fun t _ => (HGF.out t).symm)
  have ho1 : OwnInts (w1.alloc (.cells #[.int .i64 ((gf s : Nat) : Int)] 3)) w1.heap.size (.slice (some ⟨w1.heap.size, 0, none⟩) 1 1) ((gf s :: ((rowN A s).take 0).map gf).map Int.ofNat) :=
    RowIn.own (l := [((gf s : Nat) : Int)]) (heap_new w1 _) (Nat.le_refl _) rfl (by decide)
  have hsz1 : w1.heap.size = xb + 1 := by have := HSZ.out; omega
  rw [hsz1] at ho1
  have ka : Same w1 (w1.alloc (.cells #[.int .i64 ((gf s : Nat) : Int)] 3)) := (Keeps.refl _ w1).alloc _
  generalize w1.alloc (.cells #[.int .i64 ((gf s : Nat) : Int)] 3) = w2 at ho1 ka ⊢
  have HO1 := hide ho1
  have HKA := hide ka
  have HSZ1 := hide hsz1
  clear ho1 ka hc0 hck hk1 hbx b2 hru hsz1
  go_loopw [7, 8] (fun u i wr => ∃ c : Nat, i = .int .i64 c ∧ c ≤ row.length ∧ Hid (OwnInts wr (xb + 1) u ((gf s :: ((rowN A s).take c).map gf).map Int.ofNat)) ∧ Same w1 wr) (fun _ i _ => row.length - (intOf i).toNat)
  case atStart => exact ⟨0, rfl, Nat.zero_le _, HO1.out, HKA.out⟩
  case round =>
    obtain ⟨c, rfl, hc, hown, hK⟩ := hrel
    have hbx := Keeps.cell hK HB2.out trivial
    have hru := Keeps.cell hK HRU.out trivial
    have hlen : ((gf s :: ((rowN A s).take c).map gf).map Int.ofNat).length = c + 1 := by
      have : c ≤ (rowN A s).length := by rw [rowN_length, ← HRL.out]; exact hc
      simp [List.length_take]; omega
    obtain ⟨ua, uc, rfl⟩ := hown.out.shape
    rw [hlen]
    by_cases hcr : c < row.length
    · have hcp : c < 2 ^ A.T.toNat := by rw [← HRL.out]; exact hcr
      have hyn := HNX.out c hcp
      have hnl := nx_lt HOK.out s c
      have HTJ : Hid ((rowN A s).take (c + 1) = (rowN A s).take c ++ [nx A s c]) := hide (by
        have hjl : c < (rowN A s).length := by rw [rowN_length]; exact hcp
        rw [List.take_succ_eq_append_getElem hjl]
        have := rowN_get (A := A) (s := s) hcp
        rw [List.getElem?_eq_getElem hjl] at this
        rw [Option.some.inj this])
      obtain ⟨rb, roff, rfl, _, hrm⟩ := HRC.out c hcr
      have hrm := hrm c hcr
      rw [(List.getElem?_eq_some_iff.1 hyn).2] at hrm
      have hrm := Keeps.cell (HK1.out.tr hK) hrm trivial
      generalize nx A s c = t at hyn hnl HTJ hrm
      have hct := Keeps.cell (HK1.out.tr hK) (HCC.out t hnl) trivial
      have hWs : xb + 1 ≤ wr.heap.size := by have := HSZ1.out; have := hK.size; omega
      obtain ⟨g, cap, w5, hr5, own5, k5, _, _⟩ := append_one (P := Try.prog) wr 42 42 3 Try.underlying42 int_info rfl hown.out hWs (.int .i64 ((gf t : Nat) : Int)) rfl (by rw [hlen]; omega) (by decide)
      rw [hlen] at hr5 own5
      have HF : Hid (OwnInts w5 (xb + 1) (.slice (some ⟨g, 0, none⟩) (c + 1 + 1) cap) ((gf s :: ((rowN A s).take (c + 1)).map gf).map Int.ofNat)) := hide (by
        rw [HTJ.out]
        have hlen2 : c ≤ (rowN A s).length := by rw [rowN_length, ← HRL.out]; exact hc
        unfold OwnInts
        simpa [List.length_take, Nat.min_eq_left hlen2] using own5)
      have HK5 : Hid (Same w1 w5) := hide (hK.trans k5 fun b hb _ => ⟨trivial, fun e => by
        have := (hown.out.low e).1
        have := HSZ1.out; omega⟩)
      clear hown own5 k5 hyn hlen hK hWs
      go_wp2_with (at_builtin; refine wpList_append_run rfl _ _ _ rfl rfl rfl hr5 ?_; clear hr5)
      go_roundw
      case rel => exact ⟨c + 1, by go_num, by omega, HF.out, HK5.out⟩
      case measure => simp [intOf]; omega
    · obtain rfl : c = row.length := by omega
      have HF : Hid (OwnInts wr (xb + 1) (.slice ua (row.length + 1) uc) ((sigR A cls s).map Int.ofNat)) := hide (by
        have := hown.out
        rw [hlen, List.take_of_length_le (by rw [rowN_length, HRL.out]; exact Nat.le_refl _), ← HSR.out] at this
        exact this)
      have HKW := hide hK
      clear hown hlen hK
      go_wp2_with fail
      refine HR.out _ _ _ rfl (ownsRow_below HF.out (by have := HSX.out; omega)) (HK1.out.tr HKW.out)

end Go.Proofs.Ytgpgbkoaopfjkaa
