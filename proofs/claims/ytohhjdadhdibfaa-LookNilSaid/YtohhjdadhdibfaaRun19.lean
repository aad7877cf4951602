/- The walk of sibylref19.Run. -/
import Derived.Test.YtohhjdadhdibfaaDfa3
namespace Go.Proofs.Ytohhjdadhdibfaa
open Go.RowKit

variable {R : Ending → World → Prop} {w : World}

/-- '1 << uint(T)', as a drawn region leaves it. -/
theorem shl_u64 {T : Nat} (h6 : T ≤ 6) : IntKind.i64.wrap (2 ^ min (IntKind.u64.wrap (T : Int)).toNat 64) = ((2 ^ T : Nat) : Int) := by
  have : T = 0 ∨ T = 1 ∨ T = 2 ∨ T = 3 ∨ T = 4 ∨ T = 5 ∨ T = 6 := by omega
  rcases this with rfl | rfl | rfl | rfl | rfl | rfl | rfl <;> decide

set_option maxHeartbeats 2000000 in
theorem refRun {v u : Value} {A : Au} {l : List Int} (hA : AutoAt w v A) (hok : AuOk A) (hv : IntsAt w u l) (hR : ∀ e w', e = .returned (.tuple #[.int .i64 (runA A l), .bool (accA A (runA A l))]) → Same w w' → R e w') :
    Calls Try.prog 29 #[v, u] w R := by
  have HR := hide hR
  clear hR
  have HOK := hide hok
  obtain ⟨T, acc, next⟩ := A
  obtain ⟨⟨h1, h2, h3, h4, h5⟩, hrows⟩ := hok
  obtain ⟨va, vn, rfl, hacc, hnext, hT⟩ := hA
  simp only at h1 h2 h3 h4 h5 hrows hacc hnext hT
  obtain ⟨T, rfl⟩ := Int.eq_ofNat_of_zero_le h1
  have hsh := shl_u64 (show T ≤ 6 by omega)
  obtain ⟨aa, ac, rfl, hc1, hc2, hacell⟩ := hacc.open
  obtain ⟨na, nc, rfl, hd1, hd2, hcell⟩ := hnext.open
  obtain ⟨wa, wc, rfl, he1, he2, hwcell⟩ := hv.open
  have HAC := hide hacell
  have HC := hide hcell
  have HW := hide hwcell
  have HRO := hide hrows
  have H5 := hide h5
  have hbox := heap_new w (.cells #[.int .i64 (T : Int), .slice aa acc.length ac, .slice na next.length nc] 25)
  have c0 := cell_at hbox 0
  have c1 := cell_at hbox 1
  have c2 := cell_at hbox 2
  simp only [List.getElem?_toArray, List.getElem?_cons_zero, List.getElem?_cons_succ] at c0 c1 c2
  have hk : Same w (w.alloc (.cells #[.int .i64 (T : Int), .slice aa acc.length ac, .slice na next.length nc] 25)) := (Keeps.refl _ w).alloc _
  unfold maxLen at hc2 hd2 he2
  have HP : Hid (∀ (s c : Int), inA ⟨(T : Int), acc, next⟩ s = true ∧ 0 ≤ c ∧ c < ((2 ^ T : Nat) : Int) → stepA ⟨(T : Int), acc, next⟩ s c = (next.getD s.toNat []).getD c.toNat 0) := hide (by
    intro s c hh
    unfold stepA
    rw [if_pos ⟨hh.1, hh.2.1, by simpa using hh.2.2⟩])
  have HN : Hid (∀ (s c : Int), ¬ (0 ≤ c ∧ c < ((2 ^ T : Nat) : Int)) → stepA ⟨(T : Int), acc, next⟩ s c = -1) := hide (by
    intro s c hh
    unfold stepA
    rw [if_neg (fun h => hh ⟨h.2.1, by simpa using h.2.2⟩)])
  have HX : Hid (∀ (s c : Int), inA ⟨(T : Int), acc, next⟩ s = true ∧ 0 ≤ c ∧ c < ((2 ^ T : Nat) : Int) → inA ⟨(T : Int), acc, next⟩ (stepA ⟨(T : Int), acc, next⟩ s c) = true) := hide fun s c hh => step_in HOK.out ⟨hh.1, hh.2.1, by simpa using hh.2.2⟩
  have HLN : Hid (∀ (m : Nat) (hm : m < next.length), (next[m]).length = 2 ^ T) := hide fun m hm => (HRO.out _ (List.getElem_mem hm)).1
  clear hacc hnext hT hcell hacell hwcell hbox h1 h4 h5 hrows hv
  generalize 2 ^ T = p at hsh HP HN HX HLN
  go_enter Try.func29, Try.ntmps29
  go_wp2_with fail
  generalize w.alloc (.cells #[.int .i64 (T : Int), .slice aa acc.length ac, .slice na next.length nc] 25) = w1 at c0 c1 c2 hk ⊢
  have C0 := hide c0
  have C1 := hide c1
  have C2 := hide c2
  have HK := hide hk
  clear c0 c1 c2 hk
  go_loopw [6, 7] (fun u i wr => ∃ k : Nat, i = .int .i64 k ∧ k ≤ l.length ∧ u = .int .i64 (runA ⟨(T : Int), acc, next⟩ (l.take k)) ∧ Hid (inA ⟨(T : Int), acc, next⟩ (runA ⟨(T : Int), acc, next⟩ (l.take k)) = true) ∧ Same w1 wr) (fun _ i _ => l.length - (intOf i).toNat)
  case atStart => exact ⟨0, rfl, Nat.zero_le _, rfl, hide (by simp [runA, inA]; omega), Keeps.refl _ _⟩
  case round =>
    obtain ⟨k, rfl, hk, rfl, hin, hK⟩ := hrel
    have q0 := Keeps.cell hK C0.out trivial
    have q1 := Keeps.cell hK C1.out trivial
    have q2 := Keeps.cell hK C2.out trivial
    have hi2 : 0 ≤ runA ⟨(T : Int), acc, next⟩ (l.take k) ∧ runA ⟨(T : Int), acc, next⟩ (l.take k) < (acc.length : Int) := by simpa [inA] using hin.out
    have HE := hide (show k = l.length → runA ⟨(T : Int), acc, next⟩ (l.take k) = runA ⟨(T : Int), acc, next⟩ l from fun e => by rw [e, List.take_length])
    by_cases hlt : k < l.length
    · obtain ⟨bl, off, rfl, hbl, hcl⟩ := HW.out k hlt
      have hck := Keeps.cell (HK.out.tr hK) (hcl k hlt) trivial
      have HSN := hide (run_snoc (A := ⟨(T : Int), acc, next⟩) hlt)
      have HSP := hide (fun hh => run_stop HOK.out hlt hh)
      generalize l[k] = c at hck HSN HSP
      generalize runA ⟨(T : Int), acc, next⟩ (l.take k) = st at hin HSN HSP hi2 HE ⊢
      obtain ⟨m, rfl⟩ := Int.eq_ofNat_of_zero_le hi2.1
      clear hcl HE
      by_cases hcr : 0 ≤ c ∧ c < (p : Int)
      · obtain ⟨hcr0, hcr1⟩ := hcr
        have hmn : m < next.length := by rw [H5.out]; omega
        obtain ⟨j, rfl⟩ := Int.eq_ofNat_of_zero_le hcr0
        have hST := HP.out (m : Int) (j : Int) ⟨hin.out, hcr0, hcr1⟩
        have HNX := hide (HX.out (m : Int) (j : Int) ⟨hin.out, hcr0, hcr1⟩)
        rw [hST] at HSN HSP HNX
        obtain ⟨bn, offn, rfl, _, hncl⟩ := HC.out m hmn
        obtain ⟨ru, hru, hri⟩ := hncl m hmn
        obtain ⟨rua, ruc, rfl, hf1, hf2, hrcell⟩ := hri.open
        have hrk := Keeps.cell (HK.out.tr hK) hru trivial
        have hjl : j < (next[m]).length := by rw [HLN.out m hmn]; omega
        obtain ⟨rb, roff, rfl, _, hrcl⟩ := hrcell j hjl
        have hrj := Keeps.cell (HK.out.tr hK) (hrcl j hjl) trivial
        have hval : ((next.getD ((m : Int)).toNat []).getD ((j : Int)).toNat 0) = (next[m])[j] := by
          simp [List.getD, List.getElem?_eq_getElem hmn, List.getElem?_eq_getElem hjl]
        rw [hval] at HSN HSP HNX
        unfold maxLen at hf2
        clear hST hval hncl hri hrcell hrcl hru
        generalize next[m] = row at hf1 hrk hjl hrj HSN HSP HNX
        generalize row[j] = y at hrj HSN HSP HNX
        go_wp2_with fail
        go_quiet (fail)
        go_wp2_with fail
        go_quiet (fail)
        go_wp2_with fail
        go_roundw
        case rel => exact ⟨k + 1, by go_num, by omega, by rw [HSN.out], hide (by rw [HSN.out]; exact HNX.out), hK.drewN _⟩
        case measure => simp [intOf]; omega
      · have HE : Hid (runA ⟨(T : Int), acc, next⟩ l = -1) := hide (HSP.out (by rw [HN.out _ _ hcr]; decide))
        have HR2 := hide (show ∀ e w', e = .returned (.tuple #[.int .i64 (-1), .bool false]) → Same w w' → R e w' from fun e w' he hk => HR.out e w' (by rw [HE.out, acc_none]; exact he) hk)
        by_cases hc0 : c < 0
        · go_wp2_with fail
          go_quiet (fail)
          go_wp2_with fail
          exact HR2.out _ _ rfl ((HK.out.tr hK).drewN _)
        · have hc1 : (p : Int) ≤ c := by omega
          go_wp2_with fail
          go_quiet (fail)
          go_wp2_with fail
          exact HR2.out _ _ rfl ((HK.out.tr hK).drewN _)
    · rw [HE.out (by omega)] at hi2 ⊢
      have HAE := hide (show accA ⟨(T : Int), acc, next⟩ (runA ⟨(T : Int), acc, next⟩ l) = acc.getD (runA ⟨(T : Int), acc, next⟩ l).toNat false by simp [accA, inA, hi2.1, hi2.2])
      generalize runA ⟨(T : Int), acc, next⟩ l = st at HR hi2 HAE ⊢
      obtain ⟨m, rfl⟩ := Int.eq_ofNat_of_zero_le hi2.1
      have hml : m < acc.length := by omega
      obtain ⟨b2, o2, rfl, _, hcl2⟩ := HAC.out m hml
      have hak := Keeps.cell (HK.out.tr hK) (hcl2 m hml) trivial
      have HE2 : Hid (accA ⟨(T : Int), acc, next⟩ (m : Int) = acc[m]) := hide (by rw [HAE.out, Int.toNat_natCast]; simp [List.getD, List.getElem?_eq_getElem hml])
      generalize acc[m] = bb at hak HE2
      clear hcl2 hi2 HE hin
      go_wp2_with fail
      go_quiet (fail)
      go_wp2_with fail
      exact HR.out _ _ (by rw [HE2.out]; rfl) ((HK.out.tr hK).drewN _)

end Go.Proofs.Ytohhjdadhdibfaa
