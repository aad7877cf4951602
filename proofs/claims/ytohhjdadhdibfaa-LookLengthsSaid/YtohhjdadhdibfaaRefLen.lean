/- The walk of sibylref21.Lengths. -/
import Derived.Test.YtohhjdadhdibfaaRef21b
import Derived.Test.YtohhjdadhdibfaaLen
namespace Go.Proofs.Ytohhjdadhdibfaa
open Go.RowKit

attribute [local irreducible] wpQuiet wpPlan wpPlanZ wpUp

variable {R : Ending → World → Prop} {w : World} {A : Au}

/-- The states o, rising, are those that words of m letters lead to. -/
def AtN (A : Au) (m : Nat) (o : List Int) : Prop := o.Pairwise (· < ·) ∧ ∀ y, y ∈ o ↔ ∃ s : Nat, y = (s : Int) ∧ RchN A m s

/-- Rising numbers below n are at most n. -/
theorem rise_len {n : Nat} {o : List Int} (ho : o.Pairwise (· < ·)) (hb : ∀ y ∈ o, 0 ≤ y ∧ y < (n : Int)) : o.length ≤ n := by
  have := nodup_lt n (o.map Int.toNat) (by
    rw [List.nodup_iff_pairwise_ne, List.pairwise_map]
    refine List.Pairwise.imp_of_mem ?_ ho
    intro a b ha hb' hab e
    have := hb a ha
    have := hb b hb'
    omega) (by
    intro x hx
    obtain ⟨y, hy, rfl⟩ := List.mem_map.1 hx
    have := hb y hy
    omega)
  simpa using this

theorem AtN.bound (h : AuOk A) {m : Nat} {o : List Int} (ho : AtN A m o) : ∀ y ∈ o, 0 ≤ y ∧ y < (A.acc.length : Int) := fun y hy => by
  obtain ⟨s, rfl, hs⟩ := (ho.2 y).1 hy
  have := hs.lt h
  omega

/-- What the first k of the states of now go to. -/
structure MidL (A : Au) (now : List Int) (k : Nat) (o : List Int) : Prop where
  rise : o.Pairwise (· < ·)
  mem : ∀ y, y ∈ o ↔ ∃ (i : Nat) (x : Int), i < k ∧ now[i]? = some x ∧ y ∈ rowI A x.toNat

theorem MidL.start (A : Au) (now : List Int) : MidL A now 0 [] := ⟨by simp, fun y => by simp⟩

theorem MidL.done (h : AuOk A) {m : Nat} {now o : List Int} (hn : AtN A m now) (ho : MidL A now now.length o) : AtN A (m + 1) o := by
  refine ⟨ho.rise, fun y => ?_⟩
  rw [ho.mem y]
  constructor
  · rintro ⟨i, x, _, h2, h3⟩
    obtain ⟨s, rfl, hs⟩ := (hn.2 x).1 (List.mem_of_getElem? h2)
    rw [Int.toNat_natCast] at h3
    obtain ⟨c, hc, rfl⟩ := (mem_rowI h (hs.lt h)).1 h3
    exact ⟨_, rfl, s, hs, c, hc, rfl⟩
  · rintro ⟨s, rfl, t, ht, c, hc, rfl⟩
    obtain ⟨i, hi⟩ := List.getElem?_of_mem ((hn.2 (t : Int)).2 ⟨t, rfl, ht⟩)
    exact ⟨i, _, (List.getElem?_eq_some_iff.1 hi).1, hi, by rw [Int.toNat_natCast]; exact (mem_rowI h (ht.lt h)).2 ⟨c, hc, rfl⟩⟩

theorem MidL.bound (h : AuOk A) {m k : Nat} {now o : List Int} (hn : AtN A m now) (ho : MidL A now k o) : ∀ y ∈ o, 0 ≤ y ∧ y < (A.acc.length : Int) := fun y hy => by
  obtain ⟨i, x, _, h2, h3⟩ := (ho.mem y).1 hy
  obtain ⟨s, rfl, hs⟩ := (hn.2 x).1 (List.mem_of_getElem? h2)
  rw [Int.toNat_natCast] at h3
  obtain ⟨c, _, rfl⟩ := (mem_rowI h (hs.lt h)).1 h3
  have := nx_lt h s c
  omega

/-- Whether one of the first k accepts. -/
def AccL (A : Au) (now : List Int) (k : Nat) (b : Bool) : Prop := b = true ↔ ∃ (i : Nat) (x : Int), i < k ∧ now[i]? = some x ∧ ac A x.toNat = true

theorem AccL.done {m : Nat} {now : List Int} {b : Bool} (hn : AtN A m now) (hb : AccL A now now.length b) : b = true ↔ LenP A m := by
  unfold AccL at hb
  rw [hb]
  constructor
  · rintro ⟨i, x, _, h2, h3⟩
    obtain ⟨s, rfl, hs⟩ := (hn.2 x).1 (List.mem_of_getElem? h2)
    exact ⟨s, hs, by rwa [Int.toNat_natCast] at h3⟩
  · rintro ⟨s, hs, h3⟩
    obtain ⟨i, hi⟩ := List.getElem?_of_mem ((hn.2 (s : Int)).2 ⟨s, rfl, hs⟩)
    exact ⟨i, _, (List.getElem?_eq_some_iff.1 hi).1, hi, by rw [Int.toNat_natCast]; exact h3⟩
  
theorem AccL.more {now : List Int} {k s : Nat} {b : Bool} (h : AccL A now k b) (hk : now[k]? = some (s : Int)) : AccL A now (k + 1) (b || ac A s) := by
  unfold AccL at *
  rw [Bool.or_eq_true, h]
  constructor
  · rintro (⟨i, x, h1, h2⟩ | h1)
    · exact ⟨i, x, by omega, h2⟩
    · exact ⟨k, _, by omega, hk, by rw [Int.toNat_natCast]; exact h1⟩
  · rintro ⟨i, x, h1, h2, h3⟩
    rcases Nat.lt_or_eq_of_le (Nat.le_of_lt_succ h1) with e | e
    · exact .inl ⟨i, x, e, h2, h3⟩
    · subst e; rw [hk] at h2; obtain rfl := Option.some.inj h2; rw [Int.toNat_natCast] at h3; exact .inr h3

/-- The state: what is told so far in u; now in vn. -/
structure RlSt (W1 : Nat) (w1 wr : World) (vn : Value) (now : List Int) (u : Value) (ol : List Int) : Prop where
  keep : Same w1 wr
  at_ : IntsAt wr vn now
  own : OwnInts wr W1 u ol
  apart : ∀ b, live vn = some b → u.ownBlock ≠ some b
  low : W1 = w1.heap.size

theorem RlSt.same {W1 : Nat} {w1 wr wr' : World} {vn u : Value} {now ol : List Int} (h : RlSt W1 w1 wr vn now u ol) (k : Same wr wr') : RlSt W1 w1 wr' vn now u ol :=
  ⟨h.keep.tr k, h.at_.same k, h.own.same k, h.apart, h.low⟩

theorem RlSt.push {W1 : Nat} {w1 wr : World} {vn vx u : Value} {now nx ol : List Int} (h : RlSt W1 w1 wr vn now u ol) (hx : IntsAt wr vx nx) (hap : ∀ b, live vx = some b → u.ownBlock ≠ some b) (x : Int) (hl : ol.length ≤ 1000) :
    ∃ g cap w', (Builtin.append_ #[40, 40] 40 #[u, .slice (some ⟨wr.heap.size, 0, none⟩) 1 1]).run Try.prog (wr.alloc (.cells #[.int .i64 x] 3)) = .ok (.slice (some ⟨g, 0, none⟩) (ol.length + 1) cap) w' ∧
      RlSt W1 w1 w' vx nx (.slice (some ⟨g, 0, none⟩) (ol.length + 1) cap) (ol ++ [x]) := by
  obtain ⟨g, cap, w', hr, hown2, hk2, hg, _⟩ := append_one (P := Try.prog) wr 40 40 3 Try.underlying40 int_info rfl h.own (by rw [h.low]; exact h.keep.size) (.int .i64 x) rfl (by omega) (by decide)
  refine ⟨g, cap, w', hr, h.keep.trans hk2 fun y hy _ => ⟨trivial, fun e => ?_⟩, hx.keep hk2 hap, ?_, fun b hb e => ?_, h.low⟩
  · have := (h.own.low e).1
    have := h.low; omega
  · unfold OwnInts; simpa using hown2
  · simp [Value.ownBlock] at e
    subst e
    rcases hg with hg | hg
    · exact hap _ hb hg
    · have := hx.lt _ hb; omega

theorem RlSt.swap {W1 : Nat} {w1 wr : World} {vn vx u : Value} {now nx ol : List Int} (h : RlSt W1 w1 wr vn now u ol) (hx : IntsAt wr vx nx) (hap : ∀ b, live vx = some b → u.ownBlock ≠ some b) : RlSt W1 w1 wr vx nx u ol :=
  ⟨h.keep, hx, h.own, hap, h.low⟩

set_option maxRecDepth 10000 in
set_option maxHeartbeats 4000000 in
theorem refLengths {v : Value} {most : Nat} (hA : AutoAt w v A) (hok : AuOk A) (hm : most ≤ 60) (hR : ∀ e w' u, e = .returned u → IntsAt w' u (lenL A (most + 1)) → Same w w' → R e w') :
    Calls Try.prog 56 #[v, .int .i64 (most : Int)] w R := by
  have HR := hide hR
  clear hR
  have HOK := hide hok
  obtain ⟨va, vn, rfl, hacc, hnext, hT⟩ := hA
  obtain ⟨aa, ac', rfl, _, ha2, hacell⟩ := hacc.open
  obtain ⟨na, nc, rfl, _, hn2, hnc⟩ := hnext.open
  have hn1 : 0 < A.acc.length := hok.1.2.2.1
  have hn4 : A.acc.length ≤ 400 := hok.1.2.2.2.1
  have HNL := hide hok.1.2.2.2.2
  obtain ⟨nb, noff, rfl, _, _⟩ := hnc 0 (by rw [HNL.out]; exact hn1)
  obtain ⟨ab, aoff, rfl, _, _⟩ := hacell 0 hn1
  have HNC := hide hnc
  have HAC := hide hacell
  have hbx := heap_new w (.cells #[.int .i64 A.T, .slice (some ⟨ab, aoff, none⟩) A.acc.length ac', .slice (some ⟨nb, noff, none⟩) A.next.length nc] 25)
  have hk1 : Same w (w.alloc (.cells #[.int .i64 A.T, .slice (some ⟨ab, aoff, none⟩) A.acc.length ac', .slice (some ⟨nb, noff, none⟩) A.next.length nc] 25)) := (Keeps.refl _ w).alloc _
  unfold maxLen at hn2 ha2
  clear hok hacc hnext hT hnc hacell
  go_enter Try.func56, Try.ntmps56
  go_wp2_with fail
  obtain ⟨W1, hW1⟩ : ∃ W1, W1 = (w.alloc (.cells #[.int .i64 A.T, .slice (some ⟨ab, aoff, none⟩) A.acc.length ac', .slice (some ⟨nb, noff, none⟩) A.next.length nc] 25)).heap.size := ⟨_, rfl⟩
  have hx1 : W1 = w.heap.size + 1 := by rw [hW1]; simp
  generalize w.alloc (.cells #[.int .i64 A.T, .slice (some ⟨ab, aoff, none⟩) A.acc.length ac', .slice (some ⟨nb, noff, none⟩) A.next.length nc] 25) = w1 at hbx hk1 hW1 ⊢
  generalize w.heap.size = x1 at hbx hx1 ⊢
  rw [← hx1]
  have hst : RlSt W1 w1 (w1.alloc (.cells #[.int .i64 0] 3)) (.slice (some ⟨W1, 0, none⟩) 1 1) [0] (.slice none 0 0) (lenL A 0) := by
    have h1 := heap_new w1 (.cells #[.int .i64 0] 3)
    rw [← hW1] at h1
    exact ⟨(Keeps.refl _ w1).alloc _, ints_of_block h1 [0] rfl (by simp [InI64]) rfl (Nat.le_refl _) (by decide), World.ownsRow_nil _ _ _ _, fun b _ => by simp [Value.ownBlock], hW1⟩
  generalize w1.alloc (.cells #[.int .i64 0] 3) = w2 at hst ⊢
  have b1 := cell_at hbx 1
  have b2 := cell_at hbx 2
  simp only [List.getElem?_toArray, List.getElem?_cons_zero, List.getElem?_cons_succ] at b1 b2
  have HB1 := hide b1
  have HB2 := hide b2
  have HST := hide hst
  have HK1 := hide hk1
  clear hst hk1 b1 b2 hbx hW1 hx1
  go_loopw [5, 6, 7] (fun vn u i wr => ∃ (m : Nat) (now : List Int), i = .int .i64 m ∧ m ≤ most + 1 ∧ Hid (AtN A m now) ∧ Hid (RlSt W1 w1 wr vn now u (lenL A m))) (fun _ _ i _ => most + 1 - (intOf i).toNat)
  case atStart => exact ⟨0, [0], rfl, Nat.zero_le _, hide ⟨by simp, fun y => by simp [RchN]⟩, HST.out⟩
  case round =>
    obtain ⟨m, now, rfl, hm1, hat, hst⟩ := hrel
    obtain ⟨ua, uc, rfl⟩ := hst.out.own.shape
    have HLB := hide (lenL_bound (A := A) (k := m) (by omega))
    have HLL := hide (lenL_len A m)
    have HYES := hide (lenL_yes (A := A) (k := m))
    have HNO := hide (lenL_no (A := A) (k := m))
    by_cases hmm : m ≤ most
    · generalize lenL A m = ol at hst HLB HLL HYES HNO
      have HST2 := hide hst.out
      obtain ⟨pa, pc, rfl, hp1, hp2, hpcell⟩ := hst.out.at_.open
      unfold maxLen at hp2
      have HPC := hide hpcell
      have HW := hide (rfl : wr = wr)
      obtain ⟨wo, hwo⟩ : ∃ wo, wo = wr := ⟨_, rfl⟩
      rw [← hwo] at HPC HST2
      have HNB := hide (rise_len hat.out.1 (hat.out.bound HOK.out))
      clear hst hpcell HW
      go_wp2_with fail
      go_loopw [8, 9, 10] (fun vx b i wr => ∃ (k : Nat) (bv : Bool) (o : List Int), i = .int .i64 k ∧ k ≤ now.length ∧ b = .bool bv ∧ Hid (AccL A now k bv) ∧ Hid (MidL A now k o) ∧ Same wo wr ∧ Hid (IntsAt wr vx o) ∧ Hid (∀ b, live vx = some b → (Value.slice ua ol.length uc).ownBlock ≠ some b)) (fun _ _ i _ => now.length - (intOf i).toNat)
      case atStart => exact ⟨0, false, [], rfl, Nat.zero_le _, rfl, hide (by simp [AccL]), MidL.start A now, by rw [hwo]; exact Keeps.refl _ _, hide (OwnInts.ints (B := 0) (World.ownsRow_nil _ _ _ _) (by simp)), hide (fun b hb => by simp [live] at hb)⟩
      case round =>
        clear hwo
        obtain ⟨k, bv, o, rfl, hk, rfl, hacc, hmid, hK, hvx, hap⟩ := hrel
        by_cases hlt : k < now.length
        · obtain ⟨x, hx⟩ : ∃ x, x = now[k] := ⟨_, rfl⟩
          have hxk : now[k]? = some x := by rw [hx]; exact List.getElem?_eq_getElem hlt
          obtain ⟨s, rfl, hrs⟩ := (hat.out.2 x).1 (List.mem_of_getElem? hxk)
          have hsn : s < A.acc.length := hrs.lt HOK.out
          have hsl : s < A.next.length := by rw [HNL.out]; exact hsn
          obtain ⟨pb, poff, rfl, _, hcl⟩ := HPC.out k hlt
          have hcl := hcl k hlt
          rw [← hx] at hcl
          have HCK := hide hcl
          obtain ⟨_, _, e1, _, hcl2⟩ := HNC.out s hsl
          simp only [Option.some.injEq, Addr.mk.injEq, and_true] at e1
          obtain ⟨rfl, rfl⟩ := e1
          obtain ⟨ru, hru, hri⟩ := hcl2 s hsl
          have hrow : rowI A s = A.next[s] := by unfold rowI; rw [List.getD_eq_getElem?_getD, List.getElem?_eq_getElem hsl]; rfl
          have hro := HOK.out.2 _ (List.getElem_mem hsl)
          generalize A.next[s] = row at hri hrow hro
          have hrl : row.length ≤ 64 := by rw [hro.1]; exact two_le (by have := HOK.out.1.1; have := HOK.out.1.2.1; omega)
          obtain ⟨ra, rc, rfl, _, hr2, hrcl⟩ := hri.open
          unfold maxLen at hr2
          have HRU := hide (Keeps.cell HK1.out hru trivial)
          have HRC := hide hrcl
          have HROW := hide hrow
          have HRO := hide hro.2
          obtain ⟨_, _, e2, _, hacl⟩ := HAC.out s hsn
          simp only [Option.some.injEq, Addr.mk.injEq, and_true] at e2
          obtain ⟨rfl, rfl⟩ := e2
          have hacl := hacl s hsn
          have HACS := hide (show ac A s = A.acc[s] by unfold ac; rw [List.getD_eq_getElem?_getD, List.getElem?_eq_getElem hsn]; rfl)
          have HA0 := hide (hacc.out.more hxk)
          have HMID := hide hmid.out
          have HAT := hide hat.out
          have HXK := hide hxk
          have hck := Keeps.cell hK HCK.out trivial
          have hbx := Keeps.cell (HST2.out.keep.tr hK) HB1.out trivial
          have hak := Keeps.cell (HK1.out.tr (HST2.out.keep.tr hK)) hacl trivial
          rw [← HACS.out] at hak
          have HKW := hide hK
          have HVX := hide hvx.out
          have HAP := hide hap.out
          generalize ac A s = y at hak HA0
          clear hcl hcl2 hru hri hrow hro hrcl hacl hacc hmid hat hx hxk hrs hK hvx hap HACS
          cases bv
          · have HA2 : Hid (AccL A now (k + 1) y) := hide (by simpa using HA0.out)
            go_wp2_with fail
            refine wp_region_same (by kernel_rfl) (by kernel_rfl) ?_
            iterate 12
              (apply wpQuiet_step
               intro K hK
               first
                 | (apply quiet_skip
                    case hw => rfl
                    go_simp
                    refine hK _ ?_; clear hK K)
                 | (apply quiet_do
                    case hw => rfl
                    case h =>
                      intro w' hw'
                      (have z0 := Keeps.cell hw' hbx trivial; have z1 := Keeps.cell hw' hck trivial; have z2 := Keeps.cell hw' hak trivial)
                      go_simp
                      first | exact rfl | (fail)
                    go_simp
                    refine hK _ ?_; clear hK K))
            apply wpQuiet_nil
            intro w3 k3
            have HK3 := hide (HKW.out.tr k3)
            have HVX3 := hide (HVX.out.same k3)
            clear k3 hck hbx hak
            go_wp2_with fail
            go_loopw [8, 11] (fun vx i wr => ∃ (j : Nat) (o' : List Int), i = .int .i64 j ∧ j ≤ row.length ∧ Hid (o'.Pairwise (· < ·) ∧ ∀ y, y ∈ o' ↔ y ∈ o ∨ ∃ i, i < j ∧ row[i]? = some y) ∧ Same wo wr ∧ Hid (IntsAt wr vx o') ∧ Hid (∀ b, live vx = some b → (Value.slice ua ol.length uc).ownBlock ≠ some b)) (fun _ i _ => row.length - (intOf i).toNat)
            case atStart => exact ⟨0, o, rfl, Nat.zero_le _, hide ⟨HMID.out.rise, fun y => by simp⟩, HK3.out, HVX3.out, HAP.out⟩
            case round =>
              obtain ⟨j, o', rfl, hj, hmem, hK, hvx, hap⟩ := hrel
              have hck := Keeps.cell hK HCK.out trivial
              have hbx := Keeps.cell (HST2.out.keep.tr hK) HB2.out trivial
              have hru := Keeps.cell (HST2.out.keep.tr hK) HRU.out trivial
              have HKX := hide hK
              clear hK
              by_cases hjr : j < row.length
              · go_wp2_with fail
                refine wp_region_same (by kernel_rfl) (by kernel_rfl) ?_
                iterate 11
                  (apply wpQuiet_step
                   intro K hK
                   first
                     | (apply quiet_skip
                        case hw => rfl
                        go_simp
                        refine hK _ ?_; clear hK K)
                     | (apply quiet_do
                        case hw => rfl
                        case h =>
                          intro w' hw'
                          (have z0 := Keeps.cell hw' hbx trivial; have z1 := Keeps.cell hw' hck trivial; have z2 := Keeps.cell hw' hru trivial)
                          go_simp
                          first | exact rfl | (fail)
                        go_simp
                        refine hK _ ?_; clear hK K))
                apply wpQuiet_nil
                intro w4 k4
                have HK4 := hide (HKX.out.tr k4)
                have HVX4 := hide (hvx.out.same k4)
                have HAPX := hide hap.out
                obtain ⟨y, hy⟩ : ∃ y, y = row[j] := ⟨_, rfl⟩
                have hjy : row[j]? = some y := by rw [hy]; exact List.getElem?_eq_getElem hjr
                have hyb := HRO.out y (List.mem_of_getElem? hjy)
                obtain ⟨t, rfl⟩ := Int.eq_ofNat_of_zero_le hyb.1
                obtain ⟨rb, roff, rfl, _, hrm⟩ := HRC.out j hjr
                have hrm := hrm j hjr
                rw [← hy] at hrm
                have HRM := hide (Keeps.cell HK1.out hrm trivial)
                have HTB : Hid ((0 : Int) ≤ (t : Int) ∧ (t : Int) ≤ 100000) := hide ⟨by omega, by omega⟩
                have HOB : Hid (o'.length ≤ 400) := hide (by
                  refine Nat.le_trans (rise_len (n := A.acc.length) hmem.out.1 fun y hy => ?_) hn4
                  rcases (hmem.out.2 y).1 hy with h | ⟨i, _, h⟩
                  · exact HMID.out.bound HOK.out HAT.out y h
                  · exact HRO.out y (List.mem_of_getElem? h))
                have HJY := hide hjy
                have HMEM := hide hmem.out
                clear k4 hck hbx hru hvx hap hy hjy hyb hrm hmem
                go_wp2_with fail
                have hck4 := Keeps.cell HK4.out HCK.out trivial
                refine wp_region_plan (.take 0 (.take 1 (.take 2 (.take 3 (.take 4 (.take 5 (.take 6 (.take 7 (.take 8 (.take 9 (.take 10 (.take 11 (.one 12 (.take 13 (.take 14 (.take 15 (.take 16 .done))))))))))))))))) (Same w4) (by kernel_rfl) (by kernel_rfl) (Keeps.drew (Keeps.refl (fun _ => True) w4)) ?_
                iterate 12
                  (first
                     | (apply pl_pass
                        case ho => rfl
                        case hw => rfl
                        go_simp)
                     | (apply pl_take
                        case ho => rfl
                        case hw => rfl
                        case hv =>
                          intro w' hS
                          (have z0 := Keeps.cell (HST2.out.keep.tr (HK4.out.tr hS)) HB2.out trivial; have z1 := Keeps.cell hS hck4 trivial; have z2 := Keeps.cell (HST2.out.keep.tr (HK4.out.tr hS)) HRU.out trivial; have z3 := Keeps.cell (HST2.out.keep.tr (HK4.out.tr hS)) HRM.out trivial)
                          go_simp
                          exact rfl
                        go_simp))
                refine pl_one (up_do rfl rfl fun K hK1 => ?_)
                go_simp
                have kd4 : Same w4 w4.drew := Keeps.drew (Keeps.refl (fun _ => True) w4)
                have HLV := hide (show ∀ b, (Value.slice ua ol.length uc).ownBlock = some b → b < w4.heap.size from fun b hb => by
                  have h1 := (HST2.out.own.low hb).2
                  have h2 := HK4.out.size
                  omega)
                refine refAdd (HVX4.out.same kd4) (by have := HOB.out; omega) HMEM.out.1 HTB.out ?_; rintro e w5 vo5 o5 bb hbb rfl hi5 hr5 hm5 _ hb5 k5
                refine hK1 (Same w4) _ _ (kd4.tr k5) (fun _ h => h) ?_
                clear hK1 K
                go_simp
                iterate 4
                  (first
                     | (apply pl_pass
                        case ho => rfl
                        case hw => rfl
                        go_simp)
                     | (apply pl_take
                        case ho => rfl
                        case hw => rfl
                        case hv =>
                          intro w' hS
                          (skip)
                          go_simp
                          exact rfl
                        go_simp))
                refine pl_done ?_
                have HK5 := hide (HK4.out.tr (kd4.tr k5))
                have HI5 := hide hi5
                have HM5 : Hid (o5.Pairwise (· < ·) ∧ ∀ y, y ∈ o5 ↔ y ∈ o ∨ ∃ i, i < j + 1 ∧ row[i]? = some y) := hide ⟨hr5, fun y => by
                  rw [hm5, HMEM.out.2 y]
                  constructor
                  · rintro (h | h | ⟨i, h1, h2⟩)
                    · exact .inr ⟨j, by omega, by rw [h]; exact HJY.out⟩
                    · exact .inl h
                    · exact .inr ⟨i, by omega, h2⟩
                  · rintro (h | ⟨i, h1, h2⟩)
                    · exact .inr (.inl h)
                    · rcases Nat.lt_or_eq_of_le (Nat.le_of_lt_succ h1) with e | e
                      · exact .inr (.inr ⟨i, e, h2⟩)
                      · subst e; rw [HJY.out] at h2; exact .inl (Option.some.inj h2).symm⟩
                have HAP5 : Hid (∀ b, live vo5 = some b → (Value.slice ua ol.length uc).ownBlock ≠ some b) := hide (fun b hb e => by
                  rcases hb5 b hb with h | h
                  · exact HAPX.out b h e
                  · exact absurd (Nat.lt_of_lt_of_le (HLV.out b e) h) (Nat.lt_irrefl _))
                clear hbb hi5 hr5 hm5 hb5 k5 kd4 hck4
                go_wp2_with fail
                go_roundw
                case rel => exact ⟨j + 1, o5, by go_num, by omega, HM5.out, HK5.out, HI5.out, HAP5.out⟩
                case measure => simp [intOf]; omega
              · obtain rfl : j = row.length := by omega
                have HM2 : Hid (MidL A now (k + 1) o') := hide ⟨hmem.out.1, fun y => by
                  rw [hmem.out.2 y, HMID.out.mem y]
                  constructor
                  · rintro (⟨i, x, h1, h2, h3⟩ | ⟨i, _, h2⟩)
                    · exact ⟨i, x, by omega, h2, h3⟩
                    · exact ⟨k, _, by omega, HXK.out, by rw [Int.toNat_natCast, HROW.out]; exact List.mem_of_getElem? h2⟩
                  · rintro ⟨i, x, h1, h2, h3⟩
                    rcases Nat.lt_or_eq_of_le (Nat.le_of_lt_succ h1) with e | e
                    · exact .inl ⟨i, x, e, h2, h3⟩
                    · subst e
                      rw [HXK.out] at h2
                      obtain rfl := Option.some.inj h2
                      rw [Int.toNat_natCast, HROW.out] at h3
                      obtain ⟨i, hi⟩ := List.getElem?_of_mem h3
                      exact .inr ⟨i, (List.getElem?_eq_some_iff.1 hi).1, hi⟩⟩
                go_wp2_with fail
                refine wp_region_same (by kernel_rfl) (by kernel_rfl) ?_
                iterate 11
                  (apply wpQuiet_step
                   intro K hK
                   first
                     | (apply quiet_skip
                        case hw => rfl
                        go_simp
                        refine hK _ ?_; clear hK K)
                     | (apply quiet_do
                        case hw => rfl
                        case h =>
                          intro w' hw'
                          (have z0 := Keeps.cell hw' hbx trivial; have z1 := Keeps.cell hw' hck trivial; have z2 := Keeps.cell hw' hru trivial)
                          go_simp
                          first | exact rfl | (fail)
                        go_simp
                        refine hK _ ?_; clear hK K))
                apply wpQuiet_nil
                intro w4 k4
                have HK4 := hide (HKX.out.tr k4)
                have HVX4 := hide (hvx.out.same k4)
                have HAPX := hide hap.out
                clear k4 hck hbx hru hvx hap hmem
                go_wp2_with fail
                go_roundw
                case rel => exact ⟨k + 1, _, o', by go_num, by omega, rfl, HA2.out, HM2.out, HK4.out, HVX4.out, HAPX.out⟩
                case measure => simp [intOf]; omega
          · have HA2 : Hid (AccL A now (k + 1) true) := hide (by simpa using HA0.out)
            go_wp2_with fail
            refine wp_region_same (by kernel_rfl) (by kernel_rfl) ?_
            iterate 12
              (apply wpQuiet_step
               intro K hK
               first
                 | (apply quiet_skip
                    case hw => rfl
                    go_simp
                    refine hK _ ?_; clear hK K)
                 | (apply quiet_do
                    case hw => rfl
                    case h =>
                      intro w' hw'
                      (skip)
                      go_simp
                      first | exact rfl | (fail)
                    go_simp
                    refine hK _ ?_; clear hK K))
            apply wpQuiet_nil
            intro w3 k3
            have HK3 := hide (HKW.out.tr k3)
            have HVX3 := hide (HVX.out.same k3)
            clear k3 hck hbx hak
            go_wp2_with fail
            go_loopw [8, 11] (fun vx i wr => ∃ (j : Nat) (o' : List Int), i = .int .i64 j ∧ j ≤ row.length ∧ Hid (o'.Pairwise (· < ·) ∧ ∀ y, y ∈ o' ↔ y ∈ o ∨ ∃ i, i < j ∧ row[i]? = some y) ∧ Same wo wr ∧ Hid (IntsAt wr vx o') ∧ Hid (∀ b, live vx = some b → (Value.slice ua ol.length uc).ownBlock ≠ some b)) (fun _ i _ => row.length - (intOf i).toNat)
            case atStart => exact ⟨0, o, rfl, Nat.zero_le _, hide ⟨HMID.out.rise, fun y => by simp⟩, HK3.out, HVX3.out, HAP.out⟩
            case round =>
              obtain ⟨j, o', rfl, hj, hmem, hK, hvx, hap⟩ := hrel
              have hck := Keeps.cell hK HCK.out trivial
              have hbx := Keeps.cell (HST2.out.keep.tr hK) HB2.out trivial
              have hru := Keeps.cell (HST2.out.keep.tr hK) HRU.out trivial
              have HKX := hide hK
              clear hK
              by_cases hjr : j < row.length
              · go_wp2_with fail
                refine wp_region_same (by kernel_rfl) (by kernel_rfl) ?_
                iterate 11
                  (apply wpQuiet_step
                   intro K hK
                   first
                     | (apply quiet_skip
                        case hw => rfl
                        go_simp
                        refine hK _ ?_; clear hK K)
                     | (apply quiet_do
                        case hw => rfl
                        case h =>
                          intro w' hw'
                          (have z0 := Keeps.cell hw' hbx trivial; have z1 := Keeps.cell hw' hck trivial; have z2 := Keeps.cell hw' hru trivial)
                          go_simp
                          first | exact rfl | (fail)
                        go_simp
                        refine hK _ ?_; clear hK K))
                apply wpQuiet_nil
                intro w4 k4
                have HK4 := hide (HKX.out.tr k4)
                have HVX4 := hide (hvx.out.same k4)
                have HAPX := hide hap.out
                obtain ⟨y, hy⟩ : ∃ y, y = row[j] := ⟨_, rfl⟩
                have hjy : row[j]? = some y := by rw [hy]; exact List.getElem?_eq_getElem hjr
                have hyb := HRO.out y (List.mem_of_getElem? hjy)
                obtain ⟨t, rfl⟩ := Int.eq_ofNat_of_zero_le hyb.1
                obtain ⟨rb, roff, rfl, _, hrm⟩ := HRC.out j hjr
                have hrm := hrm j hjr
                rw [← hy] at hrm
                have HRM := hide (Keeps.cell HK1.out hrm trivial)
                have HTB : Hid ((0 : Int) ≤ (t : Int) ∧ (t : Int) ≤ 100000) := hide ⟨by omega, by omega⟩
                have HOB : Hid (o'.length ≤ 400) := hide (by
                  refine Nat.le_trans (rise_len (n := A.acc.length) hmem.out.1 fun y hy => ?_) hn4
                  rcases (hmem.out.2 y).1 hy with h | ⟨i, _, h⟩
                  · exact HMID.out.bound HOK.out HAT.out y h
                  · exact HRO.out y (List.mem_of_getElem? h))
                have HJY := hide hjy
                have HMEM := hide hmem.out
                clear k4 hck hbx hru hvx hap hy hjy hyb hrm hmem
                go_wp2_with fail
                have hck4 := Keeps.cell HK4.out HCK.out trivial
                refine wp_region_plan (.take 0 (.take 1 (.take 2 (.take 3 (.take 4 (.take 5 (.take 6 (.take 7 (.take 8 (.take 9 (.take 10 (.take 11 (.one 12 (.take 13 (.take 14 (.take 15 (.take 16 .done))))))))))))))))) (Same w4) (by kernel_rfl) (by kernel_rfl) (Keeps.drew (Keeps.refl (fun _ => True) w4)) ?_
                iterate 12
                  (first
                     | (apply pl_pass
                        case ho => rfl
                        case hw => rfl
                        go_simp)
                     | (apply pl_take
                        case ho => rfl
                        case hw => rfl
                        case hv =>
                          intro w' hS
                          (have z0 := Keeps.cell (HST2.out.keep.tr (HK4.out.tr hS)) HB2.out trivial; have z1 := Keeps.cell hS hck4 trivial; have z2 := Keeps.cell (HST2.out.keep.tr (HK4.out.tr hS)) HRU.out trivial; have z3 := Keeps.cell (HST2.out.keep.tr (HK4.out.tr hS)) HRM.out trivial)
                          go_simp
                          exact rfl
                        go_simp))
                refine pl_one (up_do rfl rfl fun K hK1 => ?_)
                go_simp
                have kd4 : Same w4 w4.drew := Keeps.drew (Keeps.refl (fun _ => True) w4)
                have HLV := hide (show ∀ b, (Value.slice ua ol.length uc).ownBlock = some b → b < w4.heap.size from fun b hb => by
                  have h1 := (HST2.out.own.low hb).2
                  have h2 := HK4.out.size
                  omega)
                refine refAdd (HVX4.out.same kd4) (by have := HOB.out; omega) HMEM.out.1 HTB.out ?_; rintro e w5 vo5 o5 bb hbb rfl hi5 hr5 hm5 _ hb5 k5
                refine hK1 (Same w4) _ _ (kd4.tr k5) (fun _ h => h) ?_
                clear hK1 K
                go_simp
                iterate 4
                  (first
                     | (apply pl_pass
                        case ho => rfl
                        case hw => rfl
                        go_simp)
                     | (apply pl_take
                        case ho => rfl
                        case hw => rfl
                        case hv =>
                          intro w' hS
                          (skip)
                          go_simp
                          exact rfl
                        go_simp))
                refine pl_done ?_
                have HK5 := hide (HK4.out.tr (kd4.tr k5))
                have HI5 := hide hi5
                have HM5 : Hid (o5.Pairwise (· < ·) ∧ ∀ y, y ∈ o5 ↔ y ∈ o ∨ ∃ i, i < j + 1 ∧ row[i]? = some y) := hide ⟨hr5, fun y => by
                  rw [hm5, HMEM.out.2 y]
                  constructor
                  · rintro (h | h | ⟨i, h1, h2⟩)
                    · exact .inr ⟨j, by omega, by rw [h]; exact HJY.out⟩
                    · exact .inl h
                    · exact .inr ⟨i, by omega, h2⟩
                  · rintro (h | ⟨i, h1, h2⟩)
                    · exact .inr (.inl h)
                    · rcases Nat.lt_or_eq_of_le (Nat.le_of_lt_succ h1) with e | e
                      · exact .inr (.inr ⟨i, e, h2⟩)
                      · subst e; rw [HJY.out] at h2; exact .inl (Option.some.inj h2).symm⟩
                have HAP5 : Hid (∀ b, live vo5 = some b → (Value.slice ua ol.length uc).ownBlock ≠ some b) := hide (fun b hb e => by
                  rcases hb5 b hb with h | h
                  · exact HAPX.out b h e
                  · exact absurd (Nat.lt_of_lt_of_le (HLV.out b e) h) (Nat.lt_irrefl _))
                clear hbb hi5 hr5 hm5 hb5 k5 kd4 hck4
                go_wp2_with fail
                go_roundw
                case rel => exact ⟨j + 1, o5, by go_num, by omega, HM5.out, HK5.out, HI5.out, HAP5.out⟩
                case measure => simp [intOf]; omega
              · obtain rfl : j = row.length := by omega
                have HM2 : Hid (MidL A now (k + 1) o') := hide ⟨hmem.out.1, fun y => by
                  rw [hmem.out.2 y, HMID.out.mem y]
                  constructor
                  · rintro (⟨i, x, h1, h2, h3⟩ | ⟨i, _, h2⟩)
                    · exact ⟨i, x, by omega, h2, h3⟩
                    · exact ⟨k, _, by omega, HXK.out, by rw [Int.toNat_natCast, HROW.out]; exact List.mem_of_getElem? h2⟩
                  · rintro ⟨i, x, h1, h2, h3⟩
                    rcases Nat.lt_or_eq_of_le (Nat.le_of_lt_succ h1) with e | e
                    · exact .inl ⟨i, x, e, h2, h3⟩
                    · subst e
                      rw [HXK.out] at h2
                      obtain rfl := Option.some.inj h2
                      rw [Int.toNat_natCast, HROW.out] at h3
                      obtain ⟨i, hi⟩ := List.getElem?_of_mem h3
                      exact .inr ⟨i, (List.getElem?_eq_some_iff.1 hi).1, hi⟩⟩
                go_wp2_with fail
                refine wp_region_same (by kernel_rfl) (by kernel_rfl) ?_
                iterate 11
                  (apply wpQuiet_step
                   intro K hK
                   first
                     | (apply quiet_skip
                        case hw => rfl
                        go_simp
                        refine hK _ ?_; clear hK K)
                     | (apply quiet_do
                        case hw => rfl
                        case h =>
                          intro w' hw'
                          (have z0 := Keeps.cell hw' hbx trivial; have z1 := Keeps.cell hw' hck trivial; have z2 := Keeps.cell hw' hru trivial)
                          go_simp
                          first | exact rfl | (fail)
                        go_simp
                        refine hK _ ?_; clear hK K))
                apply wpQuiet_nil
                intro w4 k4
                have HK4 := hide (HKX.out.tr k4)
                have HVX4 := hide (hvx.out.same k4)
                have HAPX := hide hap.out
                clear k4 hck hbx hru hvx hap hmem
                go_wp2_with fail
                go_roundw
                case rel => exact ⟨k + 1, _, o', by go_num, by omega, rfl, HA2.out, HM2.out, HK4.out, HVX4.out, HAPX.out⟩
                case measure => simp [intOf]; omega
        · obtain rfl : now.length = k := by omega
          have HMD := hide (hmid.out.done HOK.out hat.out)
          have HAD := hide (hacc.out.done hat.out)
          have hst6 := HST2.out.same hK
          cases bv with
          | true =>
            obtain ⟨g, cap, w6, hr, hst7⟩ := hst6.push hvx.out hap.out (m : Int) (by have := HLL.out; omega)
            rw [← HYES.out (HAD.out.1 rfl)] at hst7
            have HF := hide hst7
            clear hst6 hst7 hacc hmid hK hvx hap hat
            go_wp2_with (at_builtin; refine wpList_append_run rfl _ _ _ rfl rfl rfl hr ?_; clear hr)
            go_roundw
            case rel => exact ⟨m + 1, o, by go_num, by omega, HMD.out, HF.out⟩
            case measure => simp [intOf]; omega
          | false =>
            have HF : Hid (RlSt W1 w1 wr _ o (.slice ua ol.length uc) (lenL A (m + 1))) := hide (by
              rw [HNO.out (fun h => by have := HAD.out.2 h; cases this)]
              exact hst6.swap hvx.out hap.out)
            clear hst6 hacc hmid hK hvx hap hat
            go_wp2_with fail
            go_roundw
            case rel => exact ⟨m + 1, o, by go_num, by omega, HMD.out, HF.out⟩
            case measure => simp [intOf]; omega
    · obtain rfl : m = most + 1 := by omega
      have HF := hide (hst.out.own.ints HLB.out)
      have HKF := hide (HK1.out.tr hst.out.keep)
      clear hst
      go_wp2_with fail
      exact HR.out _ _ _ rfl HF.out HKF.out

end Go.Proofs.Ytohhjdadhdibfaa
