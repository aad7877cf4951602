/- The walk of sibylref21.Reach. -/
import Derived.Test.YtohhjdadhdibfaaAdd14
import Derived.Test.YtohhjdadhdibfaaReach
import Derived.Test.YtohhjdadhdibfaaPkA
namespace Go.Proofs.Ytohhjdadhdibfaa
open Go.RowKit

attribute [local irreducible] wpQuiet wpPlan wpPlanZ wpUp

variable {R : Ending → World → Prop} {w : World} {A : Au}

/-- The state of the reference's search: the states found in order, and rising. -/
structure RfSt (W1 : Nat) (w1 wr : World) (vl vo : Value) (l o : List Int) : Prop where
  own : OwnInts wr W1 vl l
  out : IntsAt wr vo o
  apart : ∀ b, live vo = some b → vl.ownBlock ≠ some b
  keep : Same w1 wr
  low : W1 = w1.heap.size
  rise : o.Pairwise (· < ·)
  mem : ∀ y, y ∈ o ↔ y ∈ l

theorem RfSt.same {W1 : Nat} {w1 wr wr' : World} {vl vo : Value} {l o : List Int} (h : RfSt W1 w1 wr vl vo l o) (k : Same wr wr') : RfSt W1 w1 wr' vl vo l o :=
  ⟨h.own.same k, h.out.same k, h.apart, h.keep.tr k, h.low, h.rise, h.mem⟩

theorem RfSt.swap {W1 : Nat} {w1 wr : World} {vl vo vo2 : Value} {l o o2 : List Int} (h : RfSt W1 w1 wr vl vo l o) (hi : IntsAt wr vo2 o2) (hb : ∀ b, live vo2 = some b → vl.ownBlock ≠ some b) (hr : o2.Pairwise (· < ·)) (hm : ∀ y, y ∈ o2 ↔ y ∈ l) :
    RfSt W1 w1 wr vl vo2 l o2 := ⟨h.own, hi, hb, h.keep, h.low, hr, hm⟩

theorem BfsI.out_len (h : AuOk A) {i : Nat} {l o : List Int} (hb : BfsI A i l) (ho : o.Pairwise (· < ·)) (hm : ∀ y, y ∈ o ↔ y ∈ l) : o.length ≤ A.acc.length := by
  have := nodup_lt A.acc.length (o.map Int.toNat) (by
    rw [List.nodup_iff_pairwise_ne, List.pairwise_map]
    refine List.Pairwise.imp_of_mem ?_ ho
    intro a b ha hb' hab e
    obtain ⟨s, rfl, _⟩ := hb.rch a ((hm a).1 ha)
    obtain ⟨t, rfl, _⟩ := hb.rch b ((hm b).1 hb')
    simp at e; omega) (by
    intro x hx
    obtain ⟨y, hy, rfl⟩ := List.mem_map.1 hx
    obtain ⟨s, rfl, hr⟩ := hb.rch y ((hm y).1 hy)
    simpa using hr.lt h)
  simpa using this

theorem RfSt.push {W1 : Nat} {w1 wr : World} {vl vo vo2 : Value} {l o o2 : List Int} {x : Int} (h : RfSt W1 w1 wr vl vo l o) (hl : l.length ≤ 1000) (hi : IntsAt wr vo2 o2) (hb : ∀ b, live vo2 = some b → vl.ownBlock ≠ some b) (hr : o2.Pairwise (· < ·)) (hm : ∀ y, y ∈ o2 ↔ y = x ∨ y ∈ o) :
    ∃ g cap w', (Builtin.append_ #[40, 40] 40 #[vl, .slice (some ⟨wr.heap.size, 0, none⟩) 1 1]).run Try.prog (wr.alloc (.cells #[.int .i64 x] 3)) = .ok (.slice (some ⟨g, 0, none⟩) (l.length + 1) cap) w' ∧
      RfSt W1 w1 w' (.slice (some ⟨g, 0, none⟩) (l.length + 1) cap) vo2 (l ++ [x]) o2 := by
  obtain ⟨g, cap, w', hr2, hown2, hk2, hg, _⟩ := append_one (P := Try.prog) wr 40 40 3 Try.underlying40 int_info rfl h.own (by rw [h.low]; exact h.keep.size) (.int .i64 x) rfl (by omega) (by decide)
  refine ⟨g, cap, w', hr2, ⟨?_, hi.keep hk2 hb, fun b hb2 e => ?_, h.keep.trans hk2 fun y hy _ => ⟨trivial, fun e => ?_⟩, h.low, hr, fun y => ?_⟩⟩
  · unfold OwnInts; simpa using hown2
  · simp [Value.ownBlock] at e
    subst e
    rcases hg with hg | hg
    · exact hb _ hb2 hg
    · have := hi.lt _ hb2; omega
  · have := (h.own.low e).1
    have := h.low; omega
  · rw [hm, h.mem, List.mem_append, List.mem_singleton]
    exact Or.comm

set_option maxRecDepth 10000 in
set_option maxHeartbeats 4000000 in
theorem refReach {v : Value} (hA : AutoAt w v A) (hok : AuOk A) (hR : ∀ e w' u, e = .returned u → IntsAt w' u (rchL A) → Same w w' → R e w') :
    Calls Try.prog 50 #[v] w R := by
  have HR := hide hR
  clear hR
  have HOK := hide hok
  obtain ⟨va, vn, rfl, hacc, hnext, hT⟩ := hA
  obtain ⟨aa, ac, rfl, _⟩ := hacc.open
  obtain ⟨na, nc, rfl, _, hn2, hnc⟩ := hnext.open
  have hn1 : 0 < A.acc.length := hok.1.2.2.1
  have hn4 : A.acc.length ≤ 400 := hok.1.2.2.2.1
  have HNL := hide hok.1.2.2.2.2
  obtain ⟨nb, noff, rfl, _, _⟩ := hnc 0 (by rw [HNL.out]; exact hn1)
  have HNC := hide hnc
  have HNX := hide hnext
  have hbx := heap_new w (.cells #[.int .i64 A.T, .slice aa A.acc.length ac, .slice (some ⟨nb, noff, none⟩) A.next.length nc] 25)
  have hk1 : Same w (w.alloc (.cells #[.int .i64 A.T, .slice aa A.acc.length ac, .slice (some ⟨nb, noff, none⟩) A.next.length nc] 25)) := (Keeps.refl _ w).alloc _
  unfold maxLen at hn2
  clear hok hacc hnext hT hnc
  go_enter Try.func50, Try.ntmps50
  go_wp2_with fail
  obtain ⟨W1, hW1⟩ : ∃ W1, W1 = (w.alloc (.cells #[.int .i64 A.T, .slice aa A.acc.length ac, .slice (some ⟨nb, noff, none⟩) A.next.length nc] 25)).heap.size := ⟨_, rfl⟩
  have hx1 : W1 = w.heap.size + 1 := by rw [hW1]; simp
  generalize w.alloc (.cells #[.int .i64 A.T, .slice aa A.acc.length ac, .slice (some ⟨nb, noff, none⟩) A.next.length nc] 25) = w1 at hbx hk1 hW1 ⊢
  generalize w.heap.size = x1 at hbx hx1 ⊢
  rw [← hx1]
  have hst : RfSt W1 w1 ((w1.alloc (.cells #[.int .i64 0] 3)).alloc (.cells #[.int .i64 0] 3)) (.slice (some ⟨W1, 0, none⟩) 1 1) (.slice (some ⟨W1 + 1, 0, none⟩) 1 1) [0] [0] := by
    have h1 := heap_new w1 (.cells #[.int .i64 0] 3)
    rw [← hW1] at h1
    have h2 := heap_new (w1.alloc (.cells #[.int .i64 0] 3)) (.cells #[.int .i64 0] 3)
    rw [show (w1.alloc (.cells #[.int .i64 0] 3)).heap.size = W1 + 1 by simp [hW1]] at h2
    refine ⟨RowIn.own (l := [0]) (heap_old h1 _) (Nat.le_refl _) rfl (by decide), ints_of_block h2 [0] rfl (by simp [InI64]) rfl (Nat.le_refl _) (by decide), fun b hb => ?_, ((Keeps.refl _ w1).alloc _).alloc _, hW1, by simp, fun _ => Iff.rfl⟩
    simp [live] at hb; simp [Value.ownBlock]; omega
  generalize (w1.alloc (.cells #[.int .i64 0] 3)).alloc (.cells #[.int .i64 0] 3) = w2 at hst ⊢
  have b2 := cell_at hbx 2
  simp only [List.getElem?_toArray, List.getElem?_cons_zero, List.getElem?_cons_succ] at b2
  have HB2 := hide b2
  have HST := hide hst
  have HK1 := hide hk1
  clear hst hk1 b2 hbx hW1 hx1
  go_loopw [3, 4, 5] (fun u o i wr => ∃ (k : Nat) (l ol : List Int), i = .int .i64 k ∧ k ≤ l.length ∧ l.length ≤ A.acc.length ∧ Hid (BfsI A k l) ∧ Hid (RfSt W1 w1 wr u o l ol)) (fun _ _ i _ => A.acc.length - (intOf i).toNat)
  case atStart => exact ⟨0, [0], [0], rfl, Nat.zero_le _, hn1, hide (BfsI.start A), HST.out⟩
  case round =>
    obtain ⟨k, l, ol, rfl, hk, hln, hb, hst⟩ := hrel
    obtain ⟨ua, uc, rfl⟩ := hst.out.own.shape
    by_cases hlt : k < l.length
    · obtain ⟨x, hx⟩ : ∃ x, x = l[k] := ⟨_, rfl⟩
      have hxk : l[k]? = some x := by rw [hx]; exact List.getElem?_eq_getElem hlt
      obtain ⟨s, rfl, hrs⟩ := hb.out.rch x (by rw [hx]; exact List.getElem_mem hlt)
      have hsn : s < A.acc.length := hrs.lt HOK.out
      have hsl : s < A.next.length := by rw [HNL.out]; exact hsn
      obtain ⟨_, _, e1, _, hcl⟩ := HNC.out s hsl
      simp only [Option.some.injEq, Addr.mk.injEq, and_true] at e1
      obtain ⟨rfl, rfl⟩ := e1
      obtain ⟨ru, hru, hri⟩ := hcl s hsl
      have hrow : rowI A s = A.next[s] := by unfold rowI; rw [List.getD_eq_getElem?_getD, List.getElem?_eq_getElem hsl]; rfl
      have hro := HOK.out.2 _ (List.getElem_mem hsl)
      generalize A.next[s] = row at hri hrow hro
      have hrl : row.length ≤ 64 := by rw [hro.1]; exact two_le (by have := HOK.out.1.1; have := HOK.out.1.2.1; omega)
      obtain ⟨ra, rc, rfl, _, hr2, hrcl⟩ := hri.open
      have HRU := hide (Keeps.cell HK1.out hru trivial)
      have HRC := hide hrcl
      have HROW := hide hrow
      have HRO := hide hro.2
      have HBF := hide (And.intro hb.out hxk)
      have HST2 := hide hst.out
      have HLT := hide hlt
      clear hb hst hx hxk hrs hcl hru hrow hro hri hrcl
      unfold maxLen at hr2
      go_wp2_with fail
      go_loopw [3, 4, 6] (fun u o i wr => ∃ (m : Nat) (l ol : List Int), i = .int .i64 m ∧ m ≤ row.length ∧ l.length ≤ A.acc.length ∧ k < l.length ∧ Hid ((BfsI A k l ∧ l[k]? = some (s : Int)) ∧ ∀ j y, j < m → row[j]? = some y → y ∈ l) ∧ Hid (RfSt W1 w1 wr u o l ol)) (fun _ _ i _ => row.length - (intOf i).toNat)
      case atStart => exact ⟨0, l, ol, rfl, Nat.zero_le _, hln, hlt, hide ⟨HBF.out, fun j y hj _ => absurd hj (Nat.not_lt_zero _)⟩, HST2.out⟩
      case round =>
        obtain ⟨m, l2, ol2, rfl, hm, hln2, hkl, hbf, hst⟩ := hrel
        obtain ⟨ua, uc, rfl⟩ := hst.out.own.shape
        have hlb : ∀ y ∈ l2, InI64 y := fun y hy => by
          obtain ⟨t, rfl, ht⟩ := hbf.out.1.1.rch y hy
          have := ht.lt HOK.out
          unfold InI64; omega
        obtain ⟨_, _, e1, _, hc2, hcell⟩ := (hst.out.own.ints hlb).open
        simp only [Value.slice.injEq] at e1
        obtain ⟨rfl, _, rfl⟩ := e1
        obtain ⟨lb, loff, rfl, _, hcl⟩ := hcell k hkl
        have hck := hcl k hkl
        rw [(List.getElem?_eq_some_iff.1 hbf.out.1.2).2] at hck
        have hbx := Keeps.cell hst.out.keep HB2.out trivial
        have hru := Keeps.cell hst.out.keep HRU.out trivial
        have HST3 := hide hst.out
        have HBF3 := hide hbf.out
        clear hbf hst hcell hcl hlb
        unfold maxLen at hc2
        by_cases hmr : m < row.length
        · go_wp2_with fail
          refine wp_region_same (by kernel_rfl) (by kernel_rfl) ?_
          iterate 11
            (apply wpQuiet_step
             intro K hK
             first
               | (apply quiet_skip
                  case hw => rfl
                  go_simp
                  refine hK _ ?_; clear hK K)
               | (apply quiet_do
                  case hw => rfl
                  case h =>
                    intro w' hw'
                    (have z0 := Keeps.cell hw' hbx trivial; have z1 := Keeps.cell hw' hck trivial; have z2 := Keeps.cell hw' hru trivial)
                    go_simp
                    first | exact rfl | (fail)
                  go_simp
                  refine hK _ ?_; clear hK K))
          apply wpQuiet_nil
          intro w3 k3
          have HST4 := hide (HST3.out.same k3)
          have hck3 := Keeps.cell k3 hck trivial
          obtain ⟨y, hy⟩ : ∃ y, y = row[m] := ⟨_, rfl⟩
          have hmy : row[m]? = some y := by rw [hy]; exact List.getElem?_eq_getElem hmr
          have hyb := HRO.out y (List.mem_of_getElem? hmy)
          obtain ⟨t, rfl⟩ := Int.eq_ofNat_of_zero_le hyb.1
          obtain ⟨rb, roff, rfl, _, hrm⟩ := HRC.out m hmr
          have hrm := hrm m hmr
          rw [← hy] at hrm
          have HRM := hide (Keeps.cell HK1.out hrm trivial)
          have HAD : Hid (∀ l3 : List Int, (∀ y ∈ l2, y ∈ l3) → (t : Int) ∈ l3 → ∀ j y, j < m + 1 → row[j]? = some y → y ∈ l3) := hide (fun l3 hsub ht j y hj hyj => by
            by_cases e : j = m
            · subst e; rw [hmy] at hyj; obtain rfl := Option.some.inj hyj; exact ht
            · exact hsub y (HBF3.out.2 j y (by omega) hyj))
          have HTM : Hid ((t : Int) ∈ rowI A (s : Int).toNat) := hide (by rw [Int.toNat_natCast, HROW.out]; exact List.mem_of_getElem? hmy)
          have HOL := hide (HBF3.out.1.1.out_len HOK.out HST3.out.rise HST3.out.mem)
          have htb : (0 : Int) ≤ (t : Int) ∧ (t : Int) ≤ 100000 := ⟨by omega, by omega⟩
          have HTB := hide htb
          clear hy hmy hyb hrm hbx hck hru k3 htb
          go_wp2_with fail
          refine wp_region_plan (.take 0 (.take 1 (.take 2 (.take 3 (.take 4 (.take 5 (.take 6 (.take 7 (.take 8 (.take 9 (.take 10 (.take 11 (.one 12 (.take 13 (.take 14 (.take 15 (.take 16 (.take 17 .done)))))))))))))))))) (Same w3) (by kernel_rfl) (by kernel_rfl) (Keeps.drew (Keeps.refl (fun _ => True) w3)) ?_
          iterate 12
            (first
               | (apply pl_pass
                  case ho => rfl
                  case hw => rfl
                  go_simp)
               | (apply pl_take
                  case ho => rfl
                  case hw => rfl
                  case hv =>
                    intro w' hS
                    (have z0 := Keeps.cell (HST4.out.keep.tr hS) HB2.out trivial; have z1 := Keeps.cell hS hck3 trivial; have z2 := Keeps.cell (HST4.out.keep.tr hS) HRU.out trivial; have z3 := Keeps.cell (HST4.out.keep.tr hS) HRM.out trivial)
                    go_simp
                    exact rfl
                  go_simp))
          refine pl_one (up_do rfl rfl fun K hK1 => ?_)
          go_simp
          have kd3 : Same w3 w3.drew := Keeps.drew (Keeps.refl (fun _ => True) w3)
          have HLV := hide (show ∀ b, (Value.slice (some ⟨lb, loff, none⟩) l2.length uc).ownBlock = some b → b < w3.heap.size from fun b hb => (HST4.out.own.low hb).2)
          refine refAdd (HST4.out.out.same kd3) (by have := HOL.out; omega) HST4.out.rise HTB.out ?_; rintro e w4 vo4 o4 bb hbb rfl hi4 hr4 hm4 _ hb4 k4
          have HBB := hide hbb
          clear hbb
          refine hK1 (Same w3) _ _ (kd3.tr k4) (fun _ h => h) ?_
          clear hK1 K
          go_simp
          iterate 5
            (first
               | (apply pl_pass
                  case ho => rfl
                  case hw => rfl
                  go_simp)
               | (apply pl_take
                  case ho => rfl
                  case hw => rfl
                  case hv =>
                    intro w' hS
                    (skip)
                    go_simp
                    exact rfl
                  go_simp))
          refine pl_done ?_
          have kd4 : Same w3 w4 := kd3.tr k4
          have hap : ∀ b, live vo4 = some b → (Value.slice (some ⟨lb, loff, none⟩) l2.length uc).ownBlock ≠ some b := fun b hb e => by
            rcases hb4 b hb with h | h
            · exact HST4.out.apart b h e
            · have := HLV.out b e
              exact absurd (Nat.lt_of_lt_of_le this h) (Nat.lt_irrefl _)
          have HAP := hide hap
          have HI4 := hide hi4
          have HR4 := hide hr4
          have HM4 := hide hm4
          have HK4 := hide kd4
          have hck4 := Keeps.cell kd4 hck3 trivial
          clear hap hi4 hr4 hm4 hb4 k4 kd3 kd4 hck3
          by_cases hin : (t : Int) ∈ l2
          · obtain rfl : bb = false := by rw [HBB.out]; simpa using (HST4.out.mem _).2 hin
            have HF := hide (HAD.out l2 (fun _ h => h) hin)
            have HSW := hide ((HST4.out.same HK4.out).swap HI4.out HAP.out HR4.out fun y => by
              rw [HM4.out, HST4.out.mem]
              exact ⟨fun h => h.elim (fun e => e ▸ hin) id, .inr⟩)
            clear hin hck4
            go_wp2_with fail
            go_roundw
            case rel => exact ⟨m + 1, l2, _, by go_num, by omega, hln2, hkl, hide ⟨HBF3.out.1, HF.out⟩, HSW.out⟩
            case measure => simp [intOf]; omega
          · obtain rfl : bb = true := by rw [HBB.out]; simpa using fun h => hin ((HST4.out.mem _).1 h)
            have hb2 : BfsI A k (l2 ++ [(t : Int)]) := HBF3.out.1.1.add HOK.out (Nat.le_of_lt hkl) (List.mem_of_getElem? HBF3.out.1.2) HTM.out hin
            have hl2 := hb2.len HOK.out
            have HF := hide (And.intro (And.intro hb2 (show (l2 ++ [(t : Int)])[k]? = some (s : Int) by rw [List.getElem?_append_left hkl]; exact HBF3.out.1.2)) (HAD.out (l2 ++ [(t : Int)]) (fun _ h => List.mem_append_left _ h) (by simp)))
            have hst4 := HST4.out.same HK4.out
            have kd5 : Same w4 w4.drew := Keeps.drew (Keeps.refl (fun _ => True) w4)
            obtain ⟨g, cap, w5, hr, hst5⟩ := (hst4.same kd5).push (vo2 := vo4) (o2 := o4) (x := (t : Int)) (by omega) (HI4.out.same kd5) HAP.out HR4.out HM4.out
            have HG := hide hst5
            have hck5 := Keeps.cell kd5 hck4 trivial
            have HK5 := hide (hst4.keep.tr kd5)
            clear hin hb2 hst4 hst5 hck4 kd5
            go_wp2_with fail
            refine wp_region_plan (.take 0 (.take 1 (.take 2 (.take 3 (.take 4 (.take 5 (.take 9 (.one 6 (.take 7 (.take 8 (.take 10 (.take 11 (.one 12 (.one 13 (.take 14 .done))))))))))))))) (Same w1) (by kernel_rfl) (by kernel_rfl) HK5.out ?_
            iterate 7
              (first
                 | (apply pl_pass
                    case ho => rfl
                    case hw => rfl
                    go_simp)
                 | (apply pl_take
                    case ho => rfl
                    case hw => rfl
                    case hv =>
                      intro w' hS
                      (have z0 := Keeps.cell hS HB2.out trivial)
                      go_simp
                      exact rfl
                    go_simp))
            refine pl_one (up_do rfl rfl fun K hK1 => ?_)
            go_simp
            refine hK1 (Same w1) _ _ HK5.out (fun _ h => h) ?_
            clear hK1 K
            go_simp
            iterate 4
              (first
                 | (apply pl_pass
                    case ho => rfl
                    case hw => rfl
                    go_simp)
                 | (apply pl_take
                    case ho => rfl
                    case hw => rfl
                    case hv =>
                      intro w' hS
                      (have z2 := Keeps.cell hS HRU.out trivial; have z3 := Keeps.cell hS HRM.out trivial)
                      go_simp
                      exact rfl
                    go_simp))
            refine pl_one (up_do rfl rfl fun K hK1 => ?_)
            go_simp
            refine hK1 (Same w1) _ _ (HK5.out.alloc _) (fun _ h => h) ?_
            clear hK1 K
            go_simp
            refine pl_one (up_append _ _ _ rfl rfl rfl ?hs ?hx hr (Same w1) HG.out.keep (fun _ h => h) ?_)
            case hs => rfl
            case hx => rfl
            clear hr
            go_simp
            iterate 1
              (first
                 | (apply pl_pass
                    case ho => rfl
                    case hw => rfl
                    go_simp)
                 | (apply pl_take
                    case ho => rfl
                    case hw => rfl
                    case hv =>
                      intro w' hS
                      (skip)
                      go_simp
                      exact rfl
                    go_simp))
            refine pl_done ?_
            clear hck5
            go_wp2_with fail
            go_roundw
            case rel => exact ⟨m + 1, l2 ++ [(t : Int)], o4, by go_num, by omega, hl2, by simp; omega, HF.out, HG.out⟩
            case measure => simp [intOf]; omega
        · go_wp2_with fail
          refine wp_region_same (by kernel_rfl) (by kernel_rfl) ?_
          iterate 11
            (apply wpQuiet_step
             intro K hK
             first
               | (apply quiet_skip
                  case hw => rfl
                  go_simp
                  refine hK _ ?_; clear hK K)
               | (apply quiet_do
                  case hw => rfl
                  case h =>
                    intro w' hw'
                    (have z0 := Keeps.cell hw' hbx trivial; have z1 := Keeps.cell hw' hck trivial; have z2 := Keeps.cell hw' hru trivial)
                    go_simp
                    first | exact rfl | (fail)
                  go_simp
                  refine hK _ ?_; clear hK K))
          apply wpQuiet_nil
          intro w3 k3
          obtain rfl : m = row.length := by omega
          have HN := hide (HBF3.out.1.1.next HBF3.out.1.2 (fun y hy => by
            rw [Int.toNat_natCast, HROW.out] at hy
            obtain ⟨j, hj⟩ := List.getElem?_of_mem hy
            exact HBF3.out.2 j y (List.getElem?_eq_some_iff.1 hj).1 hj))
          have HST4 := hide (HST3.out.same k3)
          clear k3 hbx hck hru
          go_wp2_with fail
          go_roundw
          case rel => exact ⟨k + 1, l2, ol2, by go_num, by omega, hln2, HN.out, HST4.out⟩
          case measure => simp [intOf]; omega
    · obtain rfl : k = l.length := by omega
      have HRI := hide (hb.out.rising HOK.out hst.out.rise hst.out.mem)
      have HST2 := hide hst.out
      clear hb hst
      go_wp2_with fail
      exact HR.out _ _ _ rfl (by rw [← HRI.out]; exact HST2.out.out) (HK1.out.tr HST2.out.keep)

end Go.Proofs.Ytohhjdadhdibfaa
