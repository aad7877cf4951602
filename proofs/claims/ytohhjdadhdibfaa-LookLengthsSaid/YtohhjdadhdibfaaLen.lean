/- The walk of look.Lengths. -/
import Derived.Test.YtohhjdadhdibfaaShort
namespace Go.Proofs.Ytohhjdadhdibfaa
open Go.RowKit

attribute [local irreducible] wpQuiet wpPlan wpPlanZ wpUp
attribute [local go_sem] field_next2

variable {R : Ending → World → Prop} {w : World} {A : Au} {B d : Nat}

/-- A word of so many letters leads there. -/
def RchN (A : Au) : Nat → Nat → Prop
  | 0, s => s = 0
  | m + 1, s => ∃ t, RchN A m t ∧ ∃ c, c < 2 ^ A.T.toNat ∧ nx A t c = s

theorem RchN.lt (h : AuOk A) : ∀ {m s : Nat}, RchN A m s → s < A.acc.length
  | 0, _, e => by rw [e]; exact h.1.2.2.1
  | _ + 1, _, ⟨t, _, c, _, e⟩ => by rw [← e]; exact nx_lt h t c

/-- Some word of so many letters is accepted. -/
def LenP (A : Au) (m : Nat) : Prop := ∃ s, RchN A m s ∧ ac A s = true

open Classical in
/-- The lengths below k of words that are accepted. -/
noncomputable def lenL (A : Au) (k : Nat) : List Int := ((List.range k).filter fun m => decide (LenP A m)).map Int.ofNat

theorem lenL_yes {k : Nat} (h : LenP A k) : lenL A (k + 1) = lenL A k ++ [(k : Int)] := by
  unfold lenL
  rw [List.range_succ, List.filter_append, List.map_append]
  simp [h]
theorem lenL_no {k : Nat} (h : ¬ LenP A k) : lenL A (k + 1) = lenL A k := by
  unfold lenL
  rw [List.range_succ, List.filter_append, List.map_append]
  simp [h]
theorem lenL_len (A : Au) (k : Nat) : (lenL A k).length ≤ k := by
  unfold lenL
  rw [List.length_map]
  exact Nat.le_trans (List.length_filter_le ..) (by simp)
theorem lenL_bound {k : Nat} (hk : k ≤ 1000) : ∀ x ∈ lenL A k, InI64 x := fun x hx => by
  obtain ⟨m, hm, rfl⟩ := List.mem_map.1 hx
  have := List.mem_range.1 (List.mem_filter.1 hm).1
  unfold InI64; simp only [Int.ofNat_eq_natCast]; omega

open Classical in
noncomputable def hereB (A : Au) (m : Nat) : List Bool := (List.range A.acc.length).map fun s : Nat => decide (RchN A m s)

theorem hereB_length (A : Au) (m : Nat) : (hereB A m).length = A.acc.length := by simp [hereB]
open Classical in
theorem hereB_get {m s : Nat} (hs : s < A.acc.length) : (hereB A m)[s]? = some (decide (RchN A m s)) := by simp [hereB, hs]
theorem hereB_yes {m s : Nat} (hs : s < A.acc.length) (hr : RchN A m s) : (hereB A m)[s]? = some true := by rw [hereB_get hs]; simp [hr]
theorem hereB_no {m s : Nat} (hs : s < A.acc.length) (hr : ¬ RchN A m s) : (hereB A m)[s]? = some false := by rw [hereB_get hs]; simp [hr]
theorem hereB_of {m : Nat} {l : List Int} (h : ∀ s : Nat, s < A.acc.length → ((s : Int) ∈ l ↔ RchN A m s)) : flagOf A.acc.length l = hereB A m := by
  unfold flagOf hereB
  apply List.map_congr_left
  intro s hs
  have := h s (List.mem_range.1 hs)
  by_cases hh : RchN A m s
  · simp [hh, this.2 hh]
  · simp [hh, mt this.1 hh]

/-- What the first k states go to, of those that are reached. -/
def Mid (A : Au) (m k : Nat) (l : List Int) : Prop := ∀ y, y ∈ l ↔ ∃ s, s < k ∧ RchN A m s ∧ y ∈ rowI A s

theorem Mid.start (A : Au) (m : Nat) : Mid A m 0 [] := fun y => by simp
theorem Mid.skip {m k : Nat} {l : List Int} (h : Mid A m k l) (hn : ¬ RchN A m k) : Mid A m (k + 1) l := fun y => by
  rw [h y]
  constructor
  · rintro ⟨s, h1, h2⟩; exact ⟨s, by omega, h2⟩
  · rintro ⟨s, h1, h2, h3⟩
    refine ⟨s, ?_, h2, h3⟩
    rcases Nat.lt_or_eq_of_le (Nat.le_of_lt_succ h1) with e | e
    · exact e
    · subst e; exact absurd h2 hn
theorem Mid.more {m k : Nat} {l l' : List Int} (h : Mid A m k l) (hr : RchN A m k) (hl : ∀ y, y ∈ l' ↔ y ∈ l ∨ y ∈ rowI A k) : Mid A m (k + 1) l' := fun y => by
  rw [hl, h y]
  constructor
  · rintro (⟨s, h1, h2⟩ | h1)
    · exact ⟨s, by omega, h2⟩
    · exact ⟨k, by omega, hr, h1⟩
  · rintro ⟨s, h1, h2, h3⟩
    rcases Nat.lt_or_eq_of_le (Nat.le_of_lt_succ h1) with e | e
    · exact .inl ⟨s, e, h2, h3⟩
    · subst e; exact .inr h3
theorem Mid.done (h : AuOk A) {m : Nat} {l : List Int} (hm : Mid A m A.acc.length l) (y : Int) : y ∈ l ↔ ∃ s : Nat, y = (s : Int) ∧ RchN A (m + 1) s := by
  rw [hm y]
  constructor
  · rintro ⟨t, h1, h2, h3⟩
    obtain ⟨c, hc, rfl⟩ := (mem_rowI h h1).1 h3
    exact ⟨_, rfl, t, h2, c, hc, rfl⟩
  · rintro ⟨s, rfl, t, h2, c, hc, rfl⟩
    exact ⟨t, h2.lt h, h2, (mem_rowI h (h2.lt h)).2 ⟨c, hc, rfl⟩⟩
theorem Mid.flags (h : AuOk A) {m : Nat} {l : List Int} (hm : Mid A m A.acc.length l) : flagOf A.acc.length l = hereB A (m + 1) :=
  hereB_of fun s _ => by
    rw [hm.done h]
    exact ⟨fun ⟨t, e, ht⟩ => by rw [show s = t by omega]; exact ht, fun ht => ⟨s, rfl, ht⟩⟩

/-- Whether one of the first k states that are reached accepts. -/
def AccP (A : Au) (m k : Nat) (b : Bool) : Prop := b = true ↔ ∃ s, s < k ∧ RchN A m s ∧ ac A s = true
theorem AccP.start (A : Au) (m : Nat) : AccP A m 0 false := by simp [AccP]
theorem AccP.skip {m k : Nat} {b : Bool} (h : AccP A m k b) (hn : ¬ RchN A m k) : AccP A m (k + 1) b := by
  unfold AccP at *
  rw [h]
  constructor
  · rintro ⟨s, h1, h2⟩; exact ⟨s, by omega, h2⟩
  · rintro ⟨s, h1, h2, h3⟩
    rcases Nat.lt_or_eq_of_le (Nat.le_of_lt_succ h1) with e | e
    · exact ⟨s, e, h2, h3⟩
    · subst e; exact absurd h2 hn
theorem AccP.more {m k : Nat} {b : Bool} (h : AccP A m k b) (hr : RchN A m k) : AccP A m (k + 1) (b || ac A k) := by
  unfold AccP at *
  rw [Bool.or_eq_true, h]
  constructor
  · rintro (⟨s, h1, h2⟩ | h1)
    · exact ⟨s, by omega, h2⟩
    · exact ⟨k, by omega, hr, h1⟩
  · rintro ⟨s, h1, h2, h3⟩
    rcases Nat.lt_or_eq_of_le (Nat.le_of_lt_succ h1) with e | e
    · exact .inl ⟨s, e, h2, h3⟩
    · subst e; exact .inr h3
theorem AccP.done (h : AuOk A) {m : Nat} {b : Bool} (hb : AccP A m A.acc.length b) : b = true ↔ LenP A m := by
  unfold AccP at hb
  rw [hb]
  exact ⟨fun ⟨s, _, h2⟩ => ⟨s, h2⟩, fun ⟨s, h2⟩ => ⟨s, h2.1.lt h, h2⟩⟩

/-- The state: the flags in block hb, what is told so far. -/
structure LnSt (W2 : Nat) (w2 wr : World) (hb : Nat) (fl : List Bool) (u : Value) (ol : List Int) : Prop where
  keep : Same w2 wr
  here : FlagIn wr hb fl
  own : OwnInts wr W2 u ol
  low : W2 = w2.heap.size ∧ W2 ≤ hb

theorem LnSt.same {W2 hb : Nat} {w2 wr wr' : World} {fl : List Bool} {u : Value} {ol : List Int} (h : LnSt W2 w2 wr hb fl u ol) (k : Same wr wr') : LnSt W2 w2 wr' hb fl u ol :=
  ⟨h.keep.tr k, k.at h.here trivial, h.own.same k, h.low⟩

/-- The next flags. -/
structure NxSt (W2 hb : Nat) (wr : World) (nb : Nat) (fl : List Bool) : Prop where
  flag : FlagIn wr nb fl
  ne : hb ≠ nb
  low : W2 ≤ nb

theorem NxSt.same {W2 hb nb : Nat} {wr wr' : World} {fl : List Bool} (h : NxSt W2 hb wr nb fl) (k : Same wr wr') : NxSt W2 hb wr' nb fl := ⟨k.at h.flag trivial, h.ne, h.low⟩

theorem LnSt.set {W2 hb nb n s : Nat} {w2 wr : World} {fl : List Bool} {u : Value} {ol l : List Int} (h : LnSt W2 w2 wr hb fl u ol) (hn : NxSt W2 hb wr nb (flagOf n l)) :
    LnSt W2 w2 (wr.setCell ⟨nb, s, none⟩ (.bool true)) hb fl u ol ∧ NxSt W2 hb (wr.setCell ⟨nb, s, none⟩ (.bool true)) nb (flagOf n (l ++ [(s : Int)])) := by
  have ks : Keeps (· ≠ nb) wr (wr.setCell ⟨nb, s, none⟩ (.bool true)) := (Keeps.refl (· ≠ nb) wr).setCell (fun hh => hh.2 rfl) _
  have hf := hn.flag.set s true
  rw [flagOf_set] at hf
  refine ⟨⟨h.keep.setCell (fun hh => by have := hh.1; have := h.low; have := hn.low; simp at *; omega) _, ks.at h.here hn.ne, h.own.keep ks fun g hg => ?_, h.low⟩, hf, hn.ne, hn.low⟩
  rintro rfl
  exact h.own.ne_block hn.flag (by decide) hg

theorem LnSt.push {W2 hb nb : Nat} {w2 wr : World} {fl fn : List Bool} {u : Value} {ol : List Int} (h : LnSt W2 w2 wr hb fl u ol) (hn : NxSt W2 hb wr nb fn) (x : Int) (hl : ol.length ≤ 1000) :
    ∃ g cap w', (Builtin.append_ #[40, 40] 40 #[u, .slice (some ⟨wr.heap.size, 0, none⟩) 1 1]).run Try.prog (wr.alloc (.cells #[.int .i64 x] 3)) = .ok (.slice (some ⟨g, 0, none⟩) (ol.length + 1) cap) w' ∧
      LnSt W2 w2 w' nb fn (.slice (some ⟨g, 0, none⟩) (ol.length + 1) cap) (ol ++ [x]) := by
  obtain ⟨g, cap, w', hr, hown2, hk2, _, _⟩ := append_one (P := Try.prog) wr 40 40 3 Try.underlying40 int_info rfl h.own (by rw [h.low.1]; exact h.keep.size) (.int .i64 x) rfl (by omega) (by decide)
  refine ⟨g, cap, w', hr, h.keep.trans hk2 fun y hy _ => ⟨trivial, fun e => ?_⟩, hk2.at hn.flag (h.own.ne_block hn.flag (by decide)), ?_, h.low.1, hn.low⟩
  · have := (h.own.low e).1
    have := h.low.1; omega
  · unfold OwnInts; simpa using hown2

set_option maxRecDepth 10000 in
set_option maxHeartbeats 4000000 in
theorem lookLengths {most : Nat} (h : DFAAt w B d A) (hm : most ≤ 60) (hR : ∀ e w' v, e = .returned v → IntsAt w' v (lenL A (most + 1)) → Same w w' → R e w') :
    Calls Try.prog 55 #[.pointer (some ⟨d, 0, none⟩), .int .i64 (most : Int)] w R := by
  have HR := hide hR
  clear hR
  have HOK := hide h.ok
  have hn1 : 0 < A.acc.length := h.ok.1.2.2.1
  have hn4 : A.acc.length ≤ 400 := h.ok.1.2.2.2.1
  have HNL := hide h.ok.1.2.2.2.2
  have H := hide h
  generalize hnn : A.acc.length = n at hn1 hn4 HNL
  have HNN := hide hnn
  clear h hnn
  obtain ⟨i0, hi0, hz0, hz1, hz2⟩ := info_parts bool_info
  have HMK : Hid (∀ wq : World, (Instr.makeSlice 22 (.int .i64 (n : Int)) (.int .i64 (n : Int))).run Try.prog wq = .ok (.slice (some ⟨wq.heap.size, 0, none⟩) n n) (wq.alloc (.cells ((List.replicate n false).map Value.bool).toArray 4))) := hide fun wq => by
    have hmk := run_make (P := Try.prog) wq 22 4 i0 _ Try.underlying22 hi0 hz0 .i64 .i64 n n (by omega) (by omega) (by rw [hz2]; omega) (by omega)
    rw [hz1, Int.toNat_natCast, make_bools] at hmk
    exact hmk
  clear hi0 hz0 hz1 hz2
  go_enter Try.func55, Try.ntmps55
  go_wp2_with fail
  refine dfaTo H.out ?_; rintro e w2 v2 rfl o2 k2
  obtain ⟨va, vn, rfl, _, om⟩ := o2
  obtain ⟨na, nc, rfl⟩ := om.shape
  have HRW := hide (om.rows HOK.out.bounds.2)
  obtain ⟨W2, hW2⟩ : ∃ W2, W2 = w2.heap.size := ⟨_, rfl⟩
  have HW2 := hide hW2
  have HK2 := hide k2
  clear om k2 hW2
  go_wp2_with fail
  refine dfaStates (H.out.same HK2.out) ?_; rintro e rfl
  rw [HNN.out]
  have hmk := HMK.out w2
  have hrow : FlagIn (w2.alloc (.cells ((List.replicate n false).map Value.bool).toArray 4)) w2.heap.size (List.replicate n false) := heap_new _ _
  have hka : Same w2 (w2.alloc (.cells ((List.replicate n false).map Value.bool).toArray 4)) := (Keeps.refl _ w2).alloc _
  generalize w2.alloc (.cells ((List.replicate n false).map Value.bool).toArray 4) = w3 at hmk hrow hka
  rw [← HW2.out] at hmk hrow
  have z1 := hrow.get (k := 0) (x := false) (by simp [List.getElem?_replicate]; omega)
  have z2 := free_at hrow 0
  have hrow2 := hrow.set 0 true
  rw [← flagOf_nil, flagOf_set (s := 0), ← HNN.out, hereB_of (m := 0) (fun s _ => by simp [RchN])] at hrow2
  have HST : Hid (LnSt W2 w2 (w3.setCell ⟨W2, 0, none⟩ (.bool true)) W2 (hereB A 0) (.slice none 0 0) (lenL A 0)) :=
    hide ⟨hka.setCell (fun hh => by have := hh.1; have := HW2.out; simp at *; omega) _, hrow2, World.ownsRow_nil _ _ _ _, HW2.out, Nat.le_refl _⟩
  clear hrow hrow2 hka
  go_wp2_with fail
  generalize w3.setCell ⟨W2, 0, none⟩ (.bool true) = w4 at HST ⊢
  clear z1 z2 hmk
  go_loopw [6, 7, 8] (fun hv u i wr => ∃ (m hb : Nat), i = .int .i64 m ∧ m ≤ most + 1 ∧ hv = .slice (some ⟨hb, 0, none⟩) n n ∧ Hid (LnSt W2 w2 wr hb (hereB A m) u (lenL A m))) (fun _ _ i _ => most + 1 - (intOf i).toNat)
  case atStart => exact ⟨0, W2, rfl, Nat.zero_le _, rfl, HST.out⟩
  case round =>
    obtain ⟨m, hb, rfl, hm1, rfl, hst⟩ := hrel
    obtain ⟨ua, uc, rfl⟩ := hst.out.own.shape
    have HLB := hide (lenL_bound (A := A) (k := m) (by omega))
    have HLL := hide (lenL_len A m)
    have HYES := hide (lenL_yes (A := A) (k := m))
    have HNO := hide (lenL_no (A := A) (k := m))
    by_cases hmm : m ≤ most
    · generalize lenL A m = ol at hst HLB HLL HYES HNO
      have HST2 := hide hst.out
      clear hst
      go_wp2_with fail
      refine dfaStates (H.out.same (HK2.out.tr HST2.out.keep)) ?_; rintro e rfl
      rw [HNN.out]
      obtain ⟨wo, hwo⟩ : ∃ wo, wo = wr := ⟨_, rfl⟩
      have hmk := HMK.out wr
      have hrow : FlagIn (wr.alloc (.cells ((List.replicate n false).map Value.bool).toArray 4)) wr.heap.size (List.replicate n false) := heap_new _ _
      have hka : Same wr (wr.alloc (.cells ((List.replicate n false).map Value.bool).toArray 4)) := (Keeps.refl _ wr).alloc _
      have hne : hb ≠ wr.heap.size := by have := heap_lt HST2.out.here; omega
      have hle : W2 ≤ wr.heap.size := by have := HST2.out.keep.size; have := HW2.out; omega
      generalize wr.alloc (.cells ((List.replicate n false).map Value.bool).toArray 4) = w5 at hmk hrow hka
      generalize wr.heap.size = nb at hmk hrow hne hle
      have HST3 := hide (HST2.out.same hka)
      have HNX : Hid (NxSt W2 hb w5 nb (flagOf n [])) := hide ⟨by rw [flagOf_nil]; exact hrow, hne, hle⟩
      clear hrow hka hne hle hwo
      go_wp2_with fail
      clear hmk
      go_loopw [10, 11, 12, 35] (fun b _ _ i wr => ∃ (k : Nat) (bv : Bool) (l : List Int), i = .int .i64 k ∧ k ≤ n ∧ b = .bool bv ∧ Hid (AccP A m k bv) ∧ Hid (Mid A m k l) ∧ Hid (LnSt W2 w2 wr hb (hereB A m) (.slice ua ol.length uc) ol) ∧ Hid (NxSt W2 hb wr nb (flagOf n l))) (fun _ _ _ i _ => n - (intOf i).toNat)
      case atStart => exact ⟨0, false, [], rfl, Nat.zero_le _, rfl, AccP.start A m, Mid.start A m, HST3.out, HNX.out⟩
      case round =>
        obtain ⟨k, bv, l, rfl, hk, rfl, hacc, hmid, hst, hnx⟩ := hrel
        by_cases hlt : k < n
        ·
          by_cases hr : RchN A m k
          · have hg := hst.out.here.get (hereB_yes (by rw [HNN.out]; exact hlt) hr)
            have hkl : k < A.next.length := by rw [HNL.out]; exact hlt
            obtain ⟨_, _, e1, _, hv2, hcl⟩ := HRW.out.open
            simp only [Value.slice.injEq, true_and] at e1
            obtain ⟨rfl, rfl⟩ := e1
            unfold maxLen at hv2
            obtain ⟨vb, voff, rfl, _, hrc⟩ := hcl k hkl
            obtain ⟨ru, hru, hri⟩ := hrc k hkl
            have hrow : rowI A k = A.next[k] := by unfold rowI; rw [List.getD_eq_getElem?_getD, List.getElem?_eq_getElem hkl]; rfl
            have hro := HOK.out.2 _ (List.getElem_mem hkl)
            rw [HNN.out] at hro
            generalize A.next[k] = row at hri hrow hro
            have hrl : row.length ≤ 64 := by rw [hro.1]; exact two_le (by have := HOK.out.1.1; have := HOK.out.1.2.1; omega)
            obtain ⟨ra, rc, rfl, _, hr2, hrcl⟩ := hri.open
            unfold maxLen at hr2
            have HRC := hide hrcl
            have HRO := hide hro.2
            have HRUN := hide hr
            have HROW := hide hrow
            have hru2 := Keeps.cell hst.out.keep hru trivial
            have HMID := hide hmid.out
            have HS := hide hst.out
            have HX := hide hnx.out
            have HA0 := hide (hacc.out.more hr)
            have HACN : Hid (accA A (k : Int) = ac A k) := hide (accA_ac (by rw [HNN.out]; exact hlt))
            clear hst hnx hmid hacc hcl hrc hru hri hrow hro hrcl hr
            cases bv
            · have HA2 : Hid (AccP A m (k + 1) (ac A k)) := hide (by simpa using HA0.out)
              go_wp2_with fail
              refine dfaAccepts (H.out.same (HK2.out.tr HS.out.keep)) _ ?_; rintro e rfl
              rw [HACN.out]
              generalize ac A k = b2 at HA2 ⊢
              go_wp2_with fail
              clear hru2 hg
              go_loopw [14, 53] (fun _ i wr => ∃ (j : Nat) (l' : List Int), i = .int .i64 j ∧ j ≤ row.length ∧ Hid (∀ y, y ∈ l' ↔ y ∈ l ∨ ∃ i, i < j ∧ row[i]? = some y) ∧ Hid (LnSt W2 w2 wr hb (hereB A m) (.slice ua ol.length uc) ol) ∧ Hid (NxSt W2 hb wr nb (flagOf n l'))) (fun _ i _ => row.length - (intOf i).toNat)
              case atStart => exact ⟨0, l, rfl, Nat.zero_le _, hide (fun y => by simp), HS.out, HX.out⟩
              case round =>
                obtain ⟨j, l', rfl, hj, hmem, hst, hnx⟩ := hrel
                by_cases hjr : j < row.length
                · obtain ⟨rb, roff, rfl, _, hrm⟩ := HRC.out j hjr
                  obtain ⟨y, hy⟩ : ∃ y, y = row[j] := ⟨_, rfl⟩
                  have hjy : row[j]? = some y := by rw [hy]; exact List.getElem?_eq_getElem hjr
                  have hyb := HRO.out y (List.mem_of_getElem? hjy)
                  obtain ⟨t, rfl⟩ := Int.eq_ofNat_of_zero_le hyb.1
                  have htn : t < n := by omega
                  have hrk := Keeps.cell hst.out.keep (hrm j hjr) trivial
                  rw [← hy] at hrk
                  have z1 := hnx.out.flag.get (flagOf_get (l := l') htn)
                  have z2 := free_at hnx.out.flag t
                  generalize decide ((t : Int) ∈ l') = y0 at z1
                  have HSET := hide (hst.out.set (s := t) hnx.out)
                  have HMM : Hid (∀ y, y ∈ l' ++ [(t : Int)] ↔ y ∈ l ∨ ∃ i, i < j + 1 ∧ row[i]? = some y) := hide (fun y => by
                    rw [List.mem_append, hmem.out y, List.mem_singleton]
                    constructor
                    · rintro ((h | ⟨i, h1, h2⟩) | h)
                      · exact .inl h
                      · exact .inr ⟨i, by omega, h2⟩
                      · exact .inr ⟨j, by omega, by rw [h]; exact hjy⟩
                    · rintro (h | ⟨i, h1, h2⟩)
                      · exact .inl (.inl h)
                      · rcases Nat.lt_or_eq_of_le (Nat.le_of_lt_succ h1) with e | e
                        · exact .inl (.inr ⟨i, e, h2⟩)
                        · subst e; rw [hjy] at h2; exact .inr (Option.some.inj h2).symm)
                  clear hy hjy hyb hrm hst hnx hmem
                  go_wp2_with fail
                  go_roundw
                  case rel => exact ⟨j + 1, l' ++ [(t : Int)], by go_num, by omega, HMM.out, HSET.out.1, HSET.out.2⟩
                  case measure => simp [intOf]; omega
                · obtain rfl : j = row.length := by omega
                  have HM2 := hide (HMID.out.more HRUN.out (l' := l') fun y => by
                    rw [hmem.out y, HROW.out]
                    constructor
                    · rintro (h | ⟨i, _, h2⟩)
                      · exact .inl h
                      · exact .inr (List.mem_of_getElem? h2)
                    · rintro (h | h)
                      · exact .inl h
                      · obtain ⟨i, hi⟩ := List.getElem?_of_mem h
                        exact .inr ⟨i, (List.getElem?_eq_some_iff.1 hi).1, hi⟩)
                  have HS3 := hide hst.out
                  have HX3 := hide hnx.out
                  clear hst hnx hmem
                  go_wp2_with fail
                  go_roundw
                  case rel => exact ⟨k + 1, _, l', by go_num, by omega, rfl, HA2.out, HM2.out, HS3.out, HX3.out⟩
                  case measure => simp [intOf]; omega
            · have HA2 : Hid (AccP A m (k + 1) true) := hide (by simpa using HA0.out)
              go_wp2_with fail
              clear hru2 hg
              go_loopw [14, 53] (fun _ i wr => ∃ (j : Nat) (l' : List Int), i = .int .i64 j ∧ j ≤ row.length ∧ Hid (∀ y, y ∈ l' ↔ y ∈ l ∨ ∃ i, i < j ∧ row[i]? = some y) ∧ Hid (LnSt W2 w2 wr hb (hereB A m) (.slice ua ol.length uc) ol) ∧ Hid (NxSt W2 hb wr nb (flagOf n l'))) (fun _ i _ => row.length - (intOf i).toNat)
              case atStart => exact ⟨0, l, rfl, Nat.zero_le _, hide (fun y => by simp), HS.out, HX.out⟩
              case round =>
                obtain ⟨j, l', rfl, hj, hmem, hst, hnx⟩ := hrel
                by_cases hjr : j < row.length
                · obtain ⟨rb, roff, rfl, _, hrm⟩ := HRC.out j hjr
                  obtain ⟨y, hy⟩ : ∃ y, y = row[j] := ⟨_, rfl⟩
                  have hjy : row[j]? = some y := by rw [hy]; exact List.getElem?_eq_getElem hjr
                  have hyb := HRO.out y (List.mem_of_getElem? hjy)
                  obtain ⟨t, rfl⟩ := Int.eq_ofNat_of_zero_le hyb.1
                  have htn : t < n := by omega
                  have hrk := Keeps.cell hst.out.keep (hrm j hjr) trivial
                  rw [← hy] at hrk
                  have z1 := hnx.out.flag.get (flagOf_get (l := l') htn)
                  have z2 := free_at hnx.out.flag t
                  generalize decide ((t : Int) ∈ l') = y0 at z1
                  have HSET := hide (hst.out.set (s := t) hnx.out)
                  have HMM : Hid (∀ y, y ∈ l' ++ [(t : Int)] ↔ y ∈ l ∨ ∃ i, i < j + 1 ∧ row[i]? = some y) := hide (fun y => by
                    rw [List.mem_append, hmem.out y, List.mem_singleton]
                    constructor
                    · rintro ((h | ⟨i, h1, h2⟩) | h)
                      · exact .inl h
                      · exact .inr ⟨i, by omega, h2⟩
                      · exact .inr ⟨j, by omega, by rw [h]; exact hjy⟩
                    · rintro (h | ⟨i, h1, h2⟩)
                      · exact .inl (.inl h)
                      · rcases Nat.lt_or_eq_of_le (Nat.le_of_lt_succ h1) with e | e
                        · exact .inl (.inr ⟨i, e, h2⟩)
                        · subst e; rw [hjy] at h2; exact .inr (Option.some.inj h2).symm)
                  clear hy hjy hyb hrm hst hnx hmem
                  go_wp2_with fail
                  go_roundw
                  case rel => exact ⟨j + 1, l' ++ [(t : Int)], by go_num, by omega, HMM.out, HSET.out.1, HSET.out.2⟩
                  case measure => simp [intOf]; omega
                · obtain rfl : j = row.length := by omega
                  have HM2 := hide (HMID.out.more HRUN.out (l' := l') fun y => by
                    rw [hmem.out y, HROW.out]
                    constructor
                    · rintro (h | ⟨i, _, h2⟩)
                      · exact .inl h
                      · exact .inr (List.mem_of_getElem? h2)
                    · rintro (h | h)
                      · exact .inl h
                      · obtain ⟨i, hi⟩ := List.getElem?_of_mem h
                        exact .inr ⟨i, (List.getElem?_eq_some_iff.1 hi).1, hi⟩)
                  have HS3 := hide hst.out
                  have HX3 := hide hnx.out
                  clear hst hnx hmem
                  go_wp2_with fail
                  go_roundw
                  case rel => exact ⟨k + 1, _, l', by go_num, by omega, rfl, HA2.out, HM2.out, HS3.out, HX3.out⟩
                  case measure => simp [intOf]; omega
          · have hg := hst.out.here.get (hereB_no (by rw [HNN.out]; exact hlt) hr)
            have HA2 := hide (hacc.out.skip hr)
            have HM2 := hide (hmid.out.skip hr)
            clear hr
            go_wp2_with fail
            go_roundw
            case rel => exact ⟨k + 1, bv, l, by go_num, by omega, rfl, HA2.out, HM2.out, hst.out, hnx.out⟩
            case measure => simp [intOf]; omega
        · obtain rfl : n = k := by omega
          have HFL : Hid (flagOf n l = hereB A (m + 1)) := hide (by
            have := hmid.out
            rw [← HNN.out] at this
            have := this.flags HOK.out
            rwa [HNN.out] at this)
          have HAD : Hid (bv = true ↔ LenP A m) := hide (by
            have := hacc.out
            rw [← HNN.out] at this
            exact this.done HOK.out)
          cases bv with
          | true =>
            obtain ⟨g, cap, w6, hr, hst6⟩ := hst.out.push hnx.out (m : Int) (by have := HLL.out; omega)
            rw [HFL.out, ← HYES.out (HAD.out.1 rfl)] at hst6
            have HF := hide hst6
            clear hst hnx hacc hmid hst6
            go_wp2_with (at_builtin; refine wpList_append_run rfl _ _ _ rfl rfl rfl hr ?_; clear hr)
            go_roundw
            case rel => exact ⟨m + 1, nb, by go_num, by omega, rfl, HF.out⟩
            case measure => simp [intOf]; omega
          | false =>
            have HF : Hid (LnSt W2 w2 wr nb (hereB A (m + 1)) (.slice ua ol.length uc) (lenL A (m + 1))) := hide ⟨hst.out.keep, by rw [← HFL.out]; exact hnx.out.flag, by rw [HNO.out (fun h => by have := HAD.out.2 h; cases this)]; exact hst.out.own, hst.out.low.1, hnx.out.low⟩
            clear hst hnx hacc hmid
            go_wp2_with fail
            go_roundw
            case rel => exact ⟨m + 1, nb, by go_num, by omega, rfl, HF.out⟩
            case measure => simp [intOf]; omega
    · obtain rfl : m = most + 1 := by omega
      have HF := hide (hst.out.own.ints HLB.out)
      have HKF := hide (HK2.out.tr hst.out.keep)
      clear hst
      go_wp2_with fail
      exact HR.out _ _ _ rfl HF.out HKF.out

end Go.Proofs.Ytohhjdadhdibfaa
