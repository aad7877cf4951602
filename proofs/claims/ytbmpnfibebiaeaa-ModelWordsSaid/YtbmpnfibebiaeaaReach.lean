/- The walk of look.Reach. -/
import Derived.Test.YtbmpnfibebiaeaaIdx2
import Derived.Test.YtbmpnfibebiaeaaSortI
import Derived.Test.YtbmpnfibebiaeaaPkB
import Derived.Test.YtbmpnfibebiaeaaLookLaw
namespace Go.Proofs.Ytbmpnfibebiaeaa
open Go.RowKit

attribute [local irreducible] wpQuiet wpPlan wpPlanZ wpUp

variable {R : Ending → World → Prop} {w : World} {A : Au} {B d : Nat}

theorem field_next2 (a b c : Value) (w : World) : (Instr.field 25 (.agg #[a, b, c]) 2).run Try.prog w = .ok c w := by kernel_rfl
attribute [local go_sem] field_next2

theorem make_bools {n : Nat} : madeCells (Value.cells (.bool false)) (n * 1) = ((List.replicate n false).map Value.bool).toArray := by
  apply Array.ext
  · simp [size_madeCells]
  · intro i h1 h2
    simp [madeCells, Value.cells, Nat.mod_one]

/-- The block b holds the flags. -/
def FlagIn (w : World) (b : Nat) (l : List Bool) : Prop := w.heap[b]? = some (.cells (l.map Value.bool).toArray 4 (0, 0))

theorem FlagIn.set {b : Nat} {l : List Bool} (h : FlagIn w b l) (k : Nat) (y : Bool) : FlagIn (w.setCell ⟨b, k, none⟩ (.bool y)) b (l.set k y) := by
  unfold FlagIn at *
  rw [heap_setCell_at h]
  simp [List.map_set]

theorem FlagIn.get {b k : Nat} {l : List Bool} {x : Bool} (h : FlagIn w b l) (hk : l[k]? = some x) : w.cell? ⟨b, k, none⟩ = some (.bool x) := by
  rw [cell_at h]
  simp [hk]

/-- Which numbers are among these. -/
def flagOf (n : Nat) (l : List Int) : List Bool := (List.range n).map fun s : Nat => decide ((s : Int) ∈ l)

theorem flagOf_length (n : Nat) (l : List Int) : (flagOf n l).length = n := by simp [flagOf]
theorem flagOf_nil (n : Nat) : flagOf n [] = List.replicate n false := by
  apply List.ext_getElem
  · simp [flagOf]
  · intro i h1 h2; simp [flagOf]
theorem flagOf_get {n s : Nat} {l : List Int} (hs : s < n) : (flagOf n l)[s]? = some (decide ((s : Int) ∈ l)) := by
  simp [flagOf, hs]
theorem flagOf_set {n s : Nat} {l : List Int} : (flagOf n l).set s true = flagOf n (l ++ [(s : Int)]) := by
  apply List.ext_getElem
  · simp [flagOf]
  · intro i h1 h2
    rw [List.getElem_set]
    simp only [flagOf, List.getElem_map, List.getElem_range]
    by_cases e : s = i
    · subst e; simp
    · rw [if_neg e]
      have : ((i : Int) ∈ l ++ [(s : Int)]) ↔ (i : Int) ∈ l := by simp; omega
      simp [this]

/-- The state of the search: flags in block b, the list u; what else was there from W2 on, or before W0, stands. -/
structure RSt (W0 W2 : Nat) (w3 wr : World) (n b : Nat) (u : Value) (l : List Int) : Prop where
  flag : FlagIn wr b (flagOf n l)
  own : OwnInts wr W0 u l
  keep : Keeps (fun x => x < W0 ∨ W2 ≤ x) w3 wr
  live : ∀ g, u.ownBlock = some g → g < W2 ∨ w3.heap.size ≤ g
  low : W0 ≤ b ∧ b < W2 ∧ W2 ≤ w3.heap.size

theorem RSt.push {W0 W2 n b : Nat} {w3 wr : World} {u : Value} {l : List Int} (h : RSt W0 W2 w3 wr n b u l) (s : Nat) (hl : l.length ≤ 1000000) :
    ∃ g cap w', (Builtin.append_ #[37, 37] 37 #[u, .slice (some ⟨wr.heap.size, 0, none⟩) 1 1]).run Try.prog ((wr.setCell ⟨b, s, none⟩ (.bool true)).alloc (.cells #[.int .i64 (s : Int)] 3)) = .ok (.slice (some ⟨g, 0, none⟩) (l.length + 1) cap) w' ∧
      RSt W0 W2 w3 w' n b (.slice (some ⟨g, 0, none⟩) (l.length + 1) cap) (l ++ [(s : Int)]) := by
  have ks : Keeps (· ≠ b) wr (wr.setCell ⟨b, s, none⟩ (.bool true)) := (Keeps.refl (· ≠ b) wr).setCell (fun hh => hh.2 rfl) _
  have hub : u.ownBlock ≠ some b := h.own.ne_block h.flag (by decide)
  have hown : OwnInts (wr.setCell ⟨b, s, none⟩ (.bool true)) W0 u l := h.own.keep ks fun g hg => by rintro rfl; exact hub hg
  have hfl := h.flag.set s true
  rw [flagOf_set] at hfl
  have hk1 : Keeps (fun x => x < W0 ∨ W2 ≤ x) w3 (wr.setCell ⟨b, s, none⟩ (.bool true)) := h.keep.setCell (fun hh => by have := h.low; have := hh.2; simp at this; omega) _
  have hsz : (wr.setCell ⟨b, s, none⟩ (.bool true)).heap.size = wr.heap.size := by simp [World.setCell]
  generalize wr.setCell ⟨b, s, none⟩ (.bool true) = w1 at hown hfl hk1 hsz ⊢
  have hbase : W0 ≤ w1.heap.size := by have := h.low; have := hk1.size; omega
  obtain ⟨g, cap, w', hr, hown2, hk2, hg, _⟩ := append_one (P := Try.prog) w1 37 37 3 Try.underlying37 int_info rfl hown hbase (.int .i64 (s : Int)) rfl (by omega) (by decide)
  rw [hsz] at hr
  refine ⟨g, cap, w', hr, hk2.at hfl hub, ?_, ?_, fun g' hg' => ?_, h.low⟩
  · unfold OwnInts; simpa using hown2
  · refine hk1.trans hk2 fun x hx hS => ⟨hS, fun e => ?_⟩
    have h1 := h.live x e
    have h2 := (hown.low e).1
    omega
  · simp [Value.ownBlock] at hg'
    subst hg'
    rcases hg with hg | hg
    · exact h.live _ hg
    · right; have := hk1.size; omega

set_option maxHeartbeats 2000000 in
theorem lookReach (h : DFAAt w B d A) (hR : ∀ e w' v, e = .returned v → IntsAt w' v (rchL A) → Same w w' → R e w') :
    Calls Try.prog 46 #[.pointer (some ⟨d, 0, none⟩)] w R := by
  have HR := hide hR
  clear hR
  have HOK := hide h.ok
  have hn1 : 0 < A.acc.length := h.ok.1.2.2.1
  have hn4 : A.acc.length ≤ 400 := h.ok.1.2.2.2.1
  have HNL := hide h.ok.1.2.2.2.2
  have H := hide h
  obtain ⟨W0, hW0⟩ : ∃ W0, W0 = w.heap.size := ⟨_, rfl⟩
  have HW0 := hide hW0
  generalize hnn : A.acc.length = n at hn1 hn4 HNL
  have HNN := hide hnn
  obtain ⟨i0, hi0, hz0, hz1, hz2⟩ := info_parts bool_info
  have hmk := run_make (P := Try.prog) w 22 4 i0 _ Try.underlying22 hi0 hz0 .i64 .i64 n n (by omega) (by omega) (by rw [hz2]; omega) (by omega)
  rw [hz1, Int.toNat_natCast, make_bools] at hmk
  have hrow : FlagIn (w.alloc (.cells ((List.replicate n false).map Value.bool).toArray 4)) w.heap.size (List.replicate n false) := heap_new _ _
  have hka : Same w (w.alloc (.cells ((List.replicate n false).map Value.bool).toArray 4)) := (Keeps.refl _ w).alloc _
  have hsz1 : (w.alloc (.cells ((List.replicate n false).map Value.bool).toArray 4)).heap.size = w.heap.size + 1 := by simp
  generalize w.alloc (.cells ((List.replicate n false).map Value.bool).toArray 4) = w1 at hmk hrow hka hsz1
  obtain ⟨b, hb⟩ : ∃ b, b = w.heap.size := ⟨_, rfl⟩
  rw [← hb] at hmk hrow
  have hbW : b = W0 := hb.trans hW0.symm
  have HSZ1 := hide (hsz1.trans (by rw [← hb]))
  clear hi0 hz0 hz1 hz2 h hW0 hb hsz1
  have z1 := hrow.get (k := 0) (x := false) (by simp [List.getElem?_replicate]; omega)
  have z2 := free_at hrow 0
  have hrow2 := hrow.set 0 true
  have HROW := hide (by rw [← flagOf_nil, flagOf_set (s := 0)] at hrow2; exact hrow2)
  have HKA := hide hka
  have HBW := hide hbW
  clear hrow hrow2 hka hbW hnn
  go_enter Try.func46, Try.ntmps46
  go_wp2_with fail
  refine dfaStates H.out ?_; rintro e rfl
  rw [HNN.out]
  go_wp2_with fail
  have hk4 : Same w ((w1.setCell ⟨b, 0, none⟩ (.bool true)).alloc (.cells #[.int .i64 0] 3)) := (HKA.out.setCell (fun hh => by have h1 := hh.1; have h2 := HBW.out; have h3 := HW0.out; simp at h1; omega) _).alloc _
  have hs1 : (w1.setCell ⟨b, 0, none⟩ (.bool true)).heap.size = w1.heap.size := by simp [World.setCell]
  have hown : OwnInts ((w1.setCell ⟨b, 0, none⟩ (.bool true)).alloc (.cells #[.int .i64 0] 3)) W0 (.slice (some ⟨w1.heap.size, 0, none⟩) 1 1) [0] := by
    refine RowIn.own (l := [0]) ?_ ?_ rfl (by decide)
    · have := heap_new (w1.setCell ⟨b, 0, none⟩ (.bool true)) (.cells #[.int .i64 0] 3)
      rw [hs1] at this
      exact this
    · have := HSZ1.out; have := HBW.out; omega
  have hfl : FlagIn ((w1.setCell ⟨b, 0, none⟩ (.bool true)).alloc (.cells #[.int .i64 0] 3)) b (flagOf n [0]) := heap_old HROW.out _
  have hs4 : ((w1.setCell ⟨b, 0, none⟩ (.bool true)).alloc (.cells #[.int .i64 0] 3)).heap.size = w1.heap.size + 1 := by simp [hs1]
  have HW1 := hide (show w1.heap.size = W0 + 1 by have := HSZ1.out; have := HBW.out; omega)
  generalize (w1.setCell ⟨b, 0, none⟩ (.bool true)).alloc (.cells #[.int .i64 0] 3) = w4 at hk4 hown hfl hs4 ⊢
  generalize w1.heap.size = g0 at hown hs4 HW1 ⊢
  have HK4 := hide hk4
  have HOWN := hide hown
  have HFL := hide hfl
  have HS4 := hide hs4
  clear hk4 hown hfl hs4 hs1
  refine dfaTo (H.out.same HK4.out) ?_; rintro e w3 v3 rfl o3 k3
  obtain ⟨va, vn, rfl, _, om⟩ := o3
  obtain ⟨ng, nc, rfl⟩ : ∃ ng nc, vn = .slice (some ⟨ng, 0, none⟩) A.next.length nc := by
    obtain ⟨vs, h1, _⟩ := om
    exact own_shape_pos h1 (by rw [HNL.out]; exact hn1)
  rw [HNL.out] at om ⊢
  obtain ⟨W2, hW2⟩ : ∃ W2, W2 = w4.heap.size := ⟨_, rfl⟩
  have HW2 := hide hW2
  rw [← hW2] at om
  have HOM := hide om
  have hst : RSt W0 W2 w3 w3 n b (.slice (some ⟨g0, 0, none⟩) 1 1) [0] :=
    ⟨k3.at HFL.out trivial, HOWN.out.same k3, Keeps.refl _ _, fun g hg => by
      simp [Value.ownBlock] at hg; subst hg
      left; have := HS4.out; omega, by have := HBW.out; have := HS4.out; have := HW1.out; have := k3.size; omega⟩
  have HST := hide hst
  have HK3 := hide (HK4.out.tr k3)
  clear om hst k3 hW2
  go_wp2_with fail
  go_loopw [4, 6] (fun u i wr => ∃ (k : Nat) (l : List Int), i = .int .i64 k ∧ k ≤ l.length ∧ l.length ≤ n ∧ Hid (BfsI A k l) ∧ Hid (RSt W0 W2 w3 wr n b u l)) (fun _ i _ => n - (intOf i).toNat)
  case atStart => exact ⟨0, [0], rfl, Nat.zero_le _, hn1, hide (BfsI.start A), HST.out⟩
  case round =>
    obtain ⟨k, l, rfl, hk, hln, hb, hst⟩ := hrel
    obtain ⟨ua, uc, rfl⟩ := hst.out.own.shape
    by_cases hlt : k < l.length
    · obtain ⟨x, hx⟩ : ∃ x, x = l[k] := ⟨_, rfl⟩
      have hxk : l[k]? = some x := by rw [hx]; exact List.getElem?_eq_getElem hlt
      obtain ⟨s, rfl, hrs⟩ := hb.out.rch x (by rw [hx]; exact List.getElem_mem hlt)
      have hsn : s < n := by rw [← HNN.out]; exact hrs.lt HOK.out
      have hlb : ∀ y ∈ l, InI64 y := fun y hy => by
        obtain ⟨t, rfl, ht⟩ := hb.out.rch y hy
        have := ht.lt HOK.out; rw [HNN.out] at this
        unfold InI64; omega
      obtain ⟨_, _, e1, _, hc2, hcell⟩ := (hst.out.own.ints hlb).open
      simp only [Value.slice.injEq] at e1
      obtain ⟨rfl, _, rfl⟩ := e1
      obtain ⟨lb, loff, rfl, _, hcl⟩ := hcell k hlt
      have hck := hcl k hlt
      rw [← hx] at hck
      have hsl : s < A.next.length := by rw [HNL.out]; exact hsn
      obtain ⟨rs, rc, q1, _, ho⟩ := HOM.out.elem (k := s) (List.getElem?_eq_getElem hsl)
      have hrow : rowI A s = A.next[s] := by unfold rowI; rw [List.getD_eq_getElem?_getD, List.getElem?_eq_getElem hsl]; rfl
      have hlen := (HOK.out.2 _ (List.getElem_mem hsl)).1
      have hrb := HOK.out.bounds.2 _ (List.getElem_mem hsl)
      have hro := HOK.out.2 _ (List.getElem_mem hsl)
      rw [HNN.out] at hro
      generalize A.next[s] = row at q1 ho hrow hrb hro
      have HROW := hide hrow
      have HRO := hide hro.2
      have HRB := hide hrb
      have hngW : W2 ≤ ng := (ownsRow_block HOM.out.choose_spec.1 (g := ng) (by simp [Value.ownBlock])).1
      have q2 := Keeps.cell hst.out.keep q1 (.inr hngW)
      have HO := hide ho
      have hrl : row.length ≤ 64 := by rw [hro.1]; exact two_le (by have := HOK.out.1.1; have := HOK.out.1.2.1; omega)
      have HBF := hide (And.intro hb.out hxk)
      have HST2 := hide hst.out
      clear hb hst hx hxk hrs hlb hcell hcl q1 hrow hrb hro ho hlen hngW
      unfold maxLen at hc2
      go_wp2_with fail
      clear hck q2
      go_loopw [4, 8, 34] (fun u _ i wr => ∃ (m : Nat) (l : List Int), i = .int .i64 m ∧ m ≤ row.length ∧ l.length ≤ n ∧ k < l.length ∧ Hid ((BfsI A k l ∧ l[k]? = some (s : Int)) ∧ ∀ j y, j < m → row[j]? = some y → y ∈ l) ∧ Hid (RSt W0 W2 w3 wr n b u l)) (fun _ _ i _ => row.length - (intOf i).toNat)
      case atStart => exact ⟨0, l, rfl, Nat.zero_le _, hln, hlt, hide ⟨HBF.out, fun j y hj _ => absurd hj (Nat.not_lt_zero _)⟩, HST2.out⟩
      case round =>
        obtain ⟨m, l2, rfl, hm, hln2, hkl, hbf, hst⟩ := hrel
        obtain ⟨ua, uc, rfl⟩ := hst.out.own.shape
        by_cases hmr : m < row.length
        · obtain ⟨y, hy⟩ : ∃ y, y = row[m] := ⟨_, rfl⟩
          have hmy : row[m]? = some y := by rw [hy]; exact List.getElem?_eq_getElem hmr
          have hyb := HRO.out y (List.mem_of_getElem? hmy)
          obtain ⟨t, rfl⟩ := Int.eq_ofNat_of_zero_le hyb.1
          have htn : t < n := by omega
          obtain ⟨_, _, e1, _, hd2, hdell⟩ := ((HO.out.keep hst.out.keep fun b hb => .inr (HO.out.low hb).1).ints HRB.out).open
          simp only [Value.slice.injEq] at e1
          obtain ⟨rfl, _, rfl⟩ := e1
          obtain ⟨rb, roff, rfl, _, hrc⟩ := hdell m hmr
          have hrk := hrc m hmr
          rw [← hy] at hrk
          have hfg := hst.out.flag.get (flagOf_get (l := l2) htn)
          have hfz := free_at hst.out.flag t
          have HMY := hide hmy
          have HAD : Hid (∀ l3 : List Int, (∀ y ∈ l2, y ∈ l3) → (t : Int) ∈ l3 → ∀ j y, j < m + 1 → row[j]? = some y → y ∈ l3) := hide (fun l3 hsub ht j y hj hyj => by
            by_cases e : j = m
            · subst e; rw [HMY.out] at hyj; obtain rfl := Option.some.inj hyj; exact ht
            · exact hsub y (hbf.out.2 j y (by omega) hyj))
          have HTM : Hid ((t : Int) ∈ rowI A (s : Int).toNat) := hide (by rw [Int.toNat_natCast, HROW.out]; exact List.mem_of_getElem? hmy)
          have HBF2 := hide hbf.out.1
          have HST3 := hide hst.out
          clear hbf hst hy hmy hyb hdell hrc
          unfold maxLen at hd2
          by_cases hin : (t : Int) ∈ l2
          · rw [decide_eq_true hin] at hfg
            have HF := hide (HAD.out l2 (fun _ h => h) hin)
            clear hin
            go_wp2_with fail
            go_roundw
            case rel => exact ⟨m + 1, l2, by go_num, by omega, hln2, hkl, hide ⟨HBF2.out, HF.out⟩, HST3.out⟩
            case measure => simp [intOf]; omega
          · rw [decide_eq_false hin] at hfg
            obtain ⟨g, cap, w', hr, hst2⟩ := HST3.out.push t (by omega)
            have hb2 : BfsI A k (l2 ++ [(t : Int)]) := HBF2.out.1.add HOK.out (Nat.le_of_lt hkl) (List.mem_of_getElem? HBF2.out.2) HTM.out hin
            have hl2 := hb2.len HOK.out
            rw [HNN.out] at hl2
            have HF := hide (And.intro (And.intro hb2 (show (l2 ++ [(t : Int)])[k]? = some (s : Int) by rw [List.getElem?_append_left hkl]; exact HBF2.out.2)) (HAD.out (l2 ++ [(t : Int)]) (fun _ h => List.mem_append_left _ h) (by simp)))
            have HG := hide hst2
            clear hin hb2 hst2
            go_wp2_with (at_builtin; refine wpList_append_run rfl _ _ _ rfl rfl rfl hr ?_; clear hr)
            go_roundw
            case rel => exact ⟨m + 1, l2 ++ [(t : Int)], by go_num, by omega, hl2, by simp; omega, HF.out, HG.out⟩
            case measure => simp [intOf]; omega
        · obtain rfl : m = row.length := by omega
          have HN := hide (hbf.out.1.1.next hbf.out.1.2 (fun y hy => by
            rw [Int.toNat_natCast, HROW.out] at hy
            obtain ⟨j, hj⟩ := List.getElem?_of_mem hy
            exact hbf.out.2 j y (List.getElem?_eq_some_iff.1 hj).1 hj))
          have HST3 := hide hst.out
          clear hbf hst
          go_wp2_with fail
          go_roundw
          case rel => exact ⟨k + 1, l2, by go_num, by omega, hln2, HN.out, HST3.out⟩
          case measure => simp [intOf]; omega
    · obtain rfl : k = l.length := by omega
      have HB := hide hb.out
      have HST2 := hide hst.out
      clear hb hst
      go_wp2_with fail
      refine sortInts HST2.out.own (by omega) ?_; rintro e w6 rfl o6 k6
      have hs6 : l.mergeSort leI = rchL A := HB.out.sorted HOK.out
      rw [hs6] at o6
      have hb6 : ∀ y ∈ rchL A, InI64 y := fun y hy => by
        obtain ⟨t, rfl, ht⟩ := (mem_rchL HOK.out).1 hy
        have := ht.lt HOK.out; rw [HNN.out] at this
        unfold InI64; omega
      have HF := hide (o6.ints hb6)
      have hk6 : Same w w6 := (HK3.out.trans HST2.out.keep (S'' := fun x => x < W0) (fun x _ hx => ⟨trivial, .inl hx⟩)).trans k6 (fun x hx _ => by
        have h1 := HW0.out
        refine ⟨by omega, fun e => ?_⟩
        have := (HST2.out.own.low e).1
        omega)
      have HK6 := hide hk6
      clear o6 k6 hs6 hb6 hk6
      go_wp2_with fail
      exact HR.out _ _ _ rfl HF.out HK6.out

end Go.Proofs.Ytbmpnfibebiaeaa
