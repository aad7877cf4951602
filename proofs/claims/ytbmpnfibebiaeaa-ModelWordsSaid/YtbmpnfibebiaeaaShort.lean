/- The walk of look.Shortest. -/
import Derived.Test.YtbmpnfibebiaeaaAway
namespace Go.Proofs.Ytbmpnfibebiaeaa
open Go.RowKit

attribute [local irreducible] wpQuiet wpPlan wpPlanZ wpUp
attribute [local go_sem] field_next2

variable {R : Ending → World → Prop} {w : World} {A : Au} {B d : Nat}

theorem any_rch (h : AuOk A) : (rchL A).any (accA A) = true ↔ ∃ k, Dst A k 0 := by
  rw [List.any_eq_true]
  constructor
  · rintro ⟨x, hx, ha⟩
    obtain ⟨s, rfl, hr⟩ := (mem_rchL h).1 hx
    rw [accA_ac (hr.lt h)] at ha
    obtain ⟨v, hv, rfl⟩ := run_rch hr
    exact Dst.of_can (can_run v 0 hv ha)
  · rintro ⟨k, hd⟩
    obtain ⟨g1, _, g3, _⟩ := greedy_spec h hd
    have hr := rch_run A _ g1
    exact ⟨_, (mem_rchL h).2 ⟨_, rfl, hr⟩, by rw [accA_ac (hr.lt h)]; exact g3⟩

theorem lookEmptyR (h : DFAAt w B d A) (hR : ∀ e w', e = .returned (.bool (!(rchL A).any (accA A))) → Same w w' → R e w') :
    Calls Try.prog 32 #[.pointer (some ⟨d, 0, none⟩)] w R := lookEmpty (fun _ _ h hR => lookReach h hR) h hR

theorem lookShortestNot (h : DFAAt w B d A) (hno : ¬ ∃ k, Dst A k 0) (hR : ∀ e w', e = .returned (.tuple #[.slice none 0 0, .bool false]) → Same w w' → R e w') :
    Calls Try.prog 22 #[.pointer (some ⟨d, 0, none⟩)] w R := by
  have HR := hide hR
  clear hR
  have HE : Hid ((rchL A).any (accA A) = false) := hide (by rw [Bool.eq_false_iff]; exact fun hh => hno ((any_rch h.ok).1 hh))
  have H := hide h
  clear h hno
  go_enter Try.func22, Try.ntmps22
  go_wp2_with fail
  refine lookEmptyR H.out ?_; rintro e w1 rfl k1
  rw [HE.out]
  go_wp2_with fail
  exact HR.out _ _ rfl k1

/-- The letter that IndexFunc finds. -/
theorem idx_let (h : AuOk A) {k s : Nat} (hs : s < A.acc.length) (hd : Dst A (k + 1) s) : idxI (fun y => decide ((faL A A.acc.length).getD y.toNat 0 = ((k + 1 : Nat) : Int) - 1)) (rowI A s) = (letN A s k : Int) := by
  obtain ⟨h1, h2, h3⟩ := letN_spec h hd
  have hlen : (rowI A s).length = 2 ^ A.T.toNat := by rw [rowI_eq h hs, List.length_map, rowN_length]
  have hg : ∀ c (hc : c < (rowI A s).length), (rowI A s)[c] = (nx A s c : Int) := fun c hc => by
    have e := rowI_eq h hs
    have h3 : (rowI A s)[c]? = some (nx A s c : Int) := by rw [e, List.getElem?_map, rowN_get (by rw [← hlen]; exact hc)]; rfl
    rw [List.getElem?_eq_getElem hc] at h3
    exact Option.some.inj h3
  have hf : ∀ t, t < A.acc.length → (faL A A.acc.length).getD t 0 = far A t := fun t ht => by
    rw [List.getD_eq_getElem?_getD]; simp [faL, ht, far]
  have hlt : letN A s k < (rowI A s).length := by rw [hlen]; exact h1
  refine idxI_hit hlt ?_ fun i hi => ?_
  · simp only [hg _ hlt, Int.toNat_natCast, hf _ (nx_lt h s _), far_dst h (nx_lt h s _) h2, decide_eq_true_eq]
    omega
  · have hil : i < (rowI A s).length := by omega
    have e : (rowI A s).getD i 0 = (nx A s i : Int) := by rw [List.getD_eq_getElem?_getD, List.getElem?_eq_getElem hil, hg i hil]; rfl
    simp only [e, Int.toNat_natCast, hf _ (nx_lt h s i), decide_eq_false_iff_not]
    intro hh
    have := h3 i (by rw [← hlen]; exact hil) ((far_iff h (nx_lt h s i)).1 (by omega))
    omega

/-- The state of the search: the word u, the state's number in the box q. -/
structure ShSt (W4 : Nat) (w4 wr : World) (b q s : Nat) (u : Value) (l : List Int) : Prop where
  keep : Same w4 wr
  own : OwnInts wr W4 u l
  num : NumIn wr W4 b q s
  ne : u.ownBlock ≠ some q
  low : W4 = w4.heap.size ∧ b < W4

theorem ShSt.same {W4 b q s : Nat} {w4 wr wr' : World} {u : Value} {l : List Int} (h : ShSt W4 w4 wr b q s u l) (k : Same wr wr') : ShSt W4 w4 wr' b q s u l :=
  ⟨h.keep.tr k, h.own.same k, h.num.same k, h.ne, h.low⟩

theorem ShSt.push {W4 b q s : Nat} {w4 wr : World} {u : Value} {l : List Int} (h : ShSt W4 w4 wr b q s u l) (x : Int) (hl : l.length ≤ 1000) :
    ∃ g cap w', (Builtin.append_ #[37, 37] 37 #[u, .slice (some ⟨wr.heap.size, 0, none⟩) 1 1]).run Try.prog (wr.alloc (.cells #[.int .i64 x] 3)) = .ok (.slice (some ⟨g, 0, none⟩) (l.length + 1) cap) w' ∧
      ShSt W4 w4 w' b q s (.slice (some ⟨g, 0, none⟩) (l.length + 1) cap) (l ++ [x]) := by
  obtain ⟨g, cap, w', hr, hown2, hk2, hg, _⟩ := append_one (P := Try.prog) wr 37 37 3 Try.underlying37 int_info rfl h.own (by rw [h.low.1]; exact h.keep.size) (.int .i64 x) rfl (by omega) (by decide)
  refine ⟨g, cap, w', hr, h.keep.trans hk2 fun y hy _ => ⟨trivial, fun e => ?_⟩, ?_, ⟨hk2.at h.num.blk h.ne, h.num.low, h.num.ne⟩, ?_, h.low⟩
  · have := (h.own.low e).1
    have := h.low.1; omega
  · unfold OwnInts; simpa using hown2
  · rcases hg with hg | hg
    · exact fun e => h.ne (by simp [Value.ownBlock] at e; rw [hg, e])
    · intro e
      simp [Value.ownBlock] at e
      have := heap_lt h.num.blk
      omega

theorem ShSt.move {W4 b q s : Nat} {w4 wr : World} {u : Value} {l : List Int} (h : ShSt W4 w4 wr b q s u l) (s' : Nat) :
    ShSt W4 w4 ((wr.setCell ⟨q, 0, none⟩ (.int .i64 (s' : Int))).alloc (.cells #[.int .i64 (s' : Int)] 3)) b wr.heap.size s' u l := by
  have hsz : (wr.setCell ⟨q, 0, none⟩ (.int .i64 (s' : Int))).heap.size = wr.heap.size := by simp [World.setCell]
  have k1 : Keeps (· ≠ q) wr (wr.setCell ⟨q, 0, none⟩ (.int .i64 (s' : Int))) := (Keeps.refl (· ≠ q) wr).setCell (fun hh => hh.2 rfl) _
  have k2 : Same (wr.setCell ⟨q, 0, none⟩ (.int .i64 (s' : Int))) ((wr.setCell ⟨q, 0, none⟩ (.int .i64 (s' : Int))).alloc (.cells #[.int .i64 (s' : Int)] 3)) := (Keeps.refl _ _).alloc _
  have h1 := h.low
  have h2 := h.num.low
  have h3 := h.keep.size
  refine ⟨(h.keep.trans k1 fun y hy _ => ⟨trivial, by rintro rfl; omega⟩).tr k2, (h.own.keep k1 fun g hg => by rintro rfl; exact h.ne hg).same k2, ⟨?_, by omega, by omega⟩, fun e => ?_, h.low⟩
  · have := heap_new (wr.setCell ⟨q, 0, none⟩ (.int .i64 (s' : Int))) (.cells #[.int .i64 (s' : Int)] 3)
    rw [hsz] at this
    exact this
  · have := (h.own.low e).2
    omega

set_option maxRecDepth 10000 in
set_option maxHeartbeats 2000000 in
theorem lookShortest {K : Nat} (h : DFAAt w B d A) (hd : Dst A K 0) (hR : ∀ e w' v, e = .returned (.tuple #[v, .bool true]) → IntsAt w' v ((greedy A K 0).map Int.ofNat) → Same w w' → R e w') :
    Calls Try.prog 22 #[.pointer (some ⟨d, 0, none⟩)] w R := by
  have HR := hide hR
  clear hR
  have HE : Hid ((rchL A).any (accA A) = true) := hide ((any_rch h.ok).2 ⟨K, hd⟩)
  have HOK := hide h.ok
  have hn1 : 0 < A.acc.length := h.ok.1.2.2.1
  have hn4 : A.acc.length ≤ 400 := h.ok.1.2.2.2.1
  have HNL := hide h.ok.1.2.2.2.2
  have HKN := hide (hd.lt h.ok hn1)
  have HD := hide hd
  have H := hide h
  generalize hnn : A.acc.length = n at hn1 hn4 HNL HKN
  have HNN := hide hnn
  clear h hnn hd
  go_enter Try.func22, Try.ntmps22
  go_wp2_with fail
  refine lookEmptyR H.out ?_; rintro e w1 rfl k1
  rw [HE.out]
  have HK1 := hide k1
  clear k1
  go_wp2_with fail
  refine dfaTo (H.out.same HK1.out) ?_; rintro e w2 v2 rfl o2 k2
  obtain ⟨va, vn, rfl, _, om⟩ := o2
  obtain ⟨na, nc, rfl⟩ := om.shape
  have HRW := hide (om.rows HOK.out.bounds.2)
  have HK2 := hide (HK1.out.tr k2)
  clear om k2
  go_wp2_with fail
  refine lookAway (H.out.same HK2.out) HRW.out ?_; rintro e w3 b rfl hb3 hlo3 k3
  rw [HNN.out]
  have HB3 := hide hb3
  have HK3 := hide (HK2.out.tr k3)
  have HRW3 := hide (HRW.out.same k3)
  clear k3 hb3 hlo3
  go_wp2_with fail
  have hbx := heap_new w3 (.cells #[.slice (some ⟨b, 0, none⟩) n n] 37)
  have hk4 : Same w3 (w3.alloc (.cells #[.slice (some ⟨b, 0, none⟩) n n] 37)) := (Keeps.refl _ w3).alloc _
  have hs4 : (w3.alloc (.cells #[.slice (some ⟨b, 0, none⟩) n n] 37)).heap.size = w3.heap.size + 1 := by simp
  generalize w3.alloc (.cells #[.slice (some ⟨b, 0, none⟩) n n] 37) = w4 at hbx hk4 hs4 ⊢
  rw [← hs4]
  have hbx2 := cell_at hbx 0
  simp only [List.getElem?_toArray, List.getElem?_cons_zero] at hbx2
  generalize w3.heap.size = x at hbx hbx2 hs4 ⊢
  have HBX := hide hbx2
  have HK4 := hide (HK3.out.tr hk4)
  have HRW4 := hide (HRW3.out.same hk4)
  have HB4 : Hid (RowIn w4 b (faL A A.acc.length)) := hide (hk4.at HB3.out trivial)
  obtain ⟨W4, hW4⟩ : ∃ W4, W4 = w4.heap.size := ⟨_, rfl⟩
  have hst : ShSt W4 w4 ((w4.alloc (.cells #[] 3)).alloc (.cells #[.int .i64 0] 3)) b (w4.heap.size + 1) 0 (.slice (some ⟨w4.heap.size, 0, none⟩) 0 0) [] := by
    have h1 := own_nil w4 3 (B := W4) (by omega)
    have h2 := heap_new (w4.alloc (.cells #[] 3)) (.cells #[.int .i64 0] 3)
    rw [show (w4.alloc (.cells #[] 3)).heap.size = w4.heap.size + 1 by simp] at h2
    have hb := heap_lt HB4.out
    exact ⟨((Keeps.refl _ w4).alloc _).alloc _, ownsRow_keep h1 ((Keeps.refl (fun _ => True) _).alloc _) fun _ _ => trivial, ⟨h2, by omega, by omega⟩, by simp [Value.ownBlock], hW4, by omega⟩
  generalize (w4.alloc (.cells #[] 3)).alloc (.cells #[.int .i64 0] 3) = w5 at hst ⊢
  generalize w4.heap.size + 1 = q at hst ⊢
  generalize w4.heap.size = g0 at hst ⊢
  have HST := hide hst
  clear hst hbx hbx2 hk4 hs4 hW4
  go_loopw [6, 7] (fun u p wr => ∃ (q s k : Nat) (l : List Nat), p = .pointer (some ⟨q, 0, none⟩) ∧ s < n ∧ Hid (Dst A k s) ∧ Hid (l ++ greedy A k s = greedy A K 0) ∧ l.length + k = K ∧ cellN wr p = s ∧ Hid (ShSt W4 w4 wr b q s u (l.map Int.ofNat))) (fun _ p wr => (far A (cellN wr p)).toNat)
  case atStart => exact ⟨q, 0, K, [], rfl, hn1, HD.out, rfl, by simp, HST.out.num.n, HST.out⟩
  case round =>
    obtain ⟨q, s, k, l, rfl, hsn, hd, hg, hlk, hcn, hst⟩ := hrel
    have HST2 := hide hst.out
    have c0 := Keeps.cell hst.out.keep HBX.out trivial
    have d0 := hst.out.num.cell
    have hgs : (faL A A.acc.length)[s]? = some (k : Int) := by
      have := far_dst HOK.out (by rw [HNN.out]; exact hsn) hd.out
      simp only [faL, List.getElem?_map, List.getElem?_range (show s < A.acc.length by rw [HNN.out]; exact hsn), Option.map_some]
      exact congrArg some this
    have c1 := (HB4.out.keep hst.out.keep trivial).get hgs
    have HGS := hide hgs
    obtain ⟨ua, uc, rfl⟩ : ∃ ua uc, u6 = .slice ua l.length uc := by simpa using hst.out.own.shape
    clear hst hgs
    rcases k with _ | k
    ·
      have HI := hide (HST2.out.own.ints (fun y hy => by
        obtain ⟨z, hz, rfl⟩ := List.mem_map.1 hy
        have := (greedy_spec HOK.out HD.out).1 z (by rw [← hg.out]; exact List.mem_append_left _ hz)
        have := two_le (show A.T.toNat ≤ 6 by have := HOK.out.1.1; have := HOK.out.1.2.1; omega)
        unfold InI64; simp; omega))
      have hge : l = greedy A K 0 := by have := hg.out; rw [greedy, List.append_nil] at this; exact this
      have HF : Hid (IntsAt wr (.slice ua l.length uc) ((greedy A K 0).map Int.ofNat)) := hide (by rw [← hge]; exact HI.out)
      have c1 : wr.cell? ⟨b, s, none⟩ = some (.int .i64 0) := c1
      clear hge HI hg hlk hcn
      go_wp2_with fail
      exact HR.out _ _ _ rfl HF.out (HK4.out.tr HST2.out.keep)
    ·
      obtain ⟨y, hy⟩ : ∃ y : Int, y = ((k + 1 : Nat) : Int) := ⟨_, rfl⟩
      rw [← hy] at c1
      have hyb : 0 < y ∧ y ≤ 400 := by have := HKN.out; omega
      have HLET := hide (idx_let HOK.out (by rw [HNN.out]; exact hsn) hd.out)
      have HLS := hide (letN_spec HOK.out hd.out)
      rw [← hy] at HLET
      obtain ⟨_, _, e1, _, hv2, hcl⟩ := HRW4.out.open
      have hsl : s < A.next.length := by rw [HNL.out]; exact hsn
      have hll := (HOK.out.2 _ (List.getElem_mem hsl)).1
      simp only [Value.slice.injEq, true_and] at e1
      obtain ⟨rfl, rfl⟩ := e1
      unfold maxLen at hv2
      obtain ⟨vb, voff, rfl, _, hrc⟩ := hcl s hsl
      obtain ⟨u, hu, hi⟩ := hrc s hsl
      have hrow : rowI A s = A.next[s] := by unfold rowI; rw [List.getD_eq_getElem?_getD, List.getElem?_eq_getElem hsl]; rfl
      have hro := (HOK.out.2 _ (List.getElem_mem hsl)).2
      rw [HNN.out] at hro
      rw [hrow] at HLET
      have hge : (A.next[s])[letN A s k]? = some (nx A s (letN A s k) : Int) := by
        rw [← hrow, rowI_eq HOK.out (by rw [HNN.out]; exact hsn), List.getElem?_map, rowN_get HLS.out.1]; rfl
      have hnx := nx_lt HOK.out s (letN A s k)
      rw [HNN.out] at hnx
      have HGR : Hid ((l ++ [letN A s k]) ++ greedy A k (nx A s (letN A s k)) = greedy A K 0) := hide (by
        rw [← hg.out, greedy]; simp)
      have HDN := hide HLS.out.2.1
      have hcl2 : letN A s k < 2 ^ A.T.toNat := HLS.out.1
      generalize A.next[s] = row at hi HLET hro hge hll
      generalize letN A s k = c at HLET hge hnx HGR HDN hcl2 HLS
      generalize nx A s c = s2 at hge hnx HGR HDN HLS
      have HCR := hide (List.getElem?_eq_some_iff.1 hge)
      obtain ⟨ra, rc, rfl, _⟩ := hi.open
      have HU4 := hide hu
      have HI4 := hide hi
      have HI := hide (hi.same HST2.out.keep)
      have hu := Keeps.cell HST2.out.keep hu trivial
      have HRO := hide hro
      have HY := hide hy
      have HCLT : Hid (c < row.length) := hide (by rw [hll]; exact hcl2)
      clear hcl hrc hrow hro hi hge hy hll hcl2 hg HLS
      go_wp2_with fail
      refine indexFunc (p := fun z => decide ((faL A A.acc.length).getD z.toNat 0 = y - 1)) (l := row) callFunc_short HI.out (fun z hz w' R k hR => ?_) ?_
      · have hzb := HRO.out z hz
        obtain ⟨t, rfl⟩ := Int.eq_ofNat_of_zero_le hzb.1
        have htn : t < n := by omega
        have hs := HST2.out.same k
        have htc : t < (faL A A.acc.length).length := by simp [faL, HNN.out]; exact htn
        refine shortFn (n := n) (z := (faL A A.acc.length)[t]) (y := y) (Keeps.cell hs.keep HBX.out trivial) (HB4.out.keep hs.keep trivial) hs.num.cell htn hsn (List.getElem?_eq_getElem htc) (by rw [HY.out]; exact HGS.out) hyb fun e w'' he hk => hR e w'' ?_ hk
        rw [he]
        show _ = Ending.returned (.bool (decide ((faL A A.acc.length).getD (Int.toNat (t : Int)) 0 = y - 1)))
        rw [Int.toNat_natCast, List.getD_eq_getElem?_getD, List.getElem?_eq_getElem htc]
        rfl
      rintro e w6 rfl k6
      rw [HLET.out]
      have HST3 := hide (HST2.out.same k6)
      clear c0 c1 d0 hu k6 HLET HGS HY
      obtain ⟨g, cap, w7, hr, hst7⟩ := HST3.out.push (c : Int) (by have := HKN.out; simp; omega)
      rw [List.length_map] at hr hst7
      have HST7 := hide hst7
      clear hst7
      have hd7 := HST7.out.num.cell
      have hf7 := free_at HST7.out.num.blk 0
      have hu7 := Keeps.cell HST7.out.keep HU4.out trivial
      obtain ⟨_, _, e2, _, hv3, hcl⟩ := (HI4.out.same HST7.out.keep).open
      simp only [Value.slice.injEq, true_and] at e2
      obtain ⟨rfl, rfl⟩ := e2
      unfold maxLen at hv3
      have hcr := HCLT.out
      obtain ⟨rb, roff, rfl, _, hrc⟩ := hcl c hcr
      have hr7 := hrc c hcr
      rw [HCR.out.2] at hr7
      have HMV := hide (HST7.out.move s2)
      have HFS := hide (far_dst HOK.out (by rw [HNN.out]; exact hnx) HDN.out)
      have HFO := hide (far_dst HOK.out (by rw [HNN.out]; exact hsn) hd.out)
      clear hcl hrc
      go_wp2_with (at_builtin; refine wpList_append_run rfl _ _ _ rfl rfl rfl hr ?_; clear hr)
      go_roundw
      case rel => exact ⟨_, s2, k, l ++ [c], rfl, hnx, HDN.out, HGR.out, by simp; omega, HMV.out.num.n, by rw [List.map_append]; exact HMV.out⟩
      case measure => rw [HMV.out.num.n, hcn, HFS.out, HFO.out]; simp

end Go.Proofs.Ytbmpnfibebiaeaa
