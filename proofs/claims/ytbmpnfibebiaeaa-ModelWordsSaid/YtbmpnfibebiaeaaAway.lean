/- The walk of look.away. -/
import Derived.Test.YtbmpnfibebiaeaaReach
namespace Go.Proofs.Ytbmpnfibebiaeaa
open Go.RowKit

attribute [local irreducible] wpQuiet wpPlan wpPlanZ wpUp

variable {R : Ending → World → Prop} {w : World} {A : Au} {B d : Nat}

theorem callFunc_away (args : Array Value) (w : World) : (callFunc 50 args).run Try.prog w = .ok (.enter 50 args) w := by kernel_rfl
theorem callFunc_short (args : Array Value) (w : World) : (callFunc 36 args).run Try.prog w = .ok (.enter 36 args) w := by kernel_rfl

theorem RowIn.get {b k : Nat} {l : List Int} {x : Int} (h : RowIn w b l) (hk : l[k]? = some x) : w.cell? ⟨b, k, none⟩ = some (.int .i64 x) := by
  rw [cell_at h]
  simp [hk]

theorem RowIn.keep {S : Nat → Prop} {w' : World} {b : Nat} {l : List Int} (h : RowIn w b l) (k : Keeps S w w') (hs : S b) : RowIn w' b l := k.at h hs

theorem awayFn {x b q n t : Nat} {cur : List Int} {m z : Int} (hx : w.cell? ⟨x, 0, none⟩ = some (.slice (some ⟨b, 0, none⟩) n n)) (hb : RowIn w b cur) (hq : w.cell? ⟨q, 0, none⟩ = some (.int .i64 m)) (htn : t < n) (hz : cur[t]? = some z)
    (hR : ∀ e w', e = .returned (.bool (decide (z = m))) → Same w w' → R e w') :
    Calls Try.prog 50 #[.int .i64 (t : Int), .pointer (some ⟨x, 0, none⟩), .pointer (some ⟨q, 0, none⟩)] w R := by
  have HR := hide hR
  clear hR
  have hc := hb.get hz
  clear hb hz
  go_enter Try.func50, Try.ntmps50
  go_wp2_with fail
  refine wp_region_same (by kernel_rfl) (by kernel_rfl) ?_
  iterate 7
    (apply wpQuiet_step
     intro K hK
     first
       | (apply quiet_skip
          case hw => rfl
          go_simp
          refine hK _ ?_; clear hK K)
       | (apply quiet_do
          case hw => rfl
          case h =>
            intro w' hw'
            (have z0 := Keeps.cell hw' hx trivial; have z1 := Keeps.cell hw' hq trivial; have z2 := Keeps.cell hw' hc trivial)
            go_simp
            first | exact rfl | (fail)
          go_simp
          refine hK _ ?_; clear hK K))
  apply wpQuiet_nil
  intro w1 k1
  go_wp2_with fail
  exact HR.out _ _ rfl k1

theorem shortFn {x b q n t s : Nat} {cur : List Int} {y z : Int} (hx : w.cell? ⟨x, 0, none⟩ = some (.slice (some ⟨b, 0, none⟩) n n)) (hb : RowIn w b cur) (hq : w.cell? ⟨q, 0, none⟩ = some (.int .i64 (s : Int))) (htn : t < n) (hsn : s < n) (hz : cur[t]? = some z) (hy : cur[s]? = some y) (hyb : 0 < y ∧ y ≤ 400)
    (hR : ∀ e w', e = .returned (.bool (decide (z = y - 1))) → Same w w' → R e w') :
    Calls Try.prog 36 #[.int .i64 (t : Int), .pointer (some ⟨x, 0, none⟩), .pointer (some ⟨q, 0, none⟩)] w R := by
  have HR := hide hR
  clear hR
  have hc := hb.get hz
  have hd := hb.get hy
  have hw1 : wrap64 (y - 1) = y - 1 := IntWalk.wrap64_in _ (by omega)
  have hw2 : IntKind.i64.wrap (y - 1) = y - 1 := by rw [IntKind.wrap_i64]; omega
  clear hb hz hy
  go_enter Try.func36, Try.ntmps36
  go_wp2_with fail
  refine wp_region_same (by kernel_rfl) (by kernel_rfl) ?_
  iterate 11
    (apply wpQuiet_step
     intro K hK
     first
       | (apply quiet_skip
          case hw => rfl
          go_simp
          refine hK _ ?_; clear hK K)
       | (apply quiet_do
          case hw => rfl
          case h =>
            intro w' hw'
            (have z0 := Keeps.cell hw' hx trivial; have z1 := Keeps.cell hw' hq trivial; have z2 := Keeps.cell hw' hc trivial; have z3 := Keeps.cell hw' hd trivial)
            go_simp
            first | exact rfl | (fail)
          go_simp
          refine hK _ ?_; clear hK K))
  apply wpQuiet_nil
  intro w1 k1
  go_wp2_with fail
  exact HR.out _ _ rfl k1

/-- The number in the cell that a pointer names. -/
def cellN (w : World) : Value → Nat
  | .pointer (some p) => match w.cell? p with
    | some (.int _ x) => x.toNat
    | _ => 0
  | _ => 0

/-- The state: the box x of the slice, its block b. -/
structure AwSt (w wr : World) (n x b : Nat) (cur : List Int) : Prop where
  keep : Same w wr
  box : wr.heap[x]? = some (.cells #[.slice (some ⟨b, 0, none⟩) n n] 37 (0, 0))
  row : RowIn wr b cur
  low : w.heap.size ≤ x ∧ w.heap.size ≤ b
  len : cur.length = n

theorem AwSt.same {wr wr' : World} {n x b : Nat} {cur : List Int} (h : AwSt w wr n x b cur) (k : Same wr wr') : AwSt w wr' n x b cur :=
  ⟨h.keep.tr k, k.at h.box trivial, k.at h.row trivial, h.low, h.len⟩

theorem AwSt.set {wr : World} {n x b : Nat} {cur : List Int} (h : AwSt w wr n x b cur) (k : Nat) (y : Int) : AwSt w (wr.setCell ⟨b, k, none⟩ (.int .i64 y)) n x b (cur.set k y) := by
  refine ⟨h.keep.setCell (fun hh => by have := hh.1; have := h.low.2; simp at *; omega) _, ?_, h.row.set k y, h.low, by simp [h.len]⟩
  rw [heap_setCell_ne (by rintro rfl; have h1 := h.box; rw [h.row] at h1; simp at h1)]
  exact h.box

theorem AwSt.cell {wr : World} {n x b : Nat} {cur : List Int} (h : AwSt w wr n x b cur) : wr.cell? ⟨x, 0, none⟩ = some (.slice (some ⟨b, 0, none⟩) n n) := by
  rw [cell_at h.box]; rfl

/-- A box of a number, apart from b. -/
structure NumIn (w : World) (lo b q : Nat) (m : Nat) : Prop where
  blk : w.heap[q]? = some (.cells #[.int .i64 (m : Int)] 3 (0, 0))
  low : lo ≤ q
  ne : q ≠ b

theorem NumIn.cell {lo b q m : Nat} (h : NumIn w lo b q m) : w.cell? ⟨q, 0, none⟩ = some (.int .i64 (m : Int)) := by rw [cell_at h.blk]; rfl

theorem NumIn.same {w' : World} {lo b q m : Nat} (h : NumIn w lo b q m) (k : Same w w') : NumIn w' lo b q m := ⟨k.at h.blk trivial, h.low, h.ne⟩
theorem NumIn.set {lo b q m : Nat} (h : NumIn w lo b q m) (k : Nat) (y : Value) : NumIn (w.setCell ⟨b, k, none⟩ y) lo b q m := ⟨by rw [heap_setCell_ne h.ne]; exact h.blk, h.low, h.ne⟩

theorem AwSt.num {wr : World} {n x b m : Nat} {cur : List Int} (h : AwSt w wr n x b cur) : AwSt w (wr.alloc (.cells #[.int .i64 (m : Int)] 3)) n x b cur ∧ NumIn (wr.alloc (.cells #[.int .i64 (m : Int)] 3)) w.heap.size b wr.heap.size m :=
  ⟨h.same ((Keeps.refl _ wr).alloc _), heap_new _ _, h.keep.size, fun e => by have := heap_lt h.row; omega⟩

theorem NumIn.n {lo b q m : Nat} (h : NumIn w lo b q m) : cellN w (.pointer (some ⟨q, 0, none⟩)) = m := by
  unfold cellN
  simp only [h.cell]
  simp

set_option maxRecDepth 10000 in
set_option maxHeartbeats 2000000 in
theorem lookAway {v : Value} (h : DFAAt w B d A) (hv : RowsAt w v A.next) (hR : ∀ e w' b, e = .returned (.slice (some ⟨b, 0, none⟩) A.acc.length A.acc.length) → RowIn w' b (faL A A.acc.length) → w.heap.size ≤ b → Same w w' → R e w') :
    Calls Try.prog 34 #[.pointer (some ⟨d, 0, none⟩), v] w R := by
  have HR := hide hR
  clear hR
  have HOK := hide h.ok
  have hn1 : 0 < A.acc.length := h.ok.1.2.2.1
  have hn4 : A.acc.length ≤ 400 := h.ok.1.2.2.2.1
  have HNL := hide h.ok.1.2.2.2.2
  have H := hide h
  have HV := hide hv
  obtain ⟨va, vc, rfl, hv1, hv2, _⟩ := hv.open
  generalize hnn : A.acc.length = n at hn1 hn4 HNL HR
  have HNN := hide hnn
  rw [HNL.out] at hv1 HV ⊢
  unfold maxLen at hv2
  obtain ⟨i0, hi0, hz0, hz1, hz2⟩ := info_parts int_info
  have hmk := run_make (P := Try.prog) w 37 3 i0 _ Try.underlying37 hi0 hz0 .i64 .i64 n n (by omega) (by omega) (by rw [hz2]; omega) (by omega)
  rw [hz1, Int.toNat_natCast, make_ints] at hmk
  have hrow : RowIn (w.alloc (.cells ((List.replicate n (0 : Int)).map (Value.int .i64)).toArray 3)) w.heap.size (List.replicate n 0) := heap_new _ _
  have hka : Same w (w.alloc (.cells ((List.replicate n (0 : Int)).map (Value.int .i64)).toArray 3)) := (Keeps.refl _ w).alloc _
  have hsz1 : (w.alloc (.cells ((List.replicate n (0 : Int)).map (Value.int .i64)).toArray 3)).heap.size = w.heap.size + 1 := by simp
  generalize w.alloc (.cells ((List.replicate n (0 : Int)).map (Value.int .i64)).toArray 3) = w1 at hmk hrow hka hsz1
  obtain ⟨b, hb⟩ : ∃ b, b = w.heap.size := ⟨_, rfl⟩
  rw [← hb] at hmk hrow
  have HB := hide hb
  have HROW := hide hrow
  have HKA := hide hka
  clear hi0 hz0 hz1 hz2 h hb hsz1 hrow hka hnn hv
  go_enter Try.func34, Try.ntmps34
  go_wp2_with fail
  refine dfaStates H.out ?_; rintro e rfl
  rw [HNN.out]
  go_wp2_with fail
  have hst : AwSt w (w1.alloc (.cells #[.slice (some ⟨b, 0, none⟩) n n] 37)) n w1.heap.size b (acMix A 0) :=
    ⟨HKA.out.alloc _, heap_new _ _, by rw [acMix_zero, HNN.out]; exact heap_old HROW.out _, ⟨HKA.out.size, by rw [HB.out]; exact Nat.le_refl _⟩, by rw [acMix_length, HNN.out]⟩
  generalize w1.alloc (.cells #[.slice (some ⟨b, 0, none⟩) n n] 37) = w2 at hst ⊢
  generalize w1.heap.size = x at hst ⊢
  have HST := hide hst
  clear hst
  go_loopw [6, 15] (fun _ i wr => ∃ k : Nat, i = .int .i64 k ∧ k ≤ n ∧ Hid (AwSt w wr n x b (acMix A k))) (fun _ i _ => n - (intOf i).toNat)
  case atStart => exact ⟨0, rfl, Nat.zero_le _, HST.out⟩
  case round =>
    obtain ⟨k, rfl, hk, hst⟩ := hrel
    by_cases hlt : k < n
    · have HS := hide hst.out
      have HAC : Hid (accA A (k : Int) = ac A k) := hide (accA_ac (by rw [HNN.out]; exact hlt))
      have hset : (acMix A k).set k (fa A 0 k) = acMix A (k + 1) := acMix_set
      have hlen := hst.out.len
      have c0 := hst.out.cell
      generalize acMix A k = cur at HS hset hlen hst
      have HSET := hide hset
      have c1 : wr.cell? ⟨b, k, none⟩ = some (.int .i64 (cur[k]'(by omega))) := hst.out.row.get (List.getElem?_eq_getElem _)
      have c2 := free_at hst.out.row k
      generalize cur[k]'(by omega) = y0 at c1
      clear hset hlen hst
      go_wp2_with fail
      have hs1 := HS.out.set k (-1)
      generalize wr.setCell ⟨b, k, none⟩ (.int .i64 (-1)) = wa at hs1 ⊢
      have HS1 := hide hs1
      refine dfaAccepts (H.out.same hs1.keep) _ ?_; rintro e rfl
      rw [HAC.out]
      have e0 := hs1.cell
      have e1 : wa.cell? ⟨b, k, none⟩ = some (.int .i64 (-1)) := hs1.row.get (by rw [List.getElem?_set_self (by rw [HS.out.len]; exact hlt)])
      have e2 := free_at hs1.row k
      clear hs1 c0 c1 c2
      cases hac : ac A k with
      | true =>
        have hs2 := HS1.out.set k 0
        have hf : fa A 0 k = 0 := by rw [fa, if_pos hac]
        rw [List.set_set, ← hf, HSET.out, hf] at hs2
        have HS2 := hide hs2
        clear hs2 hf hac
        go_wp2_with fail
        go_roundw
        case rel => exact ⟨k + 1, by go_num, by omega, HS2.out⟩
        case measure => simp [intOf]; omega
      | false =>
        have hf : fa A 0 k = -1 := by rw [fa, if_neg (by rw [hac]; decide)]
        have hs2 := HS1.out
        rw [← hf, HSET.out] at hs2
        have HS2 := hide hs2
        clear hs2 hf hac
        go_wp2_with fail
        go_roundw
        case rel => exact ⟨k + 1, by go_num, by omega, HS2.out⟩
        case measure => simp [intOf]; omega
    · obtain rfl : n = k := by omega
      have hs0 := hst.out
      rw [← HNN.out, acMix_all, HNN.out] at hs0
      have HS0 := hide hs0
      have HN0 := hide (hs0.num (m := 0))
      clear hst hs0
      go_wp2_with fail
      have hn0 := HN0.out
      rw [Int.natCast_zero] at hn0
      generalize wr.alloc (.cells #[.int .i64 0] 3) = wb at hn0 ⊢
      have HN1 := hide hn0
      clear hn0
      go_loopw [7] (fun p wr => ∃ m q : Nat, p = .pointer (some ⟨q, 0, none⟩) ∧ m ≤ n ∧ Hid (AwSt w wr n x b (faL A m)) ∧ Hid (NumIn wr w.heap.size b q m) ∧ cellN wr p = m) (fun p wr => n - cellN wr p)
      case atStart => exact ⟨0, _, rfl, Nat.zero_le _, HN1.out.1, HN1.out.2, HN1.out.2.n⟩
      case round =>
        obtain ⟨m, q, rfl, hm, hst, hnum, hcn⟩ := hrel
        have c0 := hst.out.cell
        have c1 := hnum.out.cell
        have HST2 := hide hst.out
        have HNUM := hide hnum.out
        clear hst hnum
        by_cases hmn : m < n
        · go_wp2_with fail
          clear c0 c1
          go_loopw [8, 9, 36] (fun _ _ i wr => ∃ k : Nat, i = .int .i64 k ∧ k ≤ n ∧ Hid (AwSt w wr n x b (faMix A m k)) ∧ Hid (NumIn wr w.heap.size b q m)) (fun _ _ i _ => n - (intOf i).toNat)
          case atStart => exact ⟨0, rfl, Nat.zero_le _, hide (by rw [faMix_zero]; exact HST2.out), HNUM.out⟩
          case round =>
            obtain ⟨k, rfl, hk, hst, hnum⟩ := hrel
            by_cases hlt : k < n
            · have HANY := hide (faMix_any (A := A) HOK.out (m := m) (k := k) (s := k) (by rw [HNN.out]; exact hlt))
              have hz : (faMix A m k)[k]? = some (fa A m k) := by rw [faMix_get (by rw [HNN.out]; exact hlt), if_neg (Nat.lt_irrefl _)]
              have HSET := hide (faMix_set (A := A) (m := m) (k := k))
              have HSTAY := hide (faMix_stay (A := A) (m := m) (k := k))
              have HFA : Hid (fa A (m + 1) k = if fa A m k < 0 ∧ (rowN A k).any (fun t => fa A m t == (m : Int)) = true then (m : Int) + 1 else fa A m k) := hide (by rw [fa])
              have hzb := fa_neg A m k
              have c0 := hst.out.cell
              have c1 := hst.out.row.get hz
              have c2 := free_at hst.out.row k
              have d0 := hnum.out.cell
              have HS := hide hst.out
              have HQ := hide hnum.out
              obtain ⟨_, _, e1, _, _, hcl⟩ := (HV.out.same hst.out.keep).open
              have hkl : k < A.next.length := by rw [HNL.out]; exact hlt
              simp only [Value.slice.injEq] at e1
              obtain ⟨rfl, hnl, rfl⟩ := e1
              clear hnl
              obtain ⟨vb, voff, rfl, _, hrc⟩ := hcl k hkl
              obtain ⟨u, hu, hi⟩ := hrc k hkl
              have hrow : rowI A k = A.next[k] := by unfold rowI; rw [List.getD_eq_getElem?_getD, List.getElem?_eq_getElem hkl]; rfl
              have hro := (HOK.out.2 _ (List.getElem_mem hkl)).2
              rw [HNN.out] at hro
              rw [hrow] at HANY
              generalize A.next[k] = row at hi HANY hro
              generalize fa A m k = z at hz hzb HSTAY HFA c1
              generalize (rowN A k).any (fun t => fa A m t == (m : Int)) = yes at HANY HFA
              generalize hcur : faMix A m k = cur at HS HANY HSET HSTAY hz
              have HCUR := hide hcur
              obtain ⟨ra, rc, rfl, _⟩ := hi.open
              have HI := hide hi
              have HRO := hide hro
              clear hcur hst hnum hcl hrc hrow hro hi hkl hz
              by_cases hneg : z < 0
              · have HNEG := hide hneg
                go_wp2_with fail
                refine containsFunc (p := fun y => decide (cur.getD y.toNat 0 = (m : Int))) (l := row) callFunc_away HI.out (fun y hy w' R k hR => ?_) ?_
                · have hyb := HRO.out y hy
                  obtain ⟨t, rfl⟩ := Int.eq_ofNat_of_zero_le hyb.1
                  have htn : t < n := by omega
                  have hs := HS.out.same k
                  have htc : t < cur.length := by rw [hs.len]; exact htn
                  refine awayFn (z := cur[t]) hs.cell hs.row (HQ.out.same k).cell htn (List.getElem?_eq_getElem htc) fun e w'' he hk => hR e w'' ?_ hk
                  rw [he]
                  show _ = Ending.returned (.bool (decide (cur.getD (Int.toNat (t : Int)) 0 = (m : Int))))
                  rw [Int.toNat_natCast, List.getD_eq_getElem?_getD, List.getElem?_eq_getElem htc]
                  rfl
                rintro e w2 rfl k2
                rw [HANY.out]
                have hs3 := HS.out.same k2
                have hq3 := HQ.out.same k2
                have c0' := hs3.cell
                have d0' := hq3.cell
                have hkc : k < cur.length := by rw [hs3.len]; exact hlt
                have c1' : w2.cell? ⟨b, k, none⟩ = some (.int .i64 cur[k]) := hs3.row.get (List.getElem?_eq_getElem hkc)
                have c2' := free_at hs3.row k
                generalize cur[k] = y0 at c1'
                have HS3 := hide hs3
                have HQ3 := hide hq3
                clear hs3 hq3 c0 c1 c2 d0
                cases hyes : yes with
                | false =>
                  have HS2 : Hid (AwSt w w2 n x b (faMix A m (k + 1))) := hide (by
                    rw [HSTAY.out (by rw [HFA.out, if_neg (fun hh => by rw [hyes] at hh; exact absurd hh.2 (by decide))])]
                    first | exact HS3.out | (rw [← HCUR.out]; exact HS3.out))
                  clear hyes
                  go_wp2_with fail
                  go_roundw
                  case rel => exact ⟨k + 1, by go_num, by omega, HS2.out, HQ3.out⟩
                  case measure => simp [intOf]; omega
                | true =>
                  have hs4 := HS3.out.set k ((m : Int) + 1)
                  have hq4 := HQ3.out.set k (.int .i64 ((m : Int) + 1))
                  have hse := HSET.out
                  rw [HFA.out, if_pos ⟨HNEG.out, hyes⟩] at hse
                  rw [hse] at hs4
                  have HS4 := hide hs4
                  have HQ4 := hide hq4
                  clear hyes hs4 hq4 hse
                  go_wp2_with fail
                  go_roundw
                  case rel => exact ⟨k + 1, by go_num, by omega, HS4.out, HQ4.out⟩
                  case measure => simp [intOf]; omega
              · go_wp2_with fail
                have HS2 : Hid (AwSt w wr n x b (faMix A m (k + 1))) := hide (by
                  rw [HSTAY.out (by rw [HFA.out, if_neg (fun hh => hneg hh.1)])]
                  first | exact HS.out | (rw [← HCUR.out]; exact HS.out))
                go_roundw
                case rel => exact ⟨k + 1, by go_num, by omega, HS2.out, HQ.out⟩
                case measure => simp [intOf]; omega
            · obtain rfl : n = k := by omega
              have hs0 := hst.out
              rw [← HNN.out, faMix_all, HNN.out] at hs0
              have c0 := hnum.out.cell
              have hnm := hs0.num (m := m + 1)
              rw [Int.natCast_succ] at hnm
              have HF := hide hnm
              clear hst hs0 hnum hnm
              go_wp2_with fail
              go_roundw
              case rel => exact ⟨m + 1, _, rfl, by omega, HF.out.1, HF.out.2, HF.out.2.n⟩
              case measure =>
                rw [HF.out.2.n, hcn]; omega
        · obtain rfl : n = m := by omega
          go_wp2_with fail
          exact HR.out _ _ _ rfl HST2.out.row HST2.out.low.2 HST2.out.keep

end Go.Proofs.Ytbmpnfibebiaeaa
