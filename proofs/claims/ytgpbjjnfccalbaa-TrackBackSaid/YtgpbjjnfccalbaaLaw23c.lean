/- The walk of TrackBack. -/
import Derived.Test.YtgpbjjnfccalbaaLaw23
namespace Go.Proofs.Ytgpbjjnfccalbaa
open Go.RowKit

attribute [local irreducible] wpQuiet wpPlan wpPlanZ wpUp

variable {R : Ending → World → Prop} {w : World} {A : Au}

/-- In a row of as many numbers, each below its length among them, none stands twice. -/
theorem perm_inj {l : List Int} (h : ∀ i : Nat, i < l.length → (i : Int) ∈ l) {j k : Nat} {p : Int} (hj : l[j]? = some p) (hk : l[k]? = some p) : j = k := by
  apply Classical.byContradiction
  intro hne
  have hkl := (List.getElem?_eq_some_iff.1 hk).1
  have h2 := all_in l.length (l.eraseIdx k) fun i hi => by
    rw [List.mem_eraseIdx_iff_getElem?]
    obtain ⟨m, hm⟩ := List.getElem?_of_mem (h i hi)
    by_cases e : m = k
    · subst e
      rw [hk] at hm
      exact ⟨j, hne, hj.trans hm⟩
    · exact ⟨m, e, hm⟩
  rw [List.length_eraseIdx_of_lt hkl] at h2
  omega

/-- The places so far. -/
def BackOk (l cur : List Int) (k : Nat) : Prop := cur.length = l.length ∧ ∀ (j : Nat) (p : Int), j < k → l[j]? = some p → cur[p.toNat]? = some (j : Int)

theorem BackOk.step {l cur : List Int} {k : Nat} {p : Int} (h : BackOk l cur k) (hp : ∀ i : Nat, i < l.length → (i : Int) ∈ l) (hk : l[k]? = some p) : BackOk l (cur.set p.toNat k) (k + 1) := by
  refine ⟨by simpa using h.1, fun j q hj hq => ?_⟩
  have hrange := all_range hp
  have h1 := hrange p (List.mem_of_getElem? hk)
  have h2 := hrange q (List.mem_of_getElem? hq)
  by_cases e : j = k
  · subst e
    rw [hk] at hq; obtain rfl := Option.some.inj hq
    rw [List.getElem?_set_self (by rw [h.1]; omega)]
  · rw [List.getElem?_set_ne]
    · exact h.2 j q (by omega) hq
    · intro e2
      obtain rfl : p = q := by omega
      exact e (perm_inj hp hq hk)

theorem BackOk.perm {l cur : List Int} (h : BackOk l cur l.length) : permB cur = true := by
  unfold permB
  rw [decide_eq_true_iff, h.1]
  intro i hi
  obtain ⟨p, hpi⟩ : ∃ p, l[i]? = some p := ⟨_, List.getElem?_eq_getElem hi⟩
  exact List.mem_of_getElem? (h.2 i p hi hpi)

/-- Turned, and turned back. -/
theorem turn_back {l cur : List Int} (hok : AuOk A) (hl : (l.length : Int) = A.T) (h : BackOk l cur l.length) (hp : ∀ i : Nat, i < l.length → (i : Int) ∈ l) :
    turnAu (turnAu A l.length (tb (l.map Int.toNat))) cur.length (tb (cur.map Int.toNat)) = A := by
  have hrange := all_range hp
  have hTn : A.T.toNat = l.length := by omega
  have hb : ∀ i p : Nat, (cur.map Int.toNat)[i]? = some p → (l.map Int.toNat)[p]? = some i := by
    intro i p hi
    rw [List.getElem?_map, Option.map_eq_some_iff] at hi
    obtain ⟨x, hx, rfl⟩ := hi
    have hil := (List.getElem?_eq_some_iff.1 hx).1
    rw [h.1] at hil
    obtain ⟨j, hj⟩ := List.getElem?_of_mem (hp i hil)
    have := h.2 j _ (List.getElem?_eq_some_iff.1 hj).1 hj
    rw [Int.toNat_natCast, hx] at this
    obtain rfl := Option.some.inj this
    rw [Int.toNat_natCast, List.getElem?_map, hj]
    simp
  have hlc : ∀ p ∈ cur.map Int.toNat, p < l.length := by
    intro p hpm
    obtain ⟨i, hi⟩ := List.getElem?_of_mem hpm
    have := (List.getElem?_eq_some_iff.1 (hb i p hi)).1
    simpa using this
  have hrow : ∀ r ∈ A.next, turnRow (2 ^ l.length) (tb (cur.map Int.toNat)) (turnRow (2 ^ l.length) (tb (l.map Int.toNat)) r) = r := by
    intro r hr
    have hrl := (hok.2 r hr).1
    rw [hTn] at hrl
    refine row_ext (by simp [turnRow, hrl]) fun c hc => ?_
    have hc2 : c < 2 ^ l.length := by simpa [turnRow] using hc
    have hlt := tb_lt hlc c
    have hbk := tb_back (l := cur.map Int.toNat) (m := l.map Int.toNat) (n := l.length) (by simp [h.1]) (by simp) hb hc2
    unfold turnRow
    simp only [List.getD, List.getElem?_map, List.getElem?_range hc2, Option.map_some, Option.getD_some, List.getElem?_range hlt, hbk]
  unfold turnAu
  simp only [h.1]
  obtain ⟨T, acc, next⟩ := A
  simp only [Au.mk.injEq]
  refine ⟨hl, trivial, ?_⟩
  rw [List.map_map]
  conv => rhs; rw [← List.map_id next]
  exact List.map_congr_left fun r hr => by simpa using hrow r hr

set_option maxRecDepth 10000 in
set_option maxHeartbeats 4000000 in
theorem trackBackWalk (v : Value) (A : Au) (u : Value) (l : List Int) (w : World) (hA : AutoAt w v A) (hv : IntsAt w u l) :
    Calls Try.prog 13 #[v, u] w fun e w' => e = .returned (.bool true) ∧ Below w.heap.size w w' := by
  refine law_of fun R HR => ?_
  have HA := hide hA
  have HV := hide hv
  obtain ⟨va, vn, rfl, hacc, hnext, hT⟩ := hA
  obtain ⟨aa, ac, rfl, _⟩ := hacc.open
  obtain ⟨na, nc, rfl, _⟩ := hnext.open
  obtain ⟨pa, pc, rfl, he1, he2, hpcell⟩ := hv.open
  unfold maxLen at he2
  have HPC := hide hpcell
  have hk : Same w (w.alloc (.cells #[.int .i64 A.T, .slice aa A.acc.length ac, .slice na A.next.length nc] 25)) := (Keeps.refl _ w).alloc _
  have hbox := heap_new w (.cells #[.int .i64 A.T, .slice aa A.acc.length ac, .slice na A.next.length nc] 25)
  have HB := hide hbox
  have HK := hide hk
  clear hacc hnext hT hbox hk hpcell hv
  cases hm : mayB A with
  | false =>
    go_enter Try.func13, Try.ntmps13
    go_wp2_with fail
    refine may23 (HA.out.same HK.out) ?_; rintro e w1 rfl k1
    rw [hm]
    go_wp2_with fail
    exact HR.out _ _ rfl ((HK.out.tr k1).mono fun _ _ _ => trivial)
  | true =>
    by_cases hl20 : 20 < l.length
    · go_enter Try.func13, Try.ntmps13
      go_wp2_with fail
      refine may23 (HA.out.same HK.out) ?_; rintro e w1 rfl k1
      rw [hm]
      go_wp2_with fail
      exact HR.out _ _ rfl ((HK.out.tr k1).mono fun _ _ _ => trivial)
    · have HOK := hide (mayB_ok hm).2.2
      go_enter Try.func13, Try.ntmps13
      go_wp2_with fail
      refine may23 (HA.out.same HK.out) ?_; rintro e w1 rfl k1
      rw [hm]
      have b1 := k1.at HB.out trivial
      have HK1 := hide (HK.out.tr k1)
      clear k1 hm
      have q0 := cell_at b1 0
      have q1 := cell_at b1 1
      have q2 := cell_at b1 2
      simp only [List.getElem?_toArray, List.getElem?_cons_zero, List.getElem?_cons_succ] at q0 q1 q2
      have B1 := hide b1
      clear b1
      go_wp2_with fail
      refine of23 (HA.out.same HK1.out) HOK.out ?_; rintro e w2 d rfl d2 k2
      clear q0 q1 q2
      have HK2 := hide (HK1.out.tr k2)
      have D2 := hide d2
      have B2 := hide (k2.at B1.out trivial)
      clear k2 d2
      go_wp2_with fail
      by_cases hyes : (l.length : Int) = A.T ∧ permB l = true
      · have HY := hide hyes
        clear hyes
        refine trackTurn D2.out (HV.out.same HK2.out) HY.out.1 HY.out.2 ?_; rintro e w3 d3 rfl dd3 k3
        have HK3 := hide (HK2.out.tr k3)
        have D3 := hide dd3
        have B3 := hide (k3.at B2.out trivial)
        have HPM : Hid (∀ i : Nat, i < l.length → (i : Int) ∈ l) := hide (of_decide_eq_true HY.out.2)
        have hn6 : l.length ≤ 6 := by have := HOK.out.1.2.1; have := HY.out.1; omega
        have HRG := hide (all_range HPM.out)
        clear k3 dd3
        obtain ⟨i0, hi0, hz0, hz1, hz2⟩ := info_parts int_info
        have hmk := run_make (P := Try.prog) w3 26 3 i0 _ Try.underlying26 hi0 hz0 .i64 .i64 l.length l.length (by omega) (by omega) (by rw [hz2]; omega) (by omega)
        rw [hz1, Int.toNat_natCast, make_ints] at hmk
        have hrow : RowIn (w3.alloc (.cells ((List.replicate l.length (0 : Int)).map (Value.int .i64)).toArray 3)) w3.heap.size (List.replicate l.length 0) := heap_new _ _
        have hka : Same w3 (w3.alloc (.cells ((List.replicate l.length (0 : Int)).map (Value.int .i64)).toArray 3)) := (Keeps.refl _ w3).alloc _
        generalize w3.alloc (.cells ((List.replicate l.length (0 : Int)).map (Value.int .i64)).toArray 3) = w4 at hmk hrow hka
        have HROW := hide hrow
        have HKA := hide hka
        obtain ⟨b, hb⟩ : ∃ b, b = w3.heap.size := ⟨_, rfl⟩
        rw [← hb] at hmk HROW
        have HBB := hide hb
        clear hi0 hz0 hz1 hz2 hrow hka hb
        go_wp2_with fail
        go_loopw [8] (fun i wr => ∃ (k : Nat) (cur : List Int), i = .int .i64 k ∧ k ≤ l.length ∧ Hid (RowIn wr b cur ∧ BackOk l cur k) ∧ Same w3 wr) (fun i _ => l.length - (intOf i).toNat)
        case atStart => exact ⟨0, _, rfl, Nat.zero_le _, hide ⟨HROW.out, by simp, fun j p hj => absurd hj (Nat.not_lt_zero _)⟩, HKA.out⟩
        case round =>
          obtain ⟨k, cur, rfl, hk, hrow, hK⟩ := hrel
          by_cases hlt : k < l.length
          · obtain ⟨bl, off, rfl, _, hcl⟩ := HPC.out k hlt
            have hck := Keeps.cell (HK3.out.tr hK) (hcl k hlt) trivial
            have HG := hide (List.getElem?_eq_getElem hlt)
            have hr := HRG.out _ (List.getElem_mem hlt)
            generalize l[k] = x at hck HG hr
            obtain ⟨p, rfl⟩ := Int.eq_ofNat_of_zero_le hr.1
            have hpl : p < l.length := by omega
            have hpc : p < cur.length := by rw [hrow.out.2.1]; exact hpl
            have hb5 : wr.heap[b]? = some (.cells (cur.map (Value.int .i64)).toArray 3 (0, 0)) := hrow.out.1
            have z1 : wr.cell? ⟨b, p, none⟩ = some (.int .i64 cur[p]) := by rw [cell_at hb5]; simp [hpc]
            have z2 := free_at hb5 p
            have hr6 := hrow.out.1.set p (k : Int)
            have hbk := hrow.out.2.step HPM.out HG.out
            rw [Int.toNat_natCast] at hbk
            have hk6 : Same w3 (wr.setCell ⟨b, p, none⟩ (.int .i64 (k : Int))) := hK.setCell (fun hh => by have := hh.1; rw [HBB.out] at this; exact Nat.lt_irrefl _ this) _
            have HF := hide (And.intro hr6 (And.intro hbk hk6))
            generalize cur[p] = y0 at z1
            clear hr6 hbk hk6 hb5 hrow hK hcl hpc hr
            go_wp2_with fail
            go_roundw
            case rel => exact ⟨k + 1, _, by go_num, by omega, hide ⟨HF.out.1, HF.out.2.1⟩, HF.out.2.2⟩
            case measure => simp [intOf]; omega
          · obtain rfl : k = l.length := by omega
            have hbo := hrow.out.2
            have hcl : cur.length = l.length := hbo.1
            have hbnd : ∀ y ∈ cur, InI64 y := by
              intro y hy
              have hr2 := all_range (l := cur) (of_decide_eq_true (hbo.perm)) y hy
              rw [hcl] at hr2
              unfold InI64; omega
            have hown : OwnInts wr 0 (.slice (some ⟨b, 0, none⟩) l.length l.length) cur := RowIn.own hrow.out.1 (Nat.zero_le _) hcl.symm (by unfold maxLen; omega)
            have HI := hide (hown.ints hbnd)
            have HTB := hide (turn_back HOK.out HY.out.1 hbo HPM.out)
            have HPB := hide (hbo.perm)
            have HKW := hide hK
            have HCL := hide hcl
            clear hrow hK hbo hcl hbnd hown
            go_wp2_with fail
            refine trackTurn (D3.out.same HKW.out) HI.out (by rw [HCL.out]; rfl) HPB.out ?_; rintro e w5 d5 rfl dd5 k5
            rw [HTB.out] at dd5
            have HK5 := hide (HKW.out.tr k5)
            have D5 := hide dd5
            have b5 := HK5.out.at B3.out trivial
            have q0 := cell_at b5 0
            have q1 := cell_at b5 1
            have q2 := cell_at b5 2
            simp only [List.getElem?_toArray, List.getElem?_cons_zero, List.getElem?_cons_succ] at q0 q1 q2
            clear k5 dd5 b5
            go_wp2_with fail
            have kd : Same w5 w5.drew := Keeps.drew (Keeps.refl (fun _ => True) w5)
            refine wp_region_plan (.take 0 (.take 1 (.take 2 (.take 3 (.take 4 (.take 5 (.take 6 (.take 7 (.take 9 (.one 8 (.one 10 (.take 11 (.take 12 (.one 13 (.take 14 (.take 15 .done)))))))))))))))) (Same w5) (by kernel_rfl) (by kernel_rfl) kd ?_
            iterate 9
              (apply pl_take
               case ho => rfl
               case hw => rfl
               case hv =>
                 intro w' hw'
                 have z0 := Keeps.cell hw' q0 trivial
                 have z1 := Keeps.cell hw' q1 trivial
                 have z2 := Keeps.cell hw' q2 trivial
                 go_simp
                 exact rfl
               go_simp)
            refine pl_one (up_do rfl rfl fun K hK1 => ?_)
            go_simp
            refine dfaTo (D5.out.same kd) ?_; rintro e w6 u6 rfl o6 k6
            have A6 := hide (o6.auto HOK.out)
            obtain ⟨_, _, rfl, _, _⟩ := o6
            refine hK1 (Same w5) _ _ (kd.tr k6) (fun _ h => h) ?_
            clear hK1 K
            refine pl_one (up_do rfl rfl fun K hK1 => ?_)
            go_simp
            refine refSameA A6.out (HA.out.same ((HK3.out.tr HK5.out).tr (kd.tr k6))) ?_; rintro e w7 rfl k7
            refine hK1 (Same w5) _ _ ((kd.tr k6).tr k7) (fun _ h => h) ?_
            clear hK1 K
            iterate 2
              (apply pl_take
               case ho => rfl
               case hw => rfl
               case hv => intro w' hw'; go_simp; exact rfl
               go_simp)
            refine pl_one (up_do rfl rfl fun K hK1 => ?_)
            go_simp
            refine known23 ?_; rintro e w8 rfl k8
            have HK8 := hide ((kd.tr k6).tr (k7.tr k8))
            refine hK1 (Same w5) _ _ HK8.out (fun _ h => h) ?_
            clear hK1 K
            iterate 2
              (apply pl_take
               case ho => rfl
               case hw => rfl
               case hv => intro w' hw'; go_simp; exact rfl
               go_simp)
            refine pl_done ?_
            go_wp2_with fail
            exact HR.out _ _ rfl (((HK3.out.tr HK5.out).tr HK8.out).mono fun _ _ _ => trivial)
      · have HNO := hide hyes
        clear hyes
        refine trackTurnNot D2.out (HV.out.same HK2.out) HNO.out ?_; rintro e w3 rfl k3
        have HK3 := hide (HK2.out.tr k3)
        clear k3
        go_wp2_with fail
        refine known23 ?_; rintro e w8 rfl k8
        go_wp2_with fail
        exact HR.out _ _ rfl ((HK3.out.tr k8).mono fun _ _ _ => trivial)

end Go.Proofs.Ytgpbjjnfccalbaa
