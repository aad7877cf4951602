/- The walk of TrackNew. -/
import Derived.Test.YtameihkcajceeaaLaw23
import Derived.Test.YtameihkcajceeaaRun19
namespace Go.Proofs.Ytameihkcajceeaa
open Go.RowKit

attribute [local irreducible] wpQuiet wpPlan wpPlanZ wpUp

variable {R : Ending → World → Prop} {w : World} {A : Au}

/-- A letter with a track more. -/
def cw (t x : Nat) (b : Bool) : Nat := (x % 2 ^ t ||| (x - x % 2 ^ t) * 2) ||| (if b then 2 ^ t else 0)

theorem wb_cw : ∀ t, t < 6 → ∀ x, x < 32 → ∀ b, wb t (cw t x b) = x := by decide +kernel

theorem cw_lt : ∀ T, T < 6 → ∀ t, t < T + 1 → ∀ x, x < 2 ^ T → ∀ b, cw t x b < 2 ^ (T + 1) := by decide +kernel

theorem new_val {t x : Nat} (ht : t ≤ 5) (hx : x < 32) : ∃ lo hi : Nat, bits .and .i64 (x : Int) (wrap64 (wrap64 ((2 : Int) ^ t) - 1)) = (lo : Int) ∧ wrap64 (wrap64 ((x : Int) - (lo : Int)) * 2) = (hi : Int) ∧
    bits .or .i64 (lo : Int) (hi : Int) = ((cw t x false : Nat) : Int) ∧ bits .or .i64 ((cw t x false : Nat) : Int) (wrap64 ((2 : Int) ^ t)) = ((cw t x true : Nat) : Int) := by
  have h64 := two_le (T := t) (by omega)
  have h1 : 0 < 2 ^ t := Nat.pow_pos (by decide)
  have hc0 : cw t x false < 2 ^ 63 := Nat.lt_of_lt_of_le (cw_lt 5 (by decide) t (by omega) x hx false) (by decide)
  have hlt : x % 2 ^ t ≤ x := Nat.mod_le _ _
  refine ⟨x % 2 ^ t, (x - x % 2 ^ t) * 2, ?_, ?_, ?_, ?_⟩
  · rw [wrap_two (by omega), ← mask_of (by omega : x < 64) (by omega : t ≤ 6)]
    congr 1
    generalize 2 ^ t = p at h64
    exact IntWalk.wrap64_in _ (by omega)
  · generalize x % 2 ^ t = lo at hlt
    rw [IntWalk.wrap64_in ((x : Int) - lo) (by omega), IntWalk.wrap64_in _ (by omega)]
    omega
  · rw [i64_or_nat _ _ (by omega) (by omega)]
    unfold cw
    simp
  · rw [wrap_two (by omega), i64_or_nat _ _ hc0 (by omega)]
    unfold cw
    simp

/-- The word with a track more. -/
def cwL (t : Nat) (l : List Int) (bs : List Bool) (k : Nat) : List Int := (List.range k).map fun j => ((cw t (l.getD j 0).toNat (bs.getD j false) : Nat) : Int)

theorem cwL_succ (t : Nat) (l : List Int) (bs : List Bool) (k : Nat) : cwL t l bs (k + 1) = cwL t l bs k ++ [((cw t (l.getD k 0).toNat (bs.getD k false) : Nat) : Int)] := by
  unfold cwL; rw [List.range_succ, List.map_append]; rfl

theorem step_turn {T' : Nat} {g : Nat → Nat} (hok : AuOk A) {s : Int} {c : Nat} (hc : c < 2 ^ T') (hg : g c < 2 ^ A.T.toNat) : stepA (turnAu A T' g) s c = stepA A s (g c) := by
  unfold stepA
  have hin : inA (turnAu A T' g) s = inA A s := rfl
  rw [hin]
  by_cases hs : inA A s = true
  · rw [if_pos ⟨hs, by omega, by simpa [turnAu] using (by exact_mod_cast hc : (c : Int) < 2 ^ T')⟩, if_pos ⟨hs, by omega, by exact_mod_cast hg⟩]
    have hs2 : 0 ≤ s ∧ s < (A.acc.length : Int) := by simpa [inA] using hs
    have hn : s.toNat < A.next.length := by have := hok.1.2.2.2.2; omega
    have e1 : (turnAu A T' g).next.getD s.toNat [] = turnRow (2 ^ T') g A.next[s.toNat] := by simp [turnAu, List.getD, List.getElem?_eq_getElem hn]
    have e2 : (turnRow (2 ^ T') g A.next[s.toNat]).getD c 0 = (A.next[s.toNat]).getD (g c) 0 := by
      unfold turnRow
      rw [List.getD_eq_getElem?_getD, List.getElem?_map, List.getElem?_range hc]
      rfl
    rw [e1, Int.toNat_natCast, Int.toNat_natCast, e2, show A.next.getD s.toNat [] = A.next[s.toNat] by simp [List.getD, List.getElem?_eq_getElem hn]]
  · rw [if_neg (fun h => hs h.1), if_neg (fun h => hs h.1)]

theorem runA_snoc (A : Au) (l : List Int) (x : Int) : runA A (l ++ [x]) = stepA A (runA A l) x := by simp [runA, List.foldl_append]

theorem cwL_bounds {T t : Nat} (h5 : T < 6) (ht : t < T + 1) {l : List Int} {bs : List Bool} {k : Nat} (hl : ∀ j, j < k → 0 ≤ l.getD j 0 ∧ l.getD j 0 < ((2 ^ T : Nat) : Int)) : ∀ x ∈ cwL t l bs k, InI64 x := fun x hx => by
  obtain ⟨j, hj, rfl⟩ := List.mem_map.1 hx
  have hj := hl j (List.mem_range.1 hj)
  have hlt : (l.getD j 0).toNat < 2 ^ T := by omega
  have := cw_lt T h5 t ht _ hlt (bs.getD j false)
  have h64 := two_le (T := T + 1) (by omega)
  unfold InI64; omega

/-- The track more does not matter. -/
theorem run_new {T t : Nat} (hok : AuOk A) (hT : A.T = (T : Int)) (h5 : T < 6) (ht : t < T + 1) {l : List Int} {bs : List Bool} (hl : ∀ j, j < l.length → 0 ≤ l.getD j 0 ∧ l.getD j 0 < ((2 ^ T : Nat) : Int)) :
    ∀ k, k ≤ l.length → runA (turnAu A (T + 1) (wb t)) (cwL t l bs k) = runA A (l.take k)
  | 0, _ => by simp [cwL, runA]
  | k + 1, hk => by
    have hk' : k < l.length := by omega
    have hx := hl k hk'
    rw [cwL_succ, runA_snoc, run_snoc hk', run_new hok hT h5 ht hl k (by omega)]
    have e : l.getD k 0 = l[k] := by simp [List.getD, List.getElem?_eq_getElem hk']
    rw [e] at hx ⊢
    obtain ⟨x, hxe⟩ := Int.eq_ofNat_of_zero_le hx.1
    rw [hxe] at hx ⊢
    have hx2 : x < 2 ^ T := by exact_mod_cast hx.2
    have h32 : x < 32 := Nat.lt_of_lt_of_le hx2 (Nat.pow_le_pow_right (by decide) (show T ≤ 5 by omega))
    rw [Int.toNat_natCast]
    have hw := wb_cw t (by omega) x h32 (bs.getD k false)
    rw [step_turn hok (cw_lt T h5 t ht x hx2 _) (by rw [hw, hT]; exact hx2), hw]

set_option maxRecDepth 10000 in
set_option maxHeartbeats 1000000 in
theorem trackNewWalk (v : Value) (A : Au) (t : Int) (lv : Value) (l : List Int) (bv : Value) (bs : List Bool) (w : World) (hA : AutoAt w v A) (ht : InI64 t) (hl : IntsAt w lv l) (hb : BoolsAt w bv bs) :
    Calls Try.prog 6 #[v, .int .i64 t, lv, bv] w fun e w' => e = .returned (.bool true) ∧ Below w.heap.size w w' := by
  refine law_of fun R HR => ?_
  have HA := hide hA
  have HT := hide ht
  have HLI := hide hl
  obtain ⟨la, lc, rfl, hl1, hl2, hlcell⟩ := hl.open
  obtain ⟨ba, bc, rfl, hb1, hb2, hbcell⟩ := hb.open
  have HLC := hide hlcell
  have HBC := hide hbcell
  obtain ⟨va, vn, rfl, hacc, hnext, hTb⟩ := hA
  obtain ⟨aa, ac, rfl, _⟩ := hacc.open
  obtain ⟨na, nc, rfl, _⟩ := hnext.open
  have hk : Same w (w.alloc (.cells #[.int .i64 A.T, .slice aa A.acc.length ac, .slice na A.next.length nc] 25)) := (Keeps.refl _ w).alloc _
  have hbox := heap_new w (.cells #[.int .i64 A.T, .slice aa A.acc.length ac, .slice na A.next.length nc] 25)
  have HB := hide hbox
  have HK := hide hk
  unfold maxLen at hl2 hb2
  unfold InI64 at ht
  clear hacc hnext hTb hbox hk hl hb hlcell hbcell
  cases hm : mayB A with
  | false =>
    go_enter Try.func6, Try.ntmps6
    go_wp2_with fail
    refine may23 (HA.out.same HK.out) ?_; rintro e w1 rfl k1
    rw [hm]
    go_wp2_with fail
    exact HR.out _ _ rfl ((HK.out.tr k1).mono fun _ _ _ => trivial)
  | true =>
    have HOK := hide (mayB_ok hm).2.2
    have h0 := HOK.out.1.1
    by_cases hyes : A.T < 6 ∧ 0 ≤ t ∧ t ≤ A.T ∧ l.length ≤ 60
    · obtain ⟨hT6, ht0, htT, hl60⟩ := hyes
      obtain ⟨t, rfl⟩ := Int.eq_ofNat_of_zero_le ht0
      obtain ⟨T, hTT⟩ := Int.eq_ofNat_of_zero_le h0
      have HTT := hide (And.intro hT6 htT)
      have HTE := hide hTT
      have HTN : Hid (T < 6 ∧ t < T + 1) := hide (by omega)
      have HM := hide hm
      have HA2 := hide (show AutoAt w (.agg #[.int .i64 (T : Int), .slice aa A.acc.length ac, .slice na A.next.length nc]) A by rw [← HTE.out]; exact HA.out)
      clear h0 hT6 htT hTT hm
      go_enter Try.func6, Try.ntmps6
      go_wp2_with fail
      refine may23 (HA.out.same HK.out) ?_; rintro e w1 rfl k1
      rw [HM.out]
      have b1 := k1.at HB.out trivial
      have HK1 := hide (HK.out.tr k1)
      clear k1
      have q0 := cell_at b1 0
      have q1 := cell_at b1 1
      have q2 := cell_at b1 2
      simp only [List.getElem?_toArray, List.getElem?_cons_zero, List.getElem?_cons_succ] at q0 q1 q2
      have B1 := hide b1
      rw [HTE.out] at q0
      have hT6 : (T : Int) < 6 := by have := HTN.out.1; omega
      have htT : (t : Int) ≤ (T : Int) := by have := HTN.out.2; omega
      clear b1
      go_wp2_with fail
      clear hT6 htT
      refine of23 (HA2.out.same HK1.out) HOK.out ?_; rintro e w2 d rfl d2 k2
      clear q0 q1 q2
      have HK2 := hide (HK1.out.tr k2)
      have D2 := hide d2
      have b2 := k2.at B1.out trivial
      have B2 := hide b2
      clear k2 d2 b2
      go_wp2_with fail
      refine trackWiden D2.out HTT.out.1 HTT.out.2 ?_; rintro e w3 d3 rfl dd3 k3
      have HK3 := hide (HK2.out.tr k3)
      have D3 := hide dd3
      have B3 := hide (k3.at B2.out trivial)
      clear k3 dd3
      rw [HTE.out, Int.toNat_natCast] at D3
      obtain ⟨B, hBs⟩ : ∃ B, B = w3.heap.size := ⟨_, rfl⟩
      have HBS := hide hBs
      clear hBs
      go_wp2_with fail
      have hsh := shl_u64 (show t ≤ 6 by have := HTN.out; omega)
      have hshT := shl_u64 (show T ≤ 6 by have := HTN.out; omega)
      go_loopw [11, 12] (fun u i wr => ∃ k : Nat, i = .int .i64 k ∧ k ≤ l.length ∧ OwnInts wr B u (cwL t l bs k) ∧ Hid (∀ j, j < k → 0 ≤ l.getD j 0 ∧ l.getD j 0 < ((2 ^ T : Nat) : Int)) ∧ Same w3 wr) (fun _ i _ => l.length - (intOf i).toNat)
      case atStart => exact ⟨0, rfl, Nat.zero_le _, World.ownsRow_nil _ _ _ _, hide (fun j hj => absurd hj (Nat.not_lt_zero _)), Keeps.refl _ _⟩
      case round =>
        obtain ⟨k, rfl, hk, hu, hall, hK⟩ := hrel
        by_cases hlt : k < l.length
        · obtain ⟨bl, off, rfl, _, hcl⟩ := HLC.out k hlt
          have hck := Keeps.cell ((HK3.out).tr hK) (hcl k hlt) trivial
          have b4 := hK.at B3.out trivial
          have q0 := cell_at b4 0
          simp only [List.getElem?_toArray, List.getElem?_cons_zero, List.getElem?_cons_succ] at q0
          rw [HTE.out] at q0
          have HX := hide (show l.getD k 0 = l[k] by simp [List.getD, List.getElem?_eq_getElem hlt])
          generalize l[k] = x at hck HX
          by_cases hx : 0 ≤ x ∧ x < ((2 ^ T : Nat) : Int)
          · have HXX := hide hx
            obtain ⟨x, rfl⟩ := Int.eq_ofNat_of_zero_le hx.1
            obtain ⟨hx0, hx1⟩ := hx
            have hx32 : x < 32 := by
              have : x < 2 ^ T := by exact_mod_cast hx1
              exact Nat.lt_of_lt_of_le this (Nat.pow_le_pow_right (by decide) (show T ≤ 5 by have := HTN.out.1; omega))
            have ht5 : t ≤ 5 := by have := HTN.out; omega
            obtain ⟨lo, hi, hv1, hv2, hv3, hv4⟩ := new_val ht5 hx32
            have hcl : (cwL t l bs k).length = k := by simp [cwL]
            have hsn := cwL_succ t l bs k
            rw [HX.out, Int.toNat_natCast] at hsn
            generalize hc0 : cw t x false = c0 at hv3 hv4
            generalize hc1 : cw t x true = c1 at hv4
            have hall2 : ∀ j, j < k + 1 → 0 ≤ l.getD j 0 ∧ l.getD j 0 < ((2 ^ T : Nat) : Int) := fun j hj => by
              by_cases e : j = k
              · subst e; rw [HX.out]; exact HXX.out
              · exact hall.out j (by omega)
            have HALL := hide hall2
            have hbit : bs.getD k false = true ∨ bs.getD k false = false := by cases bs.getD k false <;> simp
            obtain ⟨ua, uc, rfl⟩ := hu.shape
            have HU := hide hu
            have HKW := hide hK
            have main : ∀ (c nq : Nat), cw t x (bs.getD k false) = c → ∃ gg cap1 w2, (Builtin.append_ #[40, 40] 40 #[.slice ua (cwL t l bs k).length uc, .slice (some ⟨wr.heap.size, 0, none⟩) 1 1]).run Try.prog ((wr.drewN nq).alloc (.cells #[.int .i64 (c : Int)] 3)) = .ok (.slice (some ⟨gg, 0, none⟩) ((cwL t l bs k).length + 1) cap1) w2 ∧
                OwnInts w2 B (.slice (some ⟨gg, 0, none⟩) ((cwL t l bs k).length + 1) cap1) (cwL t l bs (k + 1)) ∧ Same w3 w2 := fun c nq hc => by
              obtain ⟨gg, cap1, w2, hr, hown2, hk2, hg, _⟩ := append_one (P := Try.prog) (wr.drewN nq) 40 40 3 Try.underlying40 int_info rfl (HU.out.same ((Keeps.refl _ _).drewN nq)) (by rw [HBS.out]; exact (HKW.out.drewN nq).size) (.int .i64 (c : Int)) rfl (by rw [hcl]; omega) (by decide)
              refine ⟨gg, cap1, w2, hr, ?_, (HKW.out.drewN nq).trans hk2 fun z hz _ => ⟨trivial, fun e => ?_⟩⟩
              · unfold OwnInts
                rw [hsn, hc]
                simpa using hown2
              · have := (HU.out.lt z e).1
                rw [HBS.out] at this; omega
            rw [hcl] at main ⊢
            have HMAIN := hide main
            have hkb : k < bs.length ∨ bs.length ≤ k := Nat.lt_or_ge _ _
            clear hu hK hcl hsn hall2 hall main
            generalize hpp : 2 ^ T = p at hshT hx1 HALL
            clear hpp
            rcases hkb with hkb | hkb
            · obtain ⟨bb, boff, rfl, _, hbcl⟩ := HBC.out k hkb
              have hbk := Keeps.cell ((HK3.out).tr HKW.out) (hbcl k hkb) trivial
              have hge : bs.getD k false = bs[k] := by simp [List.getD, List.getElem?_eq_getElem hkb]
              rw [hge] at hbit HMAIN
              generalize bs[k] = bv at hbk hbit HMAIN
              clear hbcl hge
              rcases hbit with rfl | rfl
              · have HC := hide hc1
                clear hc0 hc1
                go_wp2_with fail
                go_quiet (fail)
                obtain ⟨gg, cap1, w2, hr, ho2, hk2⟩ := HMAIN.out c1 nq HC.out
                have HF := hide (And.intro ho2 hk2)
                clear ho2 hk2
                go_wp2_with (at_builtin; refine wpList_append_run rfl _ _ _ rfl rfl rfl hr ?_; clear hr)
                go_roundw
                case rel => exact ⟨k + 1, by go_num, by omega, HF.out.1, HALL, HF.out.2⟩
                case measure => simp [intOf]; omega
              · have HC := hide hc0
                clear hc0 hc1
                go_wp2_with fail
                go_quiet (fail)
                obtain ⟨gg, cap1, w2, hr, ho2, hk2⟩ := HMAIN.out c0 nq HC.out
                have HF := hide (And.intro ho2 hk2)
                clear ho2 hk2
                go_wp2_with (at_builtin; refine wpList_append_run rfl _ _ _ rfl rfl rfl hr ?_; clear hr)
                go_roundw
                case rel => exact ⟨k + 1, by go_num, by omega, HF.out.1, HALL, HF.out.2⟩
                case measure => simp [intOf]; omega
            · have hge : bs.getD k false = false := by simp [List.getD, List.getElem?_eq_none hkb]
              rw [hge] at HMAIN
              have HC := hide hc0
              clear hc0 hc1 hge hbit
              go_wp2_with fail
              go_quiet (fail)
              obtain ⟨gg, cap1, w2, hr, ho2, hk2⟩ := HMAIN.out c0 nq HC.out
              have HF := hide (And.intro ho2 hk2)
              clear ho2 hk2
              go_wp2_with (at_builtin; refine wpList_append_run rfl _ _ _ rfl rfl rfl hr ?_; clear hr)
              go_roundw
              case rel => exact ⟨k + 1, by go_num, by omega, HF.out.1, HALL, HF.out.2⟩
              case measure => simp [intOf]; omega
          · generalize hpp : 2 ^ T = p at hshT hx
            have hK0 := hide hK
            clear hpp hu hK hall
            by_cases hx0 : x < 0
            · go_wp2_with fail
              go_quiet (fail)
              go_wp2_with fail
              exact HR.out _ _ rfl (((HK3.out.tr hK0.out).drewN _).mono fun _ _ _ => trivial)
            · have hx1 : (p : Int) ≤ x := by omega
              go_wp2_with fail
              go_quiet (fail)
              go_wp2_with fail
              exact HR.out _ _ rfl (((HK3.out.tr hK0.out).drewN _).mono fun _ _ _ => trivial)
        · obtain rfl : k = l.length := by omega
          have hrun := run_new (bs := bs) HOK.out HTE.out HTN.out.1 HTN.out.2 hall.out l.length (Nat.le_refl _)
          rw [List.take_length] at hrun
          have HRUN := hide hrun
          have HK4 := hide (HK3.out.tr hK)
          have HI4 := hide (hu.ints (cwL_bounds HTN.out.1 HTN.out.2 hall.out))
          have D4 := hide (D3.out.same hK)
          have b4 := hK.at B3.out trivial
          have B4 := hide b4
          obtain ⟨ua, uc, rfl⟩ := hu.shape
          clear hrun hu hK hall b4
          go_wp2_with fail
          refine dfaRun D4.out HI4.out ?_; rintro e w4 rfl k4
          rw [HRUN.out, show accA (turnAu A (T + 1) (wb t)) = accA A from rfl]
          have HK5 := hide (HK4.out.tr k4)
          have b5 := k4.at B4.out trivial
          have q0 := cell_at b5 0
          have q1 := cell_at b5 1
          have q2 := cell_at b5 2
          simp only [List.getElem?_toArray, List.getElem?_cons_zero, List.getElem?_cons_succ] at q0 q1 q2
          clear k4 b5
          go_wp2_with fail
          refine refRun (HA.out.same HK5.out) HOK.out (HLI.out.same HK5.out) ?_; rintro e w5 rfl k5
          have hrr : (runA A l == runA A l) = true := by simp
          have haa : (accA A (runA A l) == accA A (runA A l)) = true := by simp
          have HK6 := hide (HK5.out.tr k5)
          generalize accA A (runA A l) = b at haa
          generalize runA A l = r at hrr
          clear q0 q1 q2 k5
          cases b
          all_goals
            go_wp2_with fail
            refine known23 ?_; rintro e w6 rfl k6
            go_wp2_with fail
            exact HR.out _ _ rfl ((HK6.out.tr k6).mono fun _ _ _ => trivial)
    · have HM := hide hm
      obtain ⟨T, hTT⟩ := Int.eq_ofNat_of_zero_le h0
      have HTE := hide hTT
      have hT6 : T ≤ 6 := by have := HOK.out.1.2.1; omega
      rw [hTT] at hyes
      clear h0 hTT hm
      have start : ∀ R' : World → Prop, (∀ w1, Same w w1 → w1.cell? ⟨w.heap.size, 0, none⟩ = some (.int .i64 (T : Int)) → R' w1) → ∀ w1, Same (w.alloc (.cells #[.int .i64 A.T, .slice aa A.acc.length ac, .slice na A.next.length nc] 25)) w1 → R' w1 := fun R' h w1 k1 => by
        have b1 := k1.at HB.out trivial
        have q0 := cell_at b1 0
        simp only [List.getElem?_toArray, List.getElem?_cons_zero] at q0
        rw [HTE.out] at q0
        exact h w1 (HK.out.tr k1) q0
      have START := hide start
      clear start
      by_cases h1 : 6 ≤ T
      · clear hyes
        go_enter Try.func6, Try.ntmps6
        go_wp2_with fail
        refine may23 (HA.out.same HK.out) ?_; rintro e w1 rfl k1
        rw [HM.out]
        revert w1 k1
        refine START.out _ fun w1 hk1 q0 => ?_
        go_wp2_with fail
        exact HR.out _ _ rfl (hk1.mono fun _ _ _ => trivial)
      · by_cases h2 : t < 0
        · clear hyes
          go_enter Try.func6, Try.ntmps6
          go_wp2_with fail
          refine may23 (HA.out.same HK.out) ?_; rintro e w1 rfl k1
          rw [HM.out]
          revert w1 k1
          refine START.out _ fun w1 hk1 q0 => ?_
          go_wp2_with fail
          exact HR.out _ _ rfl (hk1.mono fun _ _ _ => trivial)
        · by_cases h3 : (T : Int) < t
          · clear hyes
            go_enter Try.func6, Try.ntmps6
            go_wp2_with fail
            refine may23 (HA.out.same HK.out) ?_; rintro e w1 rfl k1
            rw [HM.out]
            revert w1 k1
            refine START.out _ fun w1 hk1 q0 => ?_
            go_wp2_with fail
            exact HR.out _ _ rfl (hk1.mono fun _ _ _ => trivial)
          · have h4 : 60 < l.length := by omega
            clear hyes
            go_enter Try.func6, Try.ntmps6
            go_wp2_with fail
            refine may23 (HA.out.same HK.out) ?_; rintro e w1 rfl k1
            rw [HM.out]
            revert w1 k1
            refine START.out _ fun w1 hk1 q0 => ?_
            go_wp2_with fail
            exact HR.out _ _ rfl (hk1.mono fun _ _ _ => trivial)

end Go.Proofs.Ytameihkcajceeaa
