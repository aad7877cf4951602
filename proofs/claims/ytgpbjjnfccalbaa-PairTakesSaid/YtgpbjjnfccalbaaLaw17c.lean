/- The walk of PairTakes. -/
import Derived.Test.YtgpbjjnfccalbaaLaw17b
namespace Go.Proofs.Ytgpbjjnfccalbaa
open Go.RowKit

attribute [local irreducible] wpQuiet wpPlan wpUp

variable {R : Ending → World → Prop} {w : World} {a T : Nat} {L : List Nd}

/-- There is one at each letter. -/
theorem pair_total {G : Int → Int → Option Int} (h : WF T L) {x y : Nat} {f g z : List Int} {r : Int} (hfx : ∀ c, c < 2 ^ T → val L x c = f.getD c 0) (hgy : ∀ c, c < 2 ^ T → val L y c = g.getD c 0)
    (hG : ∀ c, c < 2 ^ T → G (f.getD c 0) (g.getD c 0) = some (z.getD c 0)) (ha : PairAns L G x y r) : ∃ j : Nat, r = j ∧ j < L.length ∧ ∀ c, c < 2 ^ T → val L j c = z.getD c 0 := by
  rcases ha with ⟨j, rfl, hj, _, hv⟩ | ⟨rfl, c, hc⟩
  · refine ⟨j, rfl, hj, fun c hc => ?_⟩
    have := hv c
    rw [hfx c hc, hgy c hc, hG c hc] at this
    exact (Option.some.inj this).symm
  · exfalso
    rw [← val_mod h c x, ← val_mod h c y] at hc
    have hlt := Nat.mod_lt c (Nat.pow_pos (n := T) (show 0 < 2 by decide))
    rw [hfx _ hlt, hgy _ hlt, hG _ hlt] at hc
    cases hc

/-- Two rows of values made, one behind the other. -/
theorem of_two_yes (h6 : T ≤ 6) (f g : List Int) (hl : f.length = 2 ^ T) (hgl : g.length = 2 ^ T) (hf : f.all isVal = true) (hg : g.all isVal = true) :
    ∃ (x y : Nat) (L1 L2 : List Nd), OfA T [] f = (L1, (x : Int)) ∧ OfA T L1 g = (L2, (y : Int)) ∧ WF T L1 ∧ WF T L2 ∧ L1 <+: L2 ∧ x < L1.length ∧ y < L2.length ∧ L1.length ≤ 127 ∧ L2.length ≤ 254 ∧
      (∀ c, c < 2 ^ T → val L2 x c = f.getD c 0) ∧ ∀ c, c < 2 ^ T → val L2 y c = g.getD c 0 := by
  rcases of_two h6 f g hl hgl with ⟨x, y, L1, L2, e1, e2, w1, w2, p, hx, hy, n1, n2, _, _, v1, v2⟩ | ⟨i, j, L1, L2, e1, e2, hij, n1, n2⟩
  · exact ⟨x, y, L1, L2, e1, e2, w1, w2, p, hx, hy, n1, n2, v1, v2⟩
  · exfalso
    obtain ⟨x, hx, _⟩ := OfA_made (WF.nil h6) hl hf
    have h1 := hx.num
    rw [e1] at h1
    obtain ⟨y, hy, _⟩ := OfA_made hx.wf hgl hg
    have h2 := hy.num
    rw [show (OfA T [] f).1 = L1 by rw [e1], e2] at h2
    simp only at h1 h2
    omega

def zRow (T : Nat) (f g : List Int) : List Int := (List.range (2 ^ T)).map fun c => f.getD c 0 * 10 + g.getD c 0

theorem zRow_get (f g : List Int) {c : Nat} (hc : c < 2 ^ T) : (zRow T f g).getD c 0 = f.getD c 0 * 10 + g.getD c 0 := by
  unfold zRow
  rw [List.getD_eq_getElem?_getD, List.getElem?_map, List.getElem?_range hc]
  rfl

def digs (h : Nat → Int) (m : Nat) : List Int := (List.range m).map h

theorem digs_succ (h : Nat → Int) (m : Nat) : digs h (m + 1) = digs h m ++ [h m] := by unfold digs; rw [List.range_succ, List.map_append]; rfl

theorem digs_bounds (h : Nat → Int) (hb : ∀ i, i < 100 → 0 ≤ h i ∧ h i ≤ 9) : ∀ x ∈ digs h 100, InI64 x := fun x hx => by
  obtain ⟨i, hi, rfl⟩ := List.mem_map.1 hx
  have := hb i (List.mem_range.1 hi)
  unfold InI64; omega

theorem mapG_digs (h : Nat → Int) (hb : ∀ i, i < 100 → 0 ≤ h i ∧ h i ≤ 9) {z y : Int} (h0 : 0 ≤ z) (h1 : z ≤ 99) : mapG (digs h 100) z y = some (h z.toNat) := by
  have h2 : z.toNat < 100 := by omega
  unfold mapG digs
  rw [List.getElem?_map, List.getElem?_range h2, Option.map_some]
  simp only
  have := hb _ h2
  rw [if_pos (by simp [isVal]; omega)]

set_option maxRecDepth 10000 in
set_option maxHeartbeats 1000000 in
theorem pairTakesWalk (t : Int) (vf : Value) (f : List Int) (vg : Value) (g : List Int) (w : World) (ht : InI64 t) (hf : IntsAt w vf f) (hg : IntsAt w vg g) :
    Calls Try.prog 7 #[.int .i64 t, vf, vg] w fun e w' => e = .returned (.bool true) ∧ Below w.heap.size w w' := by
  refine law_of fun R HR => ?_
  have HF := hide hf
  have HG := hide hg
  have HLF := hide hf.lt
  have HLG := hide hg.lt
  obtain ⟨fa, fc, rfl, hf1, hf2, hfcell⟩ := hf.open
  obtain ⟨ga, gc, rfl, hg1, hg2, hgcell⟩ := hg.open
  have HFC := hide hfcell
  have HGC := hide hgcell
  unfold maxLen at hf2 hg2
  clear hf hg hfcell hgcell
  by_cases hm : 0 ≤ t ∧ t ≤ 6 ∧ f.length = 2 ^ t.toNat ∧ g.length = f.length
  case neg =>
    have hd := decide_eq_false hm
    clear hm
    go_enter Try.func7, Try.ntmps7
    go_wp2_with fail
    refine may17 HF.out HG.out ht ?_; rw [hd]; rintro e rfl
    go_wp2_with fail
    exact HR.out _ _ rfl (Keeps.refl _ _)
  have hd := decide_eq_true hm
  obtain ⟨h0, h6, hl, hgl⟩ := hm
  obtain ⟨T, rfl⟩ := Int.eq_ofNat_of_zero_le h0
  rw [Int.toNat_natCast] at hl
  have HT6 : Hid (T ≤ 6) := hide (by omega)
  have H1 : Hid (0 < f.length ∧ f.length ≤ 64) := hide ⟨by rw [hl]; exact Nat.pow_pos (by decide), by rw [hl]; exact two_le HT6.out⟩
  have H06 := hide (And.intro h0 h6)
  have HTI := hide ht
  have HL := hide (And.intro hl hgl)
  have HD := hide hd
  clear h0 h6 hl hgl hd ht
  go_enter Try.func7, Try.ntmps7
  go_wp2_with fail
  refine may17 HF.out HG.out HTI.out ?_; rw [HD.out]; rintro e rfl
  go_wp2_with fail
  go_loopw [7] (fun i wr => ∃ k : Nat, i = .int .i64 k ∧ k ≤ f.length ∧ Hid (∀ i, i < k → (0 ≤ f.getD i 0 ∧ f.getD i 0 ≤ 9) ∧ 0 ≤ g.getD i 0 ∧ g.getD i 0 ≤ 9) ∧ Same w wr) (fun i _ => f.length - (intOf i).toNat)
  case atStart => exact ⟨0, rfl, Nat.zero_le _, hide (fun i hi => absurd hi (Nat.not_lt_zero _)), Keeps.refl _ _⟩
  case round =>
    obtain ⟨k, rfl, hk, hall, hK⟩ := hrel
    by_cases hlt : k < f.length
    · have hlt2 : k < g.length := by rw [HL.out.2]; exact hlt
      obtain ⟨bl, off, rfl, _, hcl⟩ := HFC.out k hlt
      obtain ⟨bl2, off2, rfl, _, hcl2⟩ := HGC.out k hlt2
      have hck := Keeps.cell hK (hcl k hlt) trivial
      have hdk := Keeps.cell hK (hcl2 k hlt2) trivial
      have HX := hide (And.intro (show f.getD k 0 = f[k] by simp [List.getD, List.getElem?_eq_getElem hlt]) (show g.getD k 0 = g[k] by simp [List.getD, List.getElem?_eq_getElem hlt2]))
      have HK := hide hK
      generalize f[k] = x at hck HX
      generalize g[k] = y at hdk HX
      clear hcl hcl2 hK
      by_cases hx : 0 ≤ x ∧ x ≤ 9 ∧ 0 ≤ y ∧ y ≤ 9
      · have HXX := hide hx
        obtain ⟨hx0, hx1, hy0, hy1⟩ := hx
        go_wp2_with fail
        (try go_quiet (fail))
        (try go_wp2_with fail)
        go_roundw
        case rel =>
          refine ⟨k + 1, by go_num, by omega, hide (fun i hi => ?_), by first | exact HK.out | exact HK.out.drewN _⟩
          by_cases e : i = k
          · subst e; rw [HX.out.1, HX.out.2]; have := HXX.out; omega
          · exact hall.out i (by omega)
        case measure => simp [intOf]; omega
      · have HF0 : Hid (∀ w1, Same w w1 → R (.returned (.bool true)) w1) := hide fun w1 k1 => HR.out _ _ rfl (k1.mono fun _ _ _ => trivial)
        by_cases h1 : x < 0
        · go_wp2_with fail
          exact HF0.out _ HK.out
        · by_cases h2 : 9 < x
          · go_wp2_with fail
            exact HF0.out _ HK.out
          · by_cases h3 : y < 0
            · go_wp2_with fail
              exact HF0.out _ HK.out
            · have h4 : 9 < y := by omega
              go_wp2_with fail
              exact HF0.out _ HK.out
    · obtain rfl : k = f.length := by omega
      have hfd : ∀ c, c < 2 ^ T → (0 ≤ f.getD c 0 ∧ f.getD c 0 ≤ 9) ∧ 0 ≤ g.getD c 0 ∧ g.getD c 0 ≤ 9 := fun c hc => hall.out c (by rw [HL.out.1]; exact hc)
      have hfv : f.all isVal = true := by
        rw [List.all_eq_true]
        intro z hz
        obtain ⟨i, hi, rfl⟩ := List.getElem_of_mem hz
        have := (hall.out i hi).1
        rw [show f.getD i 0 = f[i] by simp [List.getD, List.getElem?_eq_getElem hi]] at this
        simp [isVal]; omega
      have hgv : g.all isVal = true := by
        rw [List.all_eq_true]
        intro z hz
        obtain ⟨i, hi, rfl⟩ := List.getElem_of_mem hz
        have := (hall.out i (by rw [← HL.out.2]; exact hi)).2
        rw [show g.getD i 0 = g[i] by simp [List.getD, List.getElem?_eq_getElem hi]] at this
        simp [isVal]; omega
      have HFD := hide hfd
      have HFV := hide (And.intro hfv hgv)
      clear hfd hfv hgv hall
      go_wp2_with fail
      refine storeNew (T : Int) H06.out.1 H06.out.2 ?_; rintro e w1 s rfl s1 k1 f1
      rw [Int.toNat_natCast] at s1
      obtain ⟨B, hBs⟩ : ∃ B, B = w1.heap.size := ⟨_, rfl⟩
      have HBS := hide hBs
      have F1 := hide f1
      have K1 := hide (hK.tr k1)
      have HS1 := hide s1
      have SZ := hide (show w.heap.size ≤ wr.heap.size from hK.size)
      clear f1 k1 s1 hBs hK
      go_wp2_with fail
      go_loopw [9, 10, 11] (fun u v i wr => ∃ m : Nat, i = .int .i64 m ∧ m ≤ 100 ∧ OwnInts wr B u (digs (fun i => (i : Int) / 10) m) ∧ OwnInts wr B v (digs (fun i => (i : Int) % 10) m) ∧ (∀ b, u.ownBlock = some b → v.ownBlock ≠ some b) ∧ Same w1 wr) (fun _ _ i _ => 100 - (intOf i).toNat)
      case atStart => exact ⟨0, rfl, Nat.zero_le _, World.ownsRow_nil _ _ _ _, World.ownsRow_nil _ _ _ _, by intro b hb; simp [Value.ownBlock] at hb, Keeps.refl _ _⟩
      case round =>
        obtain ⟨m, rfl, hm, hu, hv, huv, hK⟩ := hrel
        obtain ⟨ua, uc, rfl⟩ := hu.shape
        obtain ⟨va, vc, rfl⟩ := hv.shape
        by_cases hlt : m < 100
        · have hlu : (digs (fun i => (i : Int) / 10) m).length = m := by simp [digs]
          have hlv : (digs (fun i => (i : Int) % 10) m).length = m := by simp [digs]
          have hq : Int.tdiv (m : Int) 10 = (m : Int) / 10 := Int.tdiv_eq_ediv_of_nonneg (by omega)
          have hr0 : Int.tmod (m : Int) 10 = (m : Int) % 10 := Int.tmod_eq_emod_of_nonneg (by omega)
          obtain ⟨g1, cap1, w2, hr1, hu2, hk2, hg1, _⟩ := append_one (P := Try.prog) wr 26 26 3 Try.underlying26 int_info rfl hu (by rw [HBS.out]; exact hK.size) (.int .i64 ((m : Int) / 10)) rfl (by rw [hlu]; omega) (by decide)
          have hv2 := hv.keep hk2 fun b hb e => huv b e hb
          have hsz2 : B ≤ w2.heap.size := by rw [HBS.out]; exact Nat.le_trans hK.size hk2.size
          obtain ⟨g2, cap2, w3, hr2, hv3, hk3, hg2, _⟩ := append_one (P := Try.prog) w2 26 26 3 Try.underlying26 int_info rfl hv2 hsz2 (.int .i64 ((m : Int) % 10)) rfl (by rw [hlv]; omega) (by decide)
          have hgne : (Value.slice va (digs (fun i => (i : Int) % 10) m).length vc).ownBlock ≠ some g1 := fun e => by
            rcases hg1 with h | h
            · exact huv _ h e
            · have := (hv.lt _ e).2; omega
          have hu2' : OwnInts w2 B (.slice (some ⟨g1, 0, none⟩) ((digs (fun i => (i : Int) / 10) m).length + 1) cap1) (digs (fun i => (i : Int) / 10) (m + 1)) := by
            unfold OwnInts; rw [digs_succ]; simpa using hu2
          have hv3' : OwnInts w3 B (.slice (some ⟨g2, 0, none⟩) ((digs (fun i => (i : Int) % 10) m).length + 1) cap2) (digs (fun i => (i : Int) % 10) (m + 1)) := by
            unfold OwnInts; rw [digs_succ]; simpa using hv3
          have hu3 := hu2'.keep hk3 fun b hb => by simp [Value.ownBlock] at hb; subst hb; exact hgne
          have hgg : g1 ≠ g2 := fun e => by
            subst e
            rcases hg2 with h | h
            · exact hgne h
            · have := (hu2'.lt g1 (by simp [Value.ownBlock])).2; omega
          have hK3 : Same w1 w3 := by
            refine (hK.trans hk2 fun x hx _ => ⟨trivial, fun e => ?_⟩).trans hk3 fun x hx _ => ⟨trivial, fun e => ?_⟩
            · have := (hu.lt x e).1; rw [HBS.out] at this; omega
            · have := (hv2.lt x e).1; rw [HBS.out] at this; omega
          have HO := hide (And.intro hu3 (And.intro hv3' (And.intro hgg hK3)))
          rw [hlu] at hr1
          rw [hlv] at hr2
          rw [hlu, hlv]  at HO
          rw [hlu, hlv]
          clear hu hv hu2 hu2' hv2 hv3 hv3' hk2 hk3 hK hK3 hu3 hgg hgne huv hg1 hg2 hlu hlv
          go_wp2_with (at_builtin; first | (refine wpList_append_run rfl _ _ _ rfl rfl rfl hr1 ?_; clear hr1) | (refine wpList_append_run rfl _ _ _ rfl rfl rfl hr2 ?_; clear hr2))
          go_roundw
          case rel => exact ⟨m + 1, by go_num, by omega, HO.out.1, HO.out.2.1, by intro b hb; simp [Value.ownBlock] at hb ⊢; intro e; exact HO.out.2.2.1 (hb.trans e.symm), HO.out.2.2.2⟩
          case measure => simp [intOf]; omega
        · obtain rfl : m = 100 := by omega
          have hb1 : ∀ i, i < 100 → 0 ≤ (fun i : Nat => (i : Int) / 10) i ∧ (fun i : Nat => (i : Int) / 10) i ≤ 9 := fun i hi => by simp only; omega
          have hb2 : ∀ i, i < 100 → 0 ≤ (fun i : Nat => (i : Int) % 10) i ∧ (fun i : Nat => (i : Int) % 10) i ≤ 9 := fun i hi => by simp only; omega
          have HM1 := hide fun z y h0 h1 => mapG_digs (fun i => (i : Int) / 10) hb1 (z := z) (y := y) h0 h1
          have HM2 := hide fun z y h0 h1 => mapG_digs (fun i => (i : Int) % 10) hb2 (z := z) (y := y) h0 h1
          have HI1 := hide (hu.ints (digs_bounds _ hb1))
          have HI2 := hide (hv.ints (digs_bounds _ hb2))
          have HU := hide hu
          have HB1 := hide (digs_bounds _ hb1)
          have HB2 := hide (digs_bounds _ hb2)
          have HV := hide hv
          rw [show (digs (fun i => (i : Int) / 10) 100).length = 100 from rfl, show (digs (fun i => (i : Int) % 10) 100).length = 100 from rfl] at *
          have hK3 := hide hK
          clear hu hv huv hK
          obtain ⟨x, y, L1, L2, e1, e2, wf1, wf2, p12, hx, hy, n1, n2, vx, vy⟩ := of_two_yes HT6.out f g HL.out.1 (HL.out.2.trans HL.out.1) HFV.out.1 HFV.out.2
          have E1 := hide e1
          have E2 := hide e2
          have HVXY := hide (And.intro vx vy)
          have hx2 : x < L2.length := Nat.lt_of_lt_of_le hx p12.length_le
          have N1 := hide n1
          have N2 := hide n2
          have s3 := HS1.out.same hK3.out
          have K3 : Hid (Keeps (· < w.heap.size) w _) := hide ((K1.out.tr hK3.out).mono fun _ _ _ => trivial)
          have F3 := hide (fun z hz => Nat.le_trans SZ.out (HS1.out.foot hK3.out F1.out z hz))
          clear e1 e2 vx vy n1 n2 wf1 wf2 p12
          go_wp2_with fail
          refine storeOfC s3 (HF.out.keep K3.out HLF.out) (Apart.old F3.out HLF.out K3.out.size) (by decide) ?_; rw [E1.out]; rintro e w4 rfl s4 g4
          have K4 := hide (K3.out.tr (g4.below F3.out))
          have F4 := hide (g4.footB F3.out K3.out.size)
          have U4 := hide (HU.out.grew s3 g4)
          have V4 := hide (HV.out.grew s3 g4)
          clear s3 g4
          simp only [] at s4 ⊢
          go_wp2_with fail
          refine storeOfC s4 (HG.out.keep K4.out HLG.out) (Apart.old F4.out HLG.out K4.out.size) (by have := N1.out; (try simp only); omega) ?_; rw [E2.out]; rintro e w5 rfl s5 g5
          have K5 := hide (K4.out.tr (g5.below F4.out))
          have F5 := hide (g5.footB F4.out K4.out.size)
          have U5 := hide (U4.out.grew s4 g5)
          have V5 := hide (V4.out.grew s4 g5)
          clear s4 g5
          simp only [] at s5 ⊢
          go_wp2_with fail
          refine pairBoth s5 x y 10 (by have := N2.out; (try simp only); omega) ?_; rintro e w6 r6 L6 rfl s6 g6 a6
          have hb10 : ∀ c, c < 2 ^ T → bothG 10 (f.getD c 0) (g.getD c 0) = some ((zRow T f g).getD c 0) := fun c hc => by
            have := HFD.out c hc
            rw [zRow_get f g hc]
            unfold bothG
            rw [if_pos (by omega)]
          have wf5 := s5.wf
          have wf6 := s6.wf
          obtain ⟨j, rfl, hj, hjv⟩ := pair_total wf6 (fun c hc => (val_prefix wf5 wf6 a6.1 c x hx2).trans (HVXY.out.1 c hc)) (fun c hc => (val_prefix wf5 wf6 a6.1 c y hy).trans (HVXY.out.2 c hc)) hb10 (a6.yes hx2 hy (by decide) (by decide))
          have HZ : Hid (∀ c, c < 2 ^ T → 0 ≤ (zRow T f g).getD c 0 ∧ (zRow T f g).getD c 0 ≤ 99 ∧
              (zRow T f g).getD c 0 / 10 = f.getD c 0 ∧ (zRow T f g).getD c 0 % 10 = g.getD c 0) := hide fun c hc => by
            have := HFD.out c hc
            rw [zRow_get f g hc]
            omega
          have N6 : Hid (L6.length ≤ 400) := hide (by have := a6.2.1; have := N2.out; omega)
          generalize (zRow T f g) = z at hjv HZ
          have HJV := hide hjv
          have K6 := hide (K5.out.tr (g6.below F5.out))
          have F6 := hide (g6.footB F5.out K5.out.size)
          have U6 := hide (U5.out.grew s5 g6)
          have V6 := hide (V5.out.grew s5 g6)
          clear s5 g6 a6 hb10 hjv wf5
          go_wp2_with fail
          refine pairMap s6 j (U6.out.ints HB1.out) (fun b hb => (U6.out.apart s6 b hb).1) (by have := N6.out; omega) ?_; rintro e w7 r7 L7 rfl s7 g7 a7
          have wf7 := s7.wf
          obtain ⟨k1, rfl, hk1, hk1v⟩ := pair_total (z := f) wf7 (fun c hc => (val_prefix wf6 wf7 a7.1 c j hj).trans (HJV.out c hc)) (fun c hc => (val_prefix wf6 wf7 a7.1 c j hj).trans (HJV.out c hc))
            (fun c hc => by
              obtain ⟨z0, z1, z2, z3⟩ := HZ.out c hc
              rw [HM1.out _ _ z0 z1, Int.toNat_of_nonneg z0, z2]) (a7.yes hj)
          have hof := OfA_have wf7 HL.out.1 HFV.out.1 hk1 hk1v
          have OF := hide hof
          have N7 : Hid (L7.length ≤ 600) := hide (by have := a7.2.1; have := N6.out; omega)
          have HJ7 : Hid (j < L7.length ∧ ∀ c, c < 2 ^ T → val L7 j c = z.getD c 0) := hide ⟨Nat.lt_of_lt_of_le hj a7.1.length_le, fun c hc => (val_prefix wf6 wf7 a7.1 c j hj).trans (HJV.out c hc)⟩
          have K7 := hide (K6.out.tr (g7.below F6.out))
          have F7 := hide (g7.footB F6.out K6.out.size)
          have V7 := hide (V6.out.grew s6 g7)
          clear s6 g7 a7 hof hk1v wf6
          go_wp2_with fail
          refine storeOfC s7 (HF.out.keep K7.out HLF.out) (Apart.old F7.out HLF.out K7.out.size) (by have := N7.out; omega) ?_; rw [OF.out]; rintro e w8 rfl s8 g8
          have hkk : ((k1 : Int) == (k1 : Int)) = true := by simp
          have K8 := hide (K7.out.tr (g8.below F7.out))
          have F8 := hide (g8.footB F7.out K7.out.size)
          have V8 := hide (V7.out.grew s7 g8)
          clear s7 g8
          simp only [] at s8 ⊢
          go_wp2_with fail
          clear hkk
          refine pairMap s8 j (V8.out.ints HB2.out) (fun b hb => (V8.out.apart s8 b hb).1) (by have := N7.out; (try simp only); omega) ?_; rintro e w9 r9 L9 rfl s9 g9 a9
          have wf8 := s8.wf
          have wf9 := s9.wf
          (try simp only [] at a9 wf8)
          obtain ⟨k2, rfl, hk2, hk2v⟩ := pair_total (z := g) wf9 (fun c hc => (val_prefix wf8 wf9 a9.1 c j HJ7.out.1).trans (HJ7.out.2 c hc)) (fun c hc => (val_prefix wf8 wf9 a9.1 c j HJ7.out.1).trans (HJ7.out.2 c hc))
            (fun c hc => by
              obtain ⟨z0, z1, z2, z3⟩ := HZ.out c hc
              rw [HM2.out _ _ z0 z1, Int.toNat_of_nonneg z0, z3]) (a9.yes HJ7.out.1)
          have hof := OfA_have wf9 (HL.out.2.trans HL.out.1) HFV.out.2 hk2 hk2v
          have OG := hide hof
          have N9 : Hid (L9.length ≤ 800) := hide (by have := a9.2.1; have := N7.out; omega)
          have K9 := hide (K8.out.tr (g9.below F8.out))
          have F9 := hide (g9.footB F8.out K8.out.size)
          clear s8 g9 a9 hof hk2v wf8 wf7
          go_wp2_with fail
          refine storeOfC s9 (HG.out.keep K9.out HLG.out) (Apart.old F9.out HLG.out K9.out.size) (by have := N9.out; omega) ?_; rw [OG.out]; rintro e w10 rfl s10 g10
          have hkk : ((k2 : Int) == (k2 : Int)) = true := by simp
          have K10 := hide (K9.out.tr (g10.below F9.out))
          clear s9 g10 s10
          go_wp2_with fail
          refine known17 ?_; rintro e w11 rfl k11
          go_wp2_with fail
          exact HR.out _ _ rfl (K10.out.tr_same k11)

end Go.Proofs.Ytgpbjjnfccalbaa
