/- The walk of pair.maker.node. -/
import Derived.Test.YtlaipnobfmfgaaaPairSt
import Derived.Test.YtlaipnobfmfgaaaPkA
namespace Go.Proofs.Ytlaipnobfmfgaaa
open Go.RowKit

variable {a T m mb F : Nat} {caps : Array Value} {G : Int → Int → Option Int} {K : World → Prop}

/-- What a leaf's function answers. -/
def LeafAns (G : Int → Int → Option Int) (x y : Int) (L' : List Nd) (r : Int) : Prop :=
  (∃ v, G x y = some v ∧ ∃ k : Nat, r = (k : Int) ∧ L'[k]? = some (.leaf v)) ∨ (G x y = none ∧ r = -1)

/-- The function value makes leaves by G. -/
def LeafFn (K : World → Prop) (G : Int → Int → Option Int) (a T F : Nat) (caps : Array Value) : Prop :=
  ∀ (w : World) (L : List Nd) (x y : Int) (R : Ending → World → Prop), StoreAt w a T L → K w → isVal x = true → isVal y = true → L.length < 1099511627776 → (∀ w', Grew a w w' → K w') →
    (∀ e w' L' r, e = .returned (.int .i64 r) → StoreAt w' a T L' → Grew a w w' → L <+: L' → L'.length ≤ L.length + 1 → LeafAns G x y L' r → R e w') →
    Calls Try.prog F (#[.int .i64 x, .int .i64 y] ++ caps) w R

theorem leaf_isVal {L : List Nd} {i : Nat} {v : Int} (h : WF T L) (hi : L[i]? = some (.leaf v)) : isVal v = true := by
  have h1 : 0 ≤ v ∧ v ≤ 1099511627776 := h.ok i _ hi
  simpa [isVal] using h1

theorem atA_leaf {L : List Nd} {i : Nat} {v : Int} (hi : L[i]? = some (.leaf v)) : atA T L i 0 = v := by
  have h1 := (List.getElem?_eq_some_iff.1 hi).1
  have h2 : (0 : Int) < 2 ^ T := Int.pow_pos (by decide)
  unfold atA
  rw [if_pos ⟨by omega, by omega, by omega, h2⟩, Int.toNat_natCast]
  exact val_leaf hi

/-- Of two leaves. -/
theorem pair_leaf {L L' : List Nd} {f g : Nat} {x y r : Int} (hf : L[f]? = some (.leaf x)) (hg : L[g]? = some (.leaf y)) (h : LeafAns G x y L' r) (hp : L <+: L') : PairAns L' G f g r := by
  have hf' := get_prefix hp hf
  have hg' := get_prefix hp hg
  rcases h with ⟨v, hv, k, rfl, hk⟩ | ⟨hv, rfl⟩
  · refine .inl ⟨k, rfl, (List.getElem?_eq_some_iff.1 hk).1, fun t _ _ => (by intro u lo hi e; rw [hk] at e; cases e), fun c => ?_⟩
    rw [val_leaf hf', val_leaf hg', val_leaf hk, hv]
  · refine .inr ⟨rfl, 0, ?_⟩
    rw [val_leaf hf', val_leaf hg', hv]

theorem three_cell {w : World} {b : Nat} {x y z : Value} {t : TypeId} (h : w.heap[b]? = some (.cells #[x, y, z] t (0, 0))) : w.cell? ⟨b, 0, none⟩ = some x ∧ w.cell? ⟨b, 1, none⟩ = some y ∧ w.cell? ⟨b, 2, none⟩ = some z := by
  refine ⟨?_, ?_, ?_⟩ <;> simp [cell_at h]

def MkS (mb : Nat) (x y z : Value) (w : World) : Prop := w.heap[mb]? = some (.cells #[x, y, z] 137 (0, 0))

theorem val_lift {L L' : List Nd} {f u a b : Nat} (hw : WF T L) (hw' : WF T L') (hp : L <+: L') (hf : f < L.length) (ha : a < L.length) (hb : b < L.length)
    (h : ∀ c, val L f c = val L (if c.testBit u then b else a) c) : ∀ c, val L' f c = val L' (if c.testBit u then b else a) c := fun c => by
  rw [val_prefix hw hw' hp c f hf, h]
  split
  · rw [val_prefix hw hw' hp c b hb]
  · rw [val_prefix hw hw' hp c a ha]

theorem trackA_prefix {L L' : List Nd} {f : Nat} (hp : L <+: L') (hf : f < L.length) : trackA L' f = trackA L f := by
  have hn := List.getElem?_eq_getElem hf
  rw [trackA_nat hn, trackA_nat (get_prefix hp hn)]

theorem trackA_lt {L : List Nd} {f u : Nat} (hw : WF T L) (hf : f < L.length) (h : trackA L f = (u : Int)) : u < T := by
  obtain ⟨n, hn⟩ : ∃ n, L[f]? = some n := ⟨_, List.getElem?_eq_getElem hf⟩
  have htr := trackA_nat hn
  have ok := hw.ok f _ hn
  cases n with
  | leaf v => rw [h] at htr; simp only [Nd.track] at htr; omega
  | fork t lo hi => rw [h] at htr; simp only [Nd.track] at htr; have := ok.1; omega

set_option maxRecDepth 10000 in
set_option maxHeartbeats 4000000 in
theorem pairNode (hs : SafeK K a m) (hL : LeafFn K G a T F caps) (hM : ∀ w, K w → MkS mb (.pointer (some ⟨a, 0, none⟩)) (.func (.func F) #[] caps) (.map (some m)) w)
    (hcf : ∀ args w, (callFunc F args).run Try.prog w = .ok (.enter F args) w) :
    ∀ (n f g t0 : Nat) (L : List Nd) (A : List ((Int × Int) × Value)) (w : World) (R : Ending → World → Prop), n = f + g → PS K G m a T w L A → f < L.length → g < L.length → From L f t0 → From L g t0 → t0 ≤ T →
      L.length + 2 ^ (T - t0 + 1) ≤ 1099511627776 →
      (∀ e w' r L' A', e = .returned (.int .i64 r) → PS K G m a T w' L' A' → L <+: L' → PairAns L' G f g r → L'.length + 1 ≤ L.length + 2 ^ (T - t0 + 1) → PStep a m w w' → R e w') →
      Calls Try.prog 130 #[.pointer (some ⟨mb, 0, none⟩), .int .i64 f, .int .i64 g] w R := by
  intro n
  induction n using Nat.strongRecOn with
  | ind n ih =>
    intro f g t0 L A w R hn hps hf hg hff hgf ht0 hb hR
    subst hn
    have HR := hide hR
    have IH := hide ih
    have HLF := hide hL
    have HCF := hide hcf
    have HM := hide hM
    have HS := hide hs
    clear hR ih hL hcf hM hs
    have h2p : 2 ≤ 2 ^ (T - t0 + 1) := by rw [Nat.pow_succ]; have := Nat.one_le_two_pow (n := T - t0); omega
    have hst := hps.st
    obtain ⟨q0, q1, q2⟩ := three_cell (HM.out _ hps.hold)
    have hl := run_lookup_at pairKeys Try.underlying135 (int_zero w) hps.map ((f : Int), (g : Int))
    unfold pairV at hl
    simp only [] at hl
    cases hlk : (@List.lookup (Int × Int) Value instBEqOfDecidableEq ((f : Int), (g : Int)) A) with
    | some v =>
      obtain ⟨f', g', r, e, hf', hg', hk'⟩ := hps.memo _ (lookup_mem hlk)
      simp only [Prod.mk.injEq, Int.ofNat_inj] at e
      obtain ⟨⟨rfl, rfl⟩, rfl⟩ := e
      rw [hlk] at hl
      simp only [Option.getD_some, Option.isSome_some] at hl
      have HK := hide (HR.out _ w r L A rfl hps List.prefix_rfl hk' (by omega) (PStep.refl _ _ _))
      clear hlk hk' hps hst
      go_enter Try.func130, Try.ntmps130
      go_wp2_with fail
      exact HK.out
    | none =>
      rw [hlk] at hl
      simp only [Option.getD_none, Option.isSome_none] at hl
      clear hlk
      by_cases htop : topA L f g < 0
      · obtain ⟨x, y, hx, hy⟩ := top_leaves hf hg htop
        have hax := atA_leaf (T := T) hx
        have hay := atA_leaf (T := T) hy
        have vx := leaf_isVal hst.wf hx
        have vy := leaf_isVal hst.wf hy
        have HXY := hide (And.intro hx hy)
        have HPS := hide hps
        clear hx hy hps
        go_enter Try.func130, Try.ntmps130
        go_wp2_with fail
        refine pairTop hst q0 f g ?_; rintro e w1 rfl k1
        have HPS1 := hide (HPS.out.same HS.out k1)
        have HK1 := hide k1
        have b0 := HM.out _ HPS1.out.hold
        obtain ⟨r0, r1, r2⟩ := three_cell b0
        have HB0 := hide b0
        clear hl q0 q1 q2 k1 hst b0
        go_wp2_with fail
        have b0 := HB0.out
        have kd : Same w1 w1.drew := Keeps.drew (Keeps.refl (fun _ => True) w1)
        have hmk1 : MkS mb (.pointer (some ⟨a, 0, none⟩)) (.func (.func F) #[] caps) (.map (some m)) w1.drew := kd.at b0 trivial
        have HMK1 := hide hmk1
        refine wp_region_plan (.take 0 (.take 1 (.take 2 (.take 3 (.take 4 (.take 5 (.take 7 (.take 8 (.one 6 (.one 9 (.one 10 (.take 11 .done)))))))))))) (MkS mb (.pointer (some ⟨a, 0, none⟩)) (.func (.func F) #[] caps) (.map (some m))) (by kernel_rfl) (by kernel_rfl) hmk1 ?_
        iterate 8
          (apply pl_take
           case ho => rfl
           case hw => rfl
           case hv =>
             intro w' hw'
             obtain ⟨z0, z1, z2⟩ := three_cell hw'
             go_simp
             exact rfl
           go_simp)
        refine pl_one (up_do rfl rfl fun K hK1 => ?_)
        go_simp
        refine pairValue (HPS1.out.st.same kd) (three_cell HMK1.out).1 f ?_; rintro e w2 rfl k2
        rw [hax]
        refine hK1 (MkS mb (.pointer (some ⟨a, 0, none⟩)) (.func (.func F) #[] caps) (.map (some m))) _ _ (k2.at HMK1.out trivial) (fun _ h => h) ?_
        clear hK1 K
        have k12 := kd.tr k2
        refine pl_one (up_do rfl rfl fun K hK1 => ?_)
        go_simp
        refine pairValue (HPS1.out.st.same k12) (three_cell (k2.at HMK1.out trivial)).1 g ?_; rintro e w3 rfl k3
        rw [hay]
        refine hK1 (MkS mb (.pointer (some ⟨a, 0, none⟩)) (.func (.func F) #[] caps) (.map (some m))) _ _ ((k2.tr k3).at HMK1.out trivial) (fun _ h => h) ?_
        clear hK1 K
        have ps3 := HPS1.out.same HS.out (k12.tr k3)
        have HPS3 := hide ps3
        have HK3 := hide (HK1.out.tr (k12.tr k3))
        clear ps3 k2 k3 k12 kd
        refine pl_one (up_do rfl rfl fun K hK1 => ?_)
        go_simp
        rw [HCF.out]
        refine HLF.out _ L x y _ HPS3.out.st HPS3.out.hold vx vy (by omega) (fun w' g => HS.out _ _ HPS3.out.hold (PStep.grew g)) ?_; rintro e w4 L4 r4 rfl s4 g4 p4 n4 a4
        have ps4 := HPS3.out.grew HS.out g4 s4 p4
        refine hK1 (MkS mb (.pointer (some ⟨a, 0, none⟩)) (.func (.func F) #[] caps) (.map (some m))) _ _ (HM.out _ ps4.hold) (fun _ h => h) ?_
        clear hK1 K
        have pa4 := pair_leaf HXY.out.1 HXY.out.2 a4 p4
        obtain ⟨w5, A5, hr5, ps5, st5⟩ := ps4.update HS.out (Nat.lt_of_lt_of_le hf p4.length_le) (Nat.lt_of_lt_of_le hg p4.length_le) pa4
        have hst5 := (PStep.grew (m := m) (Grew.under HPS.out.st HK3.out)).trans ((PStep.grew g4).trans st5)
        obtain ⟨r0, r1, r2⟩ := three_cell (HM.out _ ps4.hold)
        have HF := hide (HR.out _ w5 r4 L4 A5 rfl ps5 p4 pa4 (by omega) hst5)
        clear s4 g4 p4 n4 a4 ps4 pa4 ps5 st5 hst5
        apply pl_take
        case ho => rfl
        case hw => rfl
        case hv => intro w' hw'; go_simp; exact rfl
        go_simp
        refine pl_done ?_
        go_wp2_with fail
        exact HF.out
      · obtain ⟨u, hu, htu, hfu, hgu, hor⟩ := top_fork hf hg hff hgf htop
        have hwf := hst.wf
        have huT : u < T := hor.elim (trackA_lt hwf hf) (trackA_lt hwf hg)
        obtain ⟨a1, b1, ea, eb, ha, hb1, hfa, hfb, la, lb, hs1, hva⟩ := parts_nat hwf hf hfu
        obtain ⟨c1, d1, ec, ed, hc, hd, hfc, hfd, lc, ld, hs2, hvc⟩ := parts_nat hwf hg hgu
        have hlt1 : a1 + c1 < f + g := by
          rcases hor with h | h
          · have := (hs1 h).1; omega
          · have := (hs2 h).1; omega
        have hlt2 : b1 + d1 < f + g := by
          rcases hor with h | h
          · have := (hs1 h).2; omega
          · have := (hs2 h).2; omega
        have hq : 2 ^ (T - (u + 1) + 1) + 2 ^ (T - (u + 1) + 1) ≤ 2 ^ (T - t0 + 1) := by
          have : 2 ^ (T - (u + 1) + 1) + 2 ^ (T - (u + 1) + 1) = 2 ^ (T - u + 1) := by
            rw [show T - u + 1 = (T - (u + 1) + 1) + 1 by omega, Nat.pow_succ]; omega
          rw [this]
          exact Nat.pow_le_pow_right (by decide) (by omega)
        have HW := hide hwf
        have HPS := hide hps
        have HFF := hide (And.intro (And.intro hfa hfb) (And.intro hfc hfd))
        have HVV := hide (And.intro hva hvc)
        have HQ := hide hq
        have HOR := hide hor
        clear hps hfa hfb hfc hfd hva hvc hs1 hs2 hwf hor htop hfu hgu hq
        go_enter Try.func130, Try.ntmps130
        go_wp2_with fail
        refine pairTop hst q0 f g ?_; rw [hu]; rintro e w1 rfl k1
        have q0 := Keeps.cell k1 q0 trivial
        have st1 := hst.same k1
        have HK1 := hide k1
        clear k1 hl q1 q2
        go_wp2_with fail
        refine pairParts st1 q0 f u ?_; rw [ea, eb]; rintro e w2 rfl k2
        have q0 := Keeps.cell k2 q0 trivial
        have st2 := st1.same k2
        have HK2 := hide (HK1.out.tr k2)
        clear k2
        go_wp2_with fail
        refine pairParts st2 q0 g u ?_; rw [ec, ed]; rintro e w3 rfl k3
        have HK3 := hide (HK2.out.tr k3)
        clear k3
        clear q0
        go_wp2_with fail
        refine IH.out _ hlt1 a1 c1 (u + 1) L A _ _ rfl (HPS.out.same HS.out HK3.out) ha hc HFF.out.1.1 HFF.out.2.1 (by omega) (by have := HQ.out; omega) ?_
        rintro e w4 r4 L4 A4 rfl ps4 p4 x4 n4 t4
        have HP4 := hide p4
        have HX4 := hide x4
        have HPS4 := hide ps4
        have HT4 := hide t4
        have hb4 : b1 < L4.length := Nat.lt_of_lt_of_le hb1 p4.length_le
        have hd4 : d1 < L4.length := Nat.lt_of_lt_of_le hd p4.length_le
        have N4 := hide n4
        clear p4 x4 ps4 t4 n4
        go_wp2_with fail
        refine IH.out _ hlt2 b1 d1 (u + 1) L4 A4 _ _ rfl HPS4.out hb4 hd4 (HFF.out.1.2.prefx HP4.out hb1) (HFF.out.2.2.prefx HP4.out hd) (by omega) (by have := HQ.out; have := N4.out; omega) ?_
        rintro e w5 r5 L5 A5 rfl ps5 p5 x5 n5 t5
        have hp := HP4.out.trans p5
        have hw5 := ps5.st.wf
        have x4' : PairAns L5 G a1 c1 r4 := HX4.out.prefx HPS4.out.st.wf hw5 p5 (Nat.lt_of_lt_of_le ha HP4.out.length_le) (Nat.lt_of_lt_of_le hc HP4.out.length_le)
        have hva5 := val_lift HW.out hw5 hp hf ha hb1 HVV.out.1
        have hvc5 := val_lift HW.out hw5 hp hg hc hd HVV.out.2
        have hf5 : f < L5.length := Nat.lt_of_lt_of_le hf hp.length_le
        have hg5 : g < L5.length := Nat.lt_of_lt_of_le hg hp.length_le
        have fa5 := HFF.out.1.1.prefx hp ha
        have fb5 := HFF.out.1.2.prefx hp hb1
        have fc5 := HFF.out.2.1.prefx hp hc
        have fd5 := HFF.out.2.2.prefx hp hd
        have hor5 : trackA L5 f = (u : Int) ∨ trackA L5 g = (u : Int) := HOR.out.imp (fun h => by rw [trackA_prefix hp hf, h]) (fun h => by rw [trackA_prefix hp hg, h])
        have hst5 := (PStep.grew (m := m) (Grew.under HPS.out.st HK3.out)).trans (HT4.out.trans t5)
        have hlen5 : L5.length + 2 ≤ L.length + 2 ^ (T - t0 + 1) := by have := HQ.out; have := N4.out; omega
        obtain ⟨r0, r1, r2⟩ := three_cell (HM.out _ ps5.hold)
        -- the answer is written down, in any store
        have fin : ∀ w6 L6 r, StoreAt w6 a T L6 → PS K G m a T w6 L6 A5 → L5 <+: L6 → L6.length ≤ L5.length + 1 → PairAns L6 G f g r → PStep a m w5 w6 →
            ∃ w7, (Instr.mapUpdate 135 (.map (some m)) (.agg #[.int .i64 (f : Int), .int .i64 (g : Int)]) (.int .i64 r)).run Try.prog w6 = .ok () w7 ∧ R (.returned (.int .i64 r)) w7 := fun w6 L6 r s6 ps6 p6 n6 x6 t6 => by
          obtain ⟨w7, A7, hr7, ps7, t7⟩ := ps6.update HS.out (Nat.lt_of_lt_of_le hf5 p6.length_le) (Nat.lt_of_lt_of_le hg5 p6.length_le) x6
          exact ⟨w7, hr7, HR.out _ _ r L6 A7 rfl ps7 (hp.trans p6) x6 (by omega) (hst5.trans (t6.trans t7))⟩
        by_cases hno : r4 < 0 ∨ r5 < 0
        · have hx : PairAns L5 G f g (-1) := by
            refine pair_none hw5 hva5 hvc5 fa5 fb5 fc5 fd5 ?_
            rcases hno with h | h
            · rcases x4' with ⟨j, rfl, _⟩ | ⟨_, h2⟩
              · omega
              · exact .inl h2
            · rcases x5 with ⟨j, rfl, _⟩ | ⟨_, h2⟩
              · omega
              · exact .inr h2
          obtain ⟨w7, hr7, hfin⟩ := fin w5 L5 (-1) ps5.st ps5 List.prefix_rfl (by omega) hx (PStep.refl _ _ _)
          have HFIN := hide hfin
          clear fin hfin hx ps5 p5 x5 n5 t5 hp hw5 x4' hva5 hvc5 fa5 fb5 fc5 fd5 hor5 hst5 st1 st2 hst
          by_cases h4 : r4 < 0
          · go_wp2_with fail
            exact HFIN.out
          · have h5 : r5 < 0 := hno.resolve_left h4
            go_wp2_with fail
            exact HFIN.out
        · obtain ⟨j4, rfl⟩ := Int.eq_ofNat_of_zero_le (show 0 ≤ r4 by omega)
          obtain ⟨j5, rfl⟩ := Int.eq_ofNat_of_zero_le (show 0 ≤ r5 by omega)
          obtain ⟨k, hk, hans⟩ := pair_fork (T := T) hw5 huT hva5 hvc5 hor5 hf5 hg5 fa5 fb5 fc5 fd5 x4' x5
          have hlen6 := mkA_len T L5 u j4 j5
          have hs5 := ps5.st
          have hb5 : L5.length < 1099511627776 := by omega
          have FIN := hide fin
          have HAN := hide hans
          have HKM := hide hk
          have num := hk.num
          have HPS5 := hide ps5
          clear fin hans hk ps5 p5 x5 n5 t5 hp hw5 x4' hva5 hvc5 fa5 fb5 fc5 fd5 hor5 hst5 st1 st2 hst hno
          go_wp2_with fail
          refine storeMk hs5 _ _ _ hb5 ?_
          rintro e w6 rfl s6 g6
          rw [num]
          have ps6 := HPS5.out.grew HS.out g6 s6 HKM.out.pre
          obtain ⟨r0, r1, r2⟩ := three_cell (HM.out _ ps6.hold)
          obtain ⟨w7, hr7, hfin⟩ := FIN.out w6 _ k s6 ps6 HKM.out.pre hlen6 (HAN.out s6.wf) (PStep.grew g6)
          have HFIN := hide hfin
          clear ps6 hfin s6 g6
          go_wp2_with fail
          exact HFIN.out

end Go.Proofs.Ytlaipnobfmfgaaa
