/- The walks of sibylref17.Both, sibylref17.Map. -/
import Derived.Test.YtgpbjjnfccalbaaPairBoth
import Derived.Test.YtgpbjjnfccalbaaOwnMat
namespace Go.Proofs.Ytgpbjjnfccalbaa
open Go.RowKit

attribute [local irreducible] wpQuiet wpPlan wpUp

variable {R : Ending → World → Prop} {w : World} {a T : Nat} {L : List Nd}

/-- What is put together, letter by letter. -/
def rowG (G : Int → Int → Option Int) (f g : List Int) (m : Nat) : List Int := (List.range m).map fun i => (G (f.getD i 0) (g.getD i 0)).getD 0

/-- There is one at each letter below m. -/
def AllG (G : Int → Int → Option Int) (f g : List Int) (m : Nat) : Prop := ∀ i, i < m → ∃ v, G (f.getD i 0) (g.getD i 0) = some v

theorem rowG_succ {G : Int → Int → Option Int} {f g : List Int} {m : Nat} {z : Int} (h : G (f.getD m 0) (g.getD m 0) = some z) : rowG G f g (m + 1) = rowG G f g m ++ [z] := by
  unfold rowG
  rw [List.range_succ, List.map_append, List.map_cons, List.map_nil, h]
  rfl

theorem AllG.succ {G : Int → Int → Option Int} {f g : List Int} {m : Nat} {z : Int} (h : AllG G f g m) (hz : G (f.getD m 0) (g.getD m 0) = some z) : AllG G f g (m + 1) := fun i hi => by
  by_cases e : i = m
  · subst e; exact ⟨z, hz⟩
  · exact h i (by omega)

/-- What the reference answers: a row, or none. -/
def RefG (G : Int → Int → Option Int) (f g : List Int) (w : World) (B : Nat) (u : Value) (ok : Bool) : Prop :=
  (ok = true ∧ AllG G f g f.length ∧ OwnInts w B u (rowG G f g f.length)) ∨ (ok = false ∧ u = .slice none 0 0 ∧ ∃ i, i < f.length ∧ G (f.getD i 0) (g.getD i 0) = none)

set_option maxRecDepth 10000 in
set_option maxHeartbeats 4000000 in
theorem refBoth {v u : Value} {f g : List Int} {k : Int} (hv : IntsAt w v f) (hu : IntsAt w u g) (hfv : f.all isVal = true) (hgv : g.all isVal = true) (hl : g.length = f.length) (h1 : 0 < f.length) (h64 : f.length ≤ 64) (hk1 : 1 ≤ k) (hk2 : k ≤ 1048576)
    (hR : ∀ e w' x ok, e = .returned (.tuple #[x, .bool ok]) → RefG (bothG k) f g w' w.heap.size x ok → Same w w' → R e w') :
    Calls Try.prog 34 #[v, u, .int .i64 k] w R := by
  have HR := hide hR
  clear hR
  obtain ⟨va, vc, rfl, hc1, hc2, hcell⟩ := hv.open
  obtain ⟨ua, uc, rfl, hd1, hd2, hdell⟩ := hu.open
  have HC := hide hcell
  have HD := hide hdell
  have HFV := hide (List.all_eq_true.1 hfv)
  have HGV := hide (List.all_eq_true.1 hgv)
  unfold maxLen at hc2 hd2
  have hne : (((f.length : Nat) : Int) != ((g.length : Nat) : Int)) = false := by rw [hl]; simp
  have hne0 : (((f.length : Nat) : Int) == 0) = false := beq_eq_false_iff_ne.2 (by omega)
  have hq0 : Int.tdiv 1099511627776 k = 1099511627776 / k := Int.tdiv_eq_ediv_of_nonneg (by decide)
  have hk0 : ¬ k = 0 := by omega
  have hq1 : 0 ≤ (1099511627776 : Int) / k := Int.ediv_nonneg (by decide) (by omega)
  have hq2 : (1099511627776 : Int) / k ≤ 1099511627776 := Int.ediv_le_self _ (by decide)
  have HQ : Hid (∀ x : Int, x ≤ 1099511627776 / k ↔ x * k ≤ 1099511627776) := hide fun _ => Int.le_ediv_iff_mul_le (by omega)
  obtain ⟨B, hBs⟩ : ∃ B, B = w.heap.size := ⟨_, rfl⟩
  rw [← hBs] at HR
  have HBS := hide hBs
  generalize (1099511627776 : Int) / k = q at hq0 hq1 hq2 HQ
  have hwq : IntKind.i64.wrap q = q := by rw [IntKind.wrap_i64]; omega
  clear hcell hdell hv hu hfv hgv hBs
  go_enter Try.func34, Try.ntmps34
  go_wp2_with fail
  go_loopw [8, 9] (fun o j wr => ∃ m : Nat, j = .int .i64 m ∧ m ≤ f.length ∧ Hid (AllG (bothG k) f g m) ∧ OwnInts wr B o (rowG (bothG k) f g m) ∧ Same w wr) (fun _ j _ => f.length - (intOf j).toNat)
  case atStart => exact ⟨0, rfl, Nat.zero_le _, hide (fun i hi => absurd hi (Nat.not_lt_zero _)), World.ownsRow_nil _ _ _ _, Keeps.refl _ _⟩
  case round =>
    obtain ⟨m, rfl, hm, hall, hown, hK⟩ := hrel
    by_cases hlt : m < f.length
    · have hlt2 : m < g.length := by omega
      obtain ⟨bl, off, rfl, _, hcl⟩ := HC.out m hlt
      obtain ⟨bl2, off2, rfl, _, hcl2⟩ := HD.out m hlt2
      have hck := Keeps.cell hK (hcl m hlt) trivial
      have hdk := Keeps.cell hK (hcl2 m hlt2) trivial
      have HW1 := hide (hcl m hlt)
      have HW2 := hide (hcl2 m hlt2)
      have hxv := HFV.out _ (List.getElem_mem hlt)
      have hyv := HGV.out _ (List.getElem_mem hlt2)
      have HXY := hide (And.intro (show f.getD m 0 = f[m] by simp [List.getD, List.getElem?_eq_getElem hlt]) (show g.getD m 0 = g[m] by simp [List.getD, List.getElem?_eq_getElem hlt2]))
      generalize f[m] = x at hck hxv HXY HW1
      generalize g[m] = y at hdk hyv HXY HW2
      clear hcl hcl2
      obtain ⟨hx0, hx1⟩ : 0 ≤ x ∧ x ≤ 1099511627776 := by simpa [isVal] using hxv
      obtain ⟨hy0, hy1⟩ : 0 ≤ y ∧ y ≤ 1099511627776 := by simpa [isVal] using hyv
      have hxk : 0 ≤ x * k := Int.mul_nonneg hx0 (by omega)
      have hiff := HQ.out x
      clear hxv hyv
      by_cases hqx : q < x
      · have hn : bothG k (f.getD m 0) (g.getD m 0) = none := by
          rw [HXY.out.1, HXY.out.2]
          exact if_neg (fun hh => by have := hiff.2 (by omega); omega)
        have HF : Hid (∀ w1, Same wr w1 → R (.returned (.tuple #[.slice none 0 0, .bool false])) w1) := hide (fun w1 k1 => HR.out _ w1 (.slice none 0 0) false rfl (.inr ⟨rfl, rfl, m, hlt, hn⟩) (hK.tr k1))
        clear hn hiff
        go_wp2_with fail
        refine wp_region_same (by kernel_rfl) (by kernel_rfl) ?_
        iterate 22
          (apply wpQuiet_step
           intro K hK
           first
             | (apply quiet_skip
                case hw => rfl
                go_simp
                refine hK _ ?_; clear hK K)
             | (apply quiet_do
                case hw => rfl
                case h =>
                  intro w' hw'
                  (have z0 := Keeps.cell hw' hck trivial; have z1 := Keeps.cell hw' hdk trivial)
                  go_simp
                  first | exact rfl | (fail)
                go_simp
                refine hK _ ?_; clear hK K))
        apply wpQuiet_nil
        intro w1 k1
        go_wp2_with fail
        exact HF.out w1 k1
      · have hxk2 : x * k ≤ 1099511627776 := hiff.1 (by omega)
        have hqf : decide (q < x) = false := decide_eq_false hqx
        have hw1 : wrap64 (x * k) = x * k := IntWalk.wrap64_in _ (by omega)
        have hw2 : wrap64 (x * k + y) = x * k + y := IntWalk.wrap64_in _ (by omega)
        have hw3 : IntKind.i64.wrap (x * k) = x * k := by rw [IntKind.wrap_i64]; omega
        have hw4 : IntKind.i64.wrap (x * k + y) = x * k + y := by rw [IntKind.wrap_i64]; omega
        clear hiff
        have hG : bothG k (f.getD m 0) (g.getD m 0) = if isVal (x * k + y) = true then some (x * k + y) else none := by
          rw [HXY.out.1, HXY.out.2]
          unfold bothG
          by_cases hle : x * k + y ≤ 1099511627776
          · rw [if_pos hle, if_pos (by simp [isVal]; omega)]
          · rw [if_neg hle, if_neg (by simp [isVal]; omega)]
        generalize hzz : x * k + y = z at hw2 hw4 hG
        have HG := hide hG
        have HK := hide hK
        have hzb : InI64 z := by unfold InI64; omega
        have HZB := hide hzb
        clear hG hzb
        go_wp2_with fail
        cases hzv : isVal z with
        | false =>
          refine wp_region_same (by kernel_rfl) (by kernel_rfl) ?_
          iterate 22
            (apply wpQuiet_step
             intro K hK
             first
               | (apply quiet_skip
                  case hw => rfl
                  go_simp
                  refine hK _ ?_; clear hK K)
               | (apply quiet_do
                  case hw => rfl
                  case h =>
                    intro w' hw'
                    (have z0 := Keeps.cell hw' hck trivial; have z1 := Keeps.cell hw' hdk trivial)
                    go_simp
                    first | exact rfl | (exact refValue z (fun e he => by rw [hzv] at he; exact ⟨he, hw'⟩))
                  go_simp
                  refine hK _ ?_; clear hK K))
          apply wpQuiet_nil
          intro w1 k1
          have HF := hide (HR.out _ w1 (.slice none 0 0) false rfl (.inr ⟨rfl, rfl, m, hlt, by rw [HG.out, hzv]; rfl⟩) (HK.out.tr k1))
          go_wp2_with fail
          exact HF.out
        | true =>
          refine wp_region_same (by kernel_rfl) (by kernel_rfl) ?_
          iterate 22
            (apply wpQuiet_step
             intro K hK
             first
               | (apply quiet_skip
                  case hw => rfl
                  go_simp
                  refine hK _ ?_; clear hK K)
               | (apply quiet_do
                  case hw => rfl
                  case h =>
                    intro w' hw'
                    (have z0 := Keeps.cell hw' hck trivial; have z1 := Keeps.cell hw' hdk trivial)
                    go_simp
                    first | exact rfl | (exact refValue z (fun e he => by rw [hzv] at he; exact ⟨he, hw'⟩))
                  go_simp
                  refine hK _ ?_; clear hK K))
          apply wpQuiet_nil
          intro w1 k1
          have hkd := (HK.out.tr k1).drew
          have hown1 := (hown.same k1).same (Keeps.drew (Keeps.refl (fun _ => True) w1))
          have HK1 := hide hkd
          have HGS := hide (show bothG k (f.getD m 0) (g.getD m 0) = some z by rw [HG.out, if_pos hzv])
          have hrl : (rowG (bothG k) f g m).length = m := by simp [rowG]
          obtain ⟨gg, cap1, w2, hr, hown2, hk2, hg, _⟩ := append_one (P := Try.prog) w1.drew 26 26 3 Try.underlying26 int_info rfl hown1 (by rw [HBS.out]; exact HK1.out.size) (.int .i64 z) rfl (by simp; omega) (by decide)
          have hK2 : Same w w2 := by
            refine HK1.out.trans hk2 fun x hx _ => ⟨trivial, ?_⟩
            intro e
            have := (hown1.lt x e).1
            rw [HBS.out] at this; omega
          have HO : Hid (OwnInts w2 B (.slice (some ⟨gg, 0, none⟩) ((rowG (bothG k) f g m).length + 1) cap1) (rowG (bothG k) f g (m + 1))) := by
            refine hide ?_
            unfold OwnInts
            rw [rowG_succ HGS.out]
            simpa using hown2
          rw [hrl] at HO hr
          have HK2 := hide hK2
          have HALL := hide (hall.out.succ HGS.out)
          obtain ⟨oa, oc, rfl⟩ := hown.shape
          rw [hrl] at hr ⊢
          clear hown2 hown hown1 hk2 hck hdk k1 hK2 hall hrl hkd
          go_wp2_with fail
          refine wp_region_plan (.take 0 (.take 1 (.take 2 (.take 3 (.take 4 (.take 5 (.take 6 (.take 7 (.take 8 (.take 9 (.take 10 (.take 11 (.one 12 (.one 13 (.take 14 .done))))))))))))))) (Same w) (by kernel_rfl) (by kernel_rfl) HK1.out ?_
          iterate 12
            (first
               | (apply pl_pass
                  case ho => rfl
                  case hw => rfl
                  go_simp)
               | (apply pl_take
                  case ho => rfl
                  case hw => rfl
                  case hv =>
                    intro w' hS
                    (have z0 := Keeps.cell hS HW1.out trivial; have z1 := Keeps.cell hS HW2.out trivial)
                    go_simp
                    exact rfl
                  go_simp))
          refine pl_one (up_do rfl rfl fun K hK1 => ?_)
          go_simp
          refine hK1 (Same w) _ _ (HK1.out.alloc _) (fun _ h => h) ?_
          clear hK1 K
          go_simp
          refine pl_one (up_append _ _ _ rfl rfl rfl ?hs ?hx hr (Same w) HK2.out (fun _ h => h) ?_)
          case hs => rfl
          case hx => rfl
          clear hr
          go_simp
          iterate 1
            (first
               | (apply pl_pass
                  case ho => rfl
                  case hw => rfl
                  go_simp)
               | (apply pl_take
                  case ho => rfl
                  case hw => rfl
                  case hv =>
                    intro w' hS
                    (skip)
                    go_simp
                    exact rfl
                  go_simp))
          refine pl_done ?_
          go_wp2_with fail
          go_roundw
          case rel => exact ⟨m + 1, by go_num, by omega, HALL, HO.out, HK2.out⟩
          case measure => simp [intOf]; omega
    · obtain rfl : m = f.length := by omega
      have HF := hide (HR.out _ _ _ true rfl (.inl ⟨rfl, hall.out, hown⟩) hK)
      clear hown hall hK
      go_wp2_with fail
      exact HF.out

/-- Where the factor may not be. -/
theorem refBothNot {v u : Value} {f g : List Int} {k : Int} (hv : IntsAt w v f) (hu : IntsAt w u g) (hl : g.length = f.length) (h1 : 0 < f.length) (hk : k < 1 ∨ 1048576 < k)
    (hR : ∀ e, e = .returned (.tuple #[.slice none 0 0, .bool false]) → R e w) :
    Calls Try.prog 34 #[v, u, .int .i64 k] w R := by
  have HR := hide hR
  clear hR
  obtain ⟨va, vc, rfl, hc1, hc2, _⟩ := hv.open
  obtain ⟨ua, uc, rfl, hd1, hd2, _⟩ := hu.open
  unfold maxLen at hc2 hd2
  have hne : (((f.length : Nat) : Int) != ((g.length : Nat) : Int)) = false := by rw [hl]; simp
  have hne0 : (((f.length : Nat) : Int) == 0) = false := beq_eq_false_iff_ne.2 (by omega)
  clear hv hu
  rcases hk with hk | hk
  all_goals
    go_enter Try.func34, Try.ntmps34
    go_wp2_with fail
    exact HR.out _ rfl

set_option maxRecDepth 10000 in
set_option maxHeartbeats 4000000 in
theorem refMap {v u : Value} {f tl : List Int} (hv : IntsAt w v f) (hu : IntsAt w u tl) (hfv : f.all isVal = true) (h1 : 0 < f.length) (h64 : f.length ≤ 64)
    (hR : ∀ e w' x ok, e = .returned (.tuple #[x, .bool ok]) → RefG (mapG tl) f f w' w.heap.size x ok → Same w w' → R e w') :
    Calls Try.prog 42 #[v, u] w R := by
  have HR := hide hR
  clear hR
  obtain ⟨va, vc, rfl, hc1, hc2, hcell⟩ := hv.open
  obtain ⟨ua, uc, rfl, hd1, hd2, hdell⟩ := hu.open
  have HC := hide hcell
  have HD := hide hdell
  have HFV := hide (List.all_eq_true.1 hfv)
  unfold maxLen at hc2 hd2
  obtain ⟨B, hBs⟩ : ∃ B, B = w.heap.size := ⟨_, rfl⟩
  rw [← hBs] at HR
  have HBS := hide hBs
  clear hcell hdell hv hu hfv hBs
  go_enter Try.func42, Try.ntmps42
  go_wp2_with fail
  go_loopw [6, 7] (fun o j wr => ∃ m : Nat, j = .int .i64 m ∧ m ≤ f.length ∧ Hid (AllG (mapG tl) f f m) ∧ OwnInts wr B o (rowG (mapG tl) f f m) ∧ Same w wr) (fun _ j _ => f.length - (intOf j).toNat)
  case atStart => exact ⟨0, rfl, Nat.zero_le _, hide (fun i hi => absurd hi (Nat.not_lt_zero _)), World.ownsRow_nil _ _ _ _, Keeps.refl _ _⟩
  case round =>
    obtain ⟨m, rfl, hm, hall, hown, hK⟩ := hrel
    by_cases hlt : m < f.length
    · obtain ⟨bl, off, rfl, _, hcl⟩ := HC.out m hlt
      have hck := Keeps.cell hK (hcl m hlt) trivial
      have HW1 := hide (hcl m hlt)
      have hxv := HFV.out _ (List.getElem_mem hlt)
      have HX := hide (show f.getD m 0 = f[m] by simp [List.getD, List.getElem?_eq_getElem hlt])
      generalize f[m] = x at hck hxv HX HW1
      clear hcl
      obtain ⟨hx0, hx1⟩ : 0 ≤ x ∧ x ≤ 1099511627776 := by simpa [isVal] using hxv
      obtain ⟨x, rfl⟩ := Int.eq_ofNat_of_zero_le hx0
      clear hxv
      by_cases hxt : x < tl.length
      · obtain ⟨bl2, off2, rfl, _, hcl2⟩ := HD.out x hxt
        have hdk := Keeps.cell hK (hcl2 x hxt) trivial
        have HW2 := hide (hcl2 x hxt)
        have HG := hide (show mapG tl (f.getD m 0) (f.getD m 0) = if isVal tl[x] = true then some tl[x] else none by rw [HX.out]; simp [mapG, List.getElem?_eq_getElem hxt])
        generalize tl[x] = z at hdk HG HW2
        have HK := hide hK
        clear hcl2
        go_wp2_with fail
        cases hzv : isVal z with
        | false =>
          refine refValue z ?_; rintro e rfl
          rw [hzv]
          have k1 : Same wr wr := Keeps.refl _ _
          have HF := hide (HR.out _ wr (.slice none 0 0) false rfl (.inr ⟨rfl, rfl, m, hlt, by rw [HG.out, hzv]; rfl⟩) (HK.out.tr k1))
          go_wp2_with fail
          exact HF.out
        | true =>
          refine refValue z ?_; rintro e rfl
          rw [hzv]
          have k1 : Same wr wr := Keeps.refl _ _
          have hkd := HK.out.tr k1
          have hown1 := hown
          have HK1 := hide hkd
          have HGS := hide (show mapG tl (f.getD m 0) (f.getD m 0) = some z by rw [HG.out, if_pos hzv])
          have hrl : (rowG (mapG tl) f f m).length = m := by simp [rowG]
          obtain ⟨gg, cap1, w2, hr, hown2, hk2, hg, _⟩ := append_one (P := Try.prog) wr 26 26 3 Try.underlying26 int_info rfl hown1 (by rw [HBS.out]; exact HK1.out.size) (.int .i64 z) rfl (by simp; omega) (by decide)
          have hK2 : Same w w2 := by
            refine HK1.out.trans hk2 fun x hx _ => ⟨trivial, ?_⟩
            intro e
            have := (hown1.lt x e).1
            rw [HBS.out] at this; omega
          have HO : Hid (OwnInts w2 B (.slice (some ⟨gg, 0, none⟩) ((rowG (mapG tl) f f m).length + 1) cap1) (rowG (mapG tl) f f (m + 1))) := by
            refine hide ?_
            unfold OwnInts
            rw [rowG_succ HGS.out]
            simpa using hown2
          rw [hrl] at HO hr
          have HK2 := hide hK2
          have HALL := hide (hall.out.succ HGS.out)
          obtain ⟨oa, oc, rfl⟩ := hown.shape
          rw [hrl] at hr ⊢
          clear hown2 hown hown1 hk2 k1 hK2 hall hrl hkd
          go_wp2_with (at_builtin; refine wpList_append_run rfl _ _ _ rfl rfl rfl hr ?_; clear hr)
          go_roundw
          case rel => exact ⟨m + 1, by go_num, by omega, HALL, HO.out, HK2.out⟩
          case measure => simp [intOf]; omega
      · have hn : mapG tl (f.getD m 0) (f.getD m 0) = none := by rw [HX.out]; simp [mapG, List.getElem?_eq_none (Nat.le_of_not_lt hxt)]
        have HF : Hid (∀ w1, Same wr w1 → R (.returned (.tuple #[.slice none 0 0, .bool false])) w1) := hide (fun w1 k1 => HR.out _ w1 (.slice none 0 0) false rfl (.inr ⟨rfl, rfl, m, hlt, hn⟩) (hK.tr k1))
        clear hn
        go_wp2_with fail
        exact HF.out _ (Keeps.refl _ _)
    · obtain rfl : m = f.length := by omega
      have hd : decide (0 < f.length) = true := by simpa using h1
      have HF := hide (HR.out _ _ _ true rfl (.inl ⟨rfl, hall.out, hown⟩) hK)
      clear hown hall hK
      go_wp2_with fail
      exact HF.out

end Go.Proofs.Ytgpbjjnfccalbaa
