/- The walk of ModelWords. -/
import Derived.Test.YtbmpnfibebiaeaaKnown27
import Derived.Test.YtbmpnfibebiaeaaRefEnc2
import Derived.Test.YtbmpnfibebiaeaaLaw11
namespace Go.Proofs.Ytbmpnfibebiaeaa
open Go.RowKit

attribute [local irreducible] wpQuiet wpPlan wpPlanZ wpUp

variable {R : Ending → World → Prop} {w : World}

/-- What both encodings tell. -/
def Told (ls : List (List Int)) (w0 : World) (x y : Value) (w : World) : Prop :=
  Same w0 w ∧ (((ls.length ≤ 6 ∧ Small ls) ∧ ∃ (b : Nat) (W : List Nat), x = .slice (some ⟨b, 0, none⟩) W.length W.length ∧ y = .bool true ∧ Letters ls W ∧ IntsAt w x (W.map Int.ofNat)) ∨
    (¬ (ls.length ≤ 6 ∧ Small ls) ∧ x = .slice none 0 0 ∧ y = .bool false))

theorem letters_short {ls : List (List Int)} {W : List Nat} (hs : Small ls) (h : Letters ls W) : W.length ≤ 1000 := by
  have : (W.length : Int) ≤ 1000 := by rw [h.1]; exact (bnd_bounds (fun x hx => by obtain ⟨l, hl, hxl⟩ := List.mem_flatten.1 hx; exact hs l hl x hxl)).2
  omega

theorem wordEncodeG {v : Value} {ls : List (List Int)} (hv : RowsAt w v ls) (hR : ∀ e w' x y, e = .returned (.tuple #[x, y]) → Told ls w x y w' → R e w') :
    Calls Try.prog 29 #[v] w R := by
  rcases Classical.em (ls.length ≤ 6 ∧ Small ls) with h | h
  · exact wordEncode hv h.2 h.1 fun e w' b W he hL hW _ hk => hR e w' _ _ he ⟨hk, .inl ⟨h, b, W, rfl, rfl, hL, hW.ints hL.2.1 rfl (Nat.le_refl _) (by have := letters_short h.2 hL; unfold maxLen; omega)⟩⟩
  · exact wordEncodeNot hv h fun e w' he hk => hR e w' _ _ he ⟨hk, .inr ⟨h, rfl, rfl⟩⟩

theorem refEncodeG {v : Value} {ls : List (List Int)} (hv : RowsAt w v ls) (hR : ∀ e w' x y, e = .returned (.tuple #[x, y]) → Told ls w x y w' → R e w') :
    Calls Try.prog 19 #[v] w R := by
  rcases Classical.em (ls.length ≤ 6 ∧ Small ls) with h | h
  · exact refEncode hv h.2 h.1 fun e w' b W he hL hW _ hk => hR e w' _ _ he ⟨hk, .inl ⟨h, b, W, rfl, rfl, hL, hW.ints hL.2.1 rfl (Nat.le_refl _) (by have := letters_short h.2 hL; unfold maxLen; omega)⟩⟩
  · exact refEncodeNot hv h fun e w' he hk => hR e w' _ _ he ⟨hk, .inr ⟨h, rfl, rfl⟩⟩

theorem ints_nilv (w : World) : IntsAt w (.slice none 0 0) [] := ⟨⟨none, 0, rfl, Nat.le_refl _, Nat.zero_le _, .inl rfl⟩, by simp⟩

set_option maxRecDepth 10000 in
set_option maxHeartbeats 4000000 in
theorem modelWordsWalk (va : Value) (L : List Vl) (w : World) (hA : ValsAt w va L) :
    Calls Try.prog 6 #[va] w fun e w' => e = .returned (.bool true) ∧ Below w.heap.size w w' := by
  refine law_of fun R HR => ?_
  have HA := hide hA
  obtain ⟨a, c, us, rfl, hc1, hc2, hul, hui, hcell⟩ := hA.open
  have HC := hide hcell
  have HUI := hide hui
  have HUL := hide hul
  clear hA hcell hul hui
  unfold maxLen at hc2
  by_cases h1 : 12 < L.length
  · go_enter Try.func6, Try.ntmps6
    go_wp2_with fail
    exact HR.out _ _ rfl (Keeps.refl _ _)
  go_enter Try.func6, Try.ntmps6
  go_wp2_with fail
  go_loopw [3] (fun i wr => ∃ k : Nat, i = .int .i64 k ∧ k ≤ L.length ∧ Same w wr) (fun i _ => L.length - (intOf i).toNat)
  case atStart => exact ⟨0, rfl, Nat.zero_le _, Keeps.refl _ _⟩
  case round =>
    obtain ⟨k, rfl, hk, hK⟩ := hrel
    by_cases hlt : k < L.length
    · obtain ⟨bl, off, rfl, hbl, hcl⟩ := HC.out k hlt
      obtain ⟨y, hux⟩ : ∃ y, us[k]? = some y := ⟨_, List.getElem?_eq_getElem (show k < us.length by rw [HUL.out]; exact hlt)⟩
      obtain ⟨_, _, z2⟩ := hcl k _ _ hux (List.getElem?_eq_getElem hlt)
      obtain ⟨hi, _⟩ := HUI.out k _ _ hux (List.getElem?_eq_getElem hlt)
      obtain ⟨ua, uc, rfl, hd1, hd2, hdell⟩ := hi.open
      generalize L[k].set = row at z2 hd1 hdell
      have HD := hide hdell
      have HU := hide z2
      have z2 := Keeps.cell hK HU.out trivial
      have HST := hide hK
      unfold maxLen at hd2
      clear hcl hi hux hdell hK
      by_cases h50 : 50 < row.length
      · go_wp2_with fail
        exact HR.out _ _ rfl (HST.out.mono fun _ _ _ => trivial)
      go_wp2_with fail
      go_loopw [4] (fun i wr => ∃ m : Nat, i = .int .i64 m ∧ m ≤ row.length ∧ Same w wr) (fun i _ => row.length - (intOf i).toNat)
      case atStart => exact ⟨0, rfl, Nat.zero_le _, HST.out⟩
      case round =>
        clear z2
        obtain ⟨m, rfl, hm, hK2⟩ := hrel
        have hck := Keeps.cell hK2 HU.out trivial
        have HK2 := hide hK2
        by_cases hlt2 : m < row.length
        · obtain ⟨rl, roff, rfl, hrl, hdl⟩ := HD.out m hlt2
          have hdk := Keeps.cell hK2 (hdl m hlt2) trivial
          generalize row[m] = x at hdk
          clear hdl hK2
          by_cases hx : 1099511627776 < x
          · go_wp2_with fail
            exact HR.out _ _ rfl (HK2.out.mono fun _ _ _ => trivial)
          go_wp2_with fail
          go_roundw
          case rel => exact ⟨m + 1, by go_num, by omega, HK2.out⟩
          case measure => simp [intOf]; omega
        · clear hK2
          go_wp2_with fail
          go_roundw
          case rel => exact ⟨k + 1, by go_num, by omega, HK2.out⟩
          case measure => simp [intOf]; omega
    · have HK := hide hK
      clear hK
      generalize hls : L.map (·.set) = ls
      have HLS := hide hls
      clear hls
      go_wp2_with fail
      refine modelWordG (P1 := fun x y w5 => Told ls wr x y w5) (HA.out.same HK.out) (by omega) ?_ ?_
      · intro w5 u R1 hrw hs hR1
        rw [HLS.out] at hrw
        refine wordEncodeG hrw fun e w' x y he ht => hR1 e w' x y he ⟨hs.tr ht.1, ht.2⟩
      rintro e w5 x y rfl ht
      have HT5 := hide ht.2
      have HK5 := hide (HK.out.tr ht.1)
      have hsh : ∃ s n c bb, x = .slice s n c ∧ y = .bool bb := by
        rcases ht.2 with ⟨_, b, W, rfl, rfl, _⟩ | ⟨_, rfl, rfl⟩
        · exact ⟨_, _, _, _, rfl, rfl⟩
        · exact ⟨_, _, _, _, rfl, rfl⟩
      obtain ⟨s, n, cc, bb, rfl, rfl⟩ := hsh
      clear ht
      go_wp2_with fail
      refine refSets (HA.out.same HK5.out) (by omega) ?_; rintro e w6 u6 rfl r6 k6
      rw [HLS.out] at r6
      have HR6 := hide r6
      obtain ⟨a6, c6, rfl, _⟩ := r6.open
      have HK56 := hide k6
      have HK6 := hide (HK5.out.tr k6)
      clear r6 k6
      go_wp2_with fail
      refine refEncodeG HR6.out ?_; rintro e w7 x7 y7 rfl ht7
      have HK7 := hide (HK6.out.tr ht7.1)
      have HK57 := hide (HK56.out.tr ht7.1)
      have HT7 := hide ht7.2
      clear ht7
      rcases HT5.out with ⟨hsm, b, W, hx, hy, hL, hI⟩ | ⟨hns, hx, hy⟩
      · rcases HT7.out with ⟨_, b', W', hx', hy', hL', hI'⟩ | ⟨hns, _⟩
        · simp only [Value.slice.injEq, Value.bool.injEq] at hx hy
          obtain ⟨rfl, rfl, rfl⟩ := hx
          subst hy; subst hx'; subst hy'
          obtain rfl := hL.unique hL'
          have HI := hide (hI.same HK57.out)
          have HI' := hide hI'
          clear hI hI' hL hL' hsm HT5 HT7
          go_wp2_with fail
          refine sameInts HI.out HI'.out ?_; rintro e w8 rfl k8
          rw [decide_eq_true rfl]
          have HK8 := hide (HK7.out.tr k8)
          clear k8
          go_wp2_with fail
          refine known27 ?_; rintro e w9 rfl k9
          have HK9 := hide (HK8.out.tr k9)
          clear k9
          go_wp2_with fail
          exact HR.out _ _ rfl (HK9.out.mono fun _ _ _ => trivial)
        · exact absurd hsm hns
      · rcases HT7.out with ⟨hsm, _⟩ | ⟨_, hx', hy'⟩
        · exact absurd hsm hns
        · simp only [Value.slice.injEq, Value.bool.injEq] at hx hy
          obtain ⟨rfl, rfl, rfl⟩ := hx
          subst hy; subst hx'; subst hy'
          clear hns HT5 HT7
          go_wp2_with fail
          refine sameInts (ints_nilv _) (ints_nilv _) ?_; rintro e w8 rfl k8
          rw [decide_eq_true rfl]
          have HK8 := hide (HK7.out.tr k8)
          clear k8
          go_wp2_with fail
          refine known27 ?_; rintro e w9 rfl k9
          have HK9 := hide (HK8.out.tr k9)
          clear k9
          go_wp2_with fail
          exact HR.out _ _ rfl (HK9.out.mono fun _ _ _ => trivial)

end Go.Proofs.Ytbmpnfibebiaeaa
