/- The walks of bdd.New, Leaf, Mk, Track, Kids. -/
import Derived.Test.YtohhjdadhdibfaaStore2
namespace Go.Proofs.Ytohhjdadhdibfaa
open Go.RowKit

variable {R : Ending → World → Prop} {w : World} {a T : Nat} {L : List Nd}

/-- bdd.New, where there may be one. -/
theorem storeNew (t : Int) (h0 : 0 ≤ t) (h6 : t ≤ 6) (hR : ∀ e w' b, e = .returned (.pointer (some ⟨b, 0, none⟩)) → StoreAt w' b t.toNat [] → Same w w' → (∀ x, Foot w' b x → w.heap.size ≤ x) → R e w') :
    Calls Try.prog 31 #[.int .i64 t] w R := by
  have HR := hide hR
  clear hR
  have hmm := @run_makeMap Try.prog
  obtain ⟨T, rfl⟩ := Int.eq_ofNat_of_zero_le h0
  go_enter Try.func31, Try.ntmps31
  go_wp2_with fail
  have e1 := heap_new (w.alloc (.map #[] 0)) (.cells #[.int .i64 T, .slice none 0 0, .map (some w.heap.size)] 91)
  have e2 := heap_old (heap_new w (.map #[] 0)) (.cells #[.int .i64 T, .slice none 0 0, .map (some w.heap.size)] 91)
  have es : (w.alloc (.map #[] 0)).heap.size = w.heap.size + 1 := by simp
  rw [es] at e1
  refine HR.out _ _ (w.heap.size + 1) (by simp) ⟨WF.nil (by omega), _, _, e1, World.ownsRow_nil _ _ _ _, _, _, e2, rfl⟩ (((Keeps.refl _ _).alloc _).alloc _) ?_
  rintro x (rfl | ⟨t', v', m', e4, e5⟩)
  · omega
  · rw [e1] at e4
    simp at e4
    obtain ⟨_, rfl, rfl⟩ := e4
    rcases e5 with rfl | e5
    · omega
    · simp [Value.ownBlock] at e5

/-- bdd.New, where there may be none. -/
theorem storeNewNot (t : Int) (h : t < 0 ∨ 6 < t) (hR : ∀ e, e = .returned (.pointer none) → R e w) :
    Calls Try.prog 31 #[.int .i64 t] w R := by
  have HR := hide hR
  clear hR
  rcases h with h | h
  all_goals
    go_enter Try.func31, Try.ntmps31
    go_wp2_with fail
    exact HR.out _ rfl

/-- Leaf. -/
def leafA (L : List Nd) (v : Int) : List Nd × Int :=
  if 0 ≤ v ∧ v ≤ 1099511627776 then ((idOf L (.leaf v)).1, ((idOf L (.leaf v)).2 : Int)) else (L, -1)

theorem storeLeaf (h : StoreAt w a T L) (v : Int) (hb : L.length < 1099511627776)
    (hR : ∀ e w', e = .returned (.int .i64 (leafA L v).2) → StoreAt w' a T (leafA L v).1 → Grew a w w' → R e w') :
    Calls Try.prog 38 #[.pointer (some ⟨a, 0, none⟩), .int .i64 v] w R := by
  have HR := hide hR
  clear hR
  by_cases hv : 0 ≤ v ∧ v ≤ 1099511627776
  · have e : leafA L v = ((idOf L (.leaf v)).1, ((idOf L (.leaf v)).2 : Int)) := if_pos hv
    rw [e] at HR
    clear e
    go_enter Try.func38, Try.ntmps38
    go_wp2_with fail
    refine isValue v ?_; rintro e rfl
    rw [show (decide (0 ≤ v) && decide (v ≤ 1099511627776)) = true by simp [hv]]
    go_wp2_with fail
    refine storeId h (.leaf v) hv hb ?_; rintro e w1 rfl s1 g1
    go_wp2_with fail
    exact HR.out _ _ rfl s1 g1
  · have e : leafA L v = (L, -1) := if_neg hv
    rw [e] at HR
    clear e
    have H := hide hv
    clear hv
    go_enter Try.func38, Try.ntmps38
    go_wp2_with fail
    refine isValue v ?_; rintro e rfl
    rw [show (decide (0 ≤ v) && decide (v ≤ 1099511627776)) = false by have := H.out; simp; omega]
    go_wp2_with fail
    exact HR.out _ _ rfl h (Grew.refl _ _)

/-- Mk. -/
def mkA (T : Nat) (L : List Nd) (t lo hi : Int) : List Nd × Int :=
  if t < 0 ∨ T ≤ t ∨ underB L lo t = false ∨ underB L hi t = false then (L, -1)
  else if lo = hi then (L, lo) else ((idOf L (.fork t.toNat lo.toNat hi.toNat)).1, ((idOf L (.fork t.toNat lo.toNat hi.toNat)).2 : Int))

theorem underB_nonneg {i t : Int} (h : underB L i t = true) : 0 ≤ i ∧ i < L.length := by
  unfold underB at h
  simp only [Bool.and_eq_true, decide_eq_true_eq] at h
  exact h.1

theorem Grew.under (h : StoreAt w a T L) {w' : World} (k : Same w w') : Grew a w w' := by
  obtain ⟨v, m, e, _⟩ := h.st
  exact Grew.of_same e k

set_option maxHeartbeats 1000000 in
theorem storeMk (h : StoreAt w a T L) (t lo hi : Int) (hb : L.length < 1099511627776)
    (hR : ∀ e w', e = .returned (.int .i64 (mkA T L t lo hi).2) → StoreAt w' a T (mkA T L t lo hi).1 → Grew a w w' → R e w') :
    Calls Try.prog 39 #[.pointer (some ⟨a, 0, none⟩), .int .i64 t, .int .i64 lo, .int .i64 hi] w R := by
  have HR := hide hR
  clear hR
  by_cases h1 : t < 0
  · rw [show mkA T L t lo hi = (L, -1) from if_pos (.inl h1)] at HR
    go_enter Try.func39, Try.ntmps39
    go_wp2_with fail
    exact HR.out _ _ rfl h (Grew.refl _ _)
  by_cases h2 : T ≤ t
  · rw [show mkA T L t lo hi = (L, -1) from if_pos (.inr (.inl h2))] at HR
    go_enter Try.func39, Try.ntmps39
    go_wp2_with fail
    refine storeTracks h ?_; rintro e rfl
    go_wp2_with fail
    exact HR.out _ _ rfl h (Grew.refl _ _)
  cases h3 : underB L lo t with
  | false =>
    rw [show mkA T L t lo hi = (L, -1) from if_pos (.inr (.inr (.inl h3)))] at HR
    have H3 := hide h3
    clear h3
    go_enter Try.func39, Try.ntmps39
    go_wp2_with fail
    refine storeTracks h ?_; rintro e rfl
    go_wp2_with fail
    refine storeBelow h lo t ?_; rintro e w1 rfl k1
    rw [H3.out]
    go_wp2_with fail
    exact HR.out _ _ rfl (h.same k1) (Grew.under h k1)
  | true =>
    cases h4 : underB L hi t with
    | false =>
      rw [show mkA T L t lo hi = (L, -1) from if_pos (.inr (.inr (.inr h4)))] at HR
      have H3 := hide h3
      have H4 := hide h4
      clear h3 h4
      go_enter Try.func39, Try.ntmps39
      go_wp2_with fail
      refine storeTracks h ?_; rintro e rfl
      go_wp2_with fail
      refine storeBelow h lo t ?_; rintro e w1 rfl k1
      rw [H3.out]
      go_wp2_with fail
      refine storeBelow (h.same k1) hi t ?_; rintro e w2 rfl k2
      rw [H4.out]
      go_wp2_with fail
      exact HR.out _ _ rfl ((h.same k1).same k2) (Grew.under h (k1.tr k2))
    | true =>
      have b1 := underB_nonneg h3
      have b2 := underB_nonneg h4
      have hno : ¬ (t < 0 ∨ (T : Int) ≤ t ∨ underB L lo t = false ∨ underB L hi t = false) := by simp [h3, h4]; omega
      by_cases h5 : lo = hi
      · rw [show mkA T L t lo hi = (L, lo) by unfold mkA; rw [if_neg hno, if_pos h5]] at HR
        have H3 := hide h3
        have H4 := hide h4
        have h6 : (lo == hi) = true := by simpa using h5
        clear h3 h4 hno h5
        go_enter Try.func39, Try.ntmps39
        go_wp2_with fail
        refine storeTracks h ?_; rintro e rfl
        go_wp2_with fail
        refine storeBelow h lo t ?_; rintro e w1 rfl k1
        rw [H3.out]
        go_wp2_with fail
        refine storeBelow (h.same k1) hi t ?_; rintro e w2 rfl k2
        rw [H4.out]
        go_wp2_with fail
        exact HR.out _ _ rfl ((h.same k1).same k2) (Grew.under h (k1.tr k2))
      · rw [show mkA T L t lo hi = ((idOf L (.fork t.toNat lo.toNat hi.toNat)).1, ((idOf L (.fork t.toNat lo.toNat hi.toNat)).2 : Int)) by unfold mkA; rw [if_neg hno, if_neg h5]] at HR
        have h6 : (lo == hi) = false := by simpa using h5
        obtain ⟨t, rfl⟩ := Int.eq_ofNat_of_zero_le (show 0 ≤ t by omega)
        obtain ⟨lo, rfl⟩ := Int.eq_ofNat_of_zero_le b1.1
        obtain ⟨hi, rfl⟩ := Int.eq_ofNat_of_zero_le b2.1
        simp only [Int.toNat_natCast] at HR
        have hok : NdOk T L L.length (.fork t lo hi) := ⟨by omega, by omega, by omega, by omega, underB_iff.1 h3, underB_iff.1 h4⟩
        have H3 := hide h3
        have H4 := hide h4
        clear h3 h4 hno h5
        go_enter Try.func39, Try.ntmps39
        go_wp2_with fail
        refine storeTracks h ?_; rintro e rfl
        go_wp2_with fail
        refine storeBelow h lo t ?_; rintro e w1 rfl k1
        rw [H3.out]
        go_wp2_with fail
        refine storeBelow (h.same k1) hi t ?_; rintro e w2 rfl k2
        rw [H4.out]
        go_wp2_with fail
        refine storeId ((h.same k1).same k2) (.fork t lo hi) hok hb ?_; rintro e w3 rfl s3 g3
        go_wp2_with fail
        exact HR.out _ _ rfl s3 ((Grew.under h (k1.tr k2)).trans g3)

/-- Track. -/
def trackA (L : List Nd) (i : Int) : Int :=
  if 0 ≤ i ∧ i < L.length then (match L[i.toNat]? with | some (.fork u _ _) => (u : Int) | _ => -1) else -2

/-- Kids. -/
def kidsA (L : List Nd) (i : Int) : Int × Int :=
  if 0 ≤ i ∧ i < L.length then (match L[i.toNat]? with | some (.fork _ lo hi) => ((lo : Int), (hi : Int)) | _ => (-1, -1)) else (-1, -1)

theorem storeTrack (h : StoreAt w a T L) (i : Int) (hR : ∀ e w', e = .returned (.int .i64 (trackA L i)) → Same w w' → R e w') :
    Calls Try.prog 34 #[.pointer (some ⟨a, 0, none⟩), .int .i64 i] w R := by
  have HR := hide hR
  clear hR
  by_cases hi : 0 ≤ i ∧ i < L.length
  · obtain ⟨k, rfl⟩ := Int.eq_ofNat_of_zero_le hi.1
    have hk : k < L.length := by omega
    obtain ⟨sa, cap, c1, c0, b1, b2, hn⟩ := h.node
    obtain ⟨g, rfl, hq⟩ := hn k hk
    obtain ⟨n, hnk⟩ : ∃ n, L[k]? = some n := ⟨_, List.getElem?_eq_getElem hk⟩
    have cn := hq k n hnk
    unfold maxLen at b2
    have H := hide h
    have hu : trackA L k = (match L[k]? with | some (.fork u _ _) => (u : Int) | _ => -1) := by unfold trackA; rw [if_pos hi, Int.toNat_natCast]
    rw [hnk] at hu
    rw [hu] at HR
    clear h hn hq hnk hu
    cases n with
    | leaf v =>
      simp only [Nd.val] at cn
      simp only [] at HR
      go_enter Try.func34, Try.ntmps34
      go_wp2_with fail
      refine storeIs H.out _ ?_; rintro e rfl
      rw [show (decide (0 ≤ (k : Int)) && decide ((k : Int) < L.length)) = true by simp; omega]
      go_wp2_with fail
      exact HR.out _ _ rfl ((Keeps.refl _ _).alloc _)
    | fork u lo hi =>
      simp only [Nd.val] at cn
      simp only [] at HR
      go_enter Try.func34, Try.ntmps34
      go_wp2_with fail
      refine storeIs H.out _ ?_; rintro e rfl
      rw [show (decide (0 ≤ (k : Int)) && decide ((k : Int) < L.length)) = true by simp; omega]
      go_wp2_with fail
      exact HR.out _ _ rfl ((Keeps.refl _ _).alloc _)
  · rw [show trackA L i = -2 from if_neg hi] at HR
    go_enter Try.func34, Try.ntmps34
    go_wp2_with fail
    refine storeIs h _ ?_; rintro e rfl
    rw [show (decide (0 ≤ i) && decide (i < L.length)) = false by simp; omega]
    go_wp2_with fail
    exact HR.out _ _ rfl (Keeps.refl _ _)

theorem storeKids (h : StoreAt w a T L) (i : Int) (hR : ∀ e w', e = .returned (.tuple #[.int .i64 (kidsA L i).1, .int .i64 (kidsA L i).2]) → Same w w' → R e w') :
    Calls Try.prog 37 #[.pointer (some ⟨a, 0, none⟩), .int .i64 i] w R := by
  have HR := hide hR
  clear hR
  by_cases hi : 0 ≤ i ∧ i < L.length
  · obtain ⟨k, rfl⟩ := Int.eq_ofNat_of_zero_le hi.1
    have hk : k < L.length := by omega
    obtain ⟨sa, cap, c1, c0, b1, b2, hn⟩ := h.node
    obtain ⟨g, rfl, hq⟩ := hn k hk
    obtain ⟨n, hnk⟩ : ∃ n, L[k]? = some n := ⟨_, List.getElem?_eq_getElem hk⟩
    have cn := hq k n hnk
    unfold maxLen at b2
    have H := hide h
    have hu : kidsA L k = (match L[k]? with | some (.fork _ lo hi) => ((lo : Int), (hi : Int)) | _ => (-1, -1)) := by unfold kidsA; rw [if_pos hi, Int.toNat_natCast]
    rw [hnk] at hu
    rw [hu] at HR
    clear h hn hq hnk hu
    cases n with
    | leaf v =>
      simp only [Nd.val] at cn
      simp only [] at HR
      go_enter Try.func37, Try.ntmps37
      go_wp2_with fail
      refine storeIs H.out _ ?_; rintro e rfl
      rw [show (decide (0 ≤ (k : Int)) && decide ((k : Int) < L.length)) = true by simp; omega]
      go_wp2_with fail
      exact HR.out _ _ rfl ((Keeps.refl _ _).alloc _)
    | fork u lo hi =>
      simp only [Nd.val] at cn
      simp only [] at HR
      go_enter Try.func37, Try.ntmps37
      go_wp2_with fail
      refine storeIs H.out _ ?_; rintro e rfl
      rw [show (decide (0 ≤ (k : Int)) && decide ((k : Int) < L.length)) = true by simp; omega]
      go_wp2_with fail
      go_quiet (fail)
      go_wp2_with fail
      exact HR.out _ _ rfl (((Keeps.refl _ _).alloc _).drewN _)
  · rw [show kidsA L i = (-1, -1) from if_neg hi] at HR
    go_enter Try.func37, Try.ntmps37
    go_wp2_with fail
    refine storeIs h _ ?_; rintro e rfl
    rw [show (decide (0 ≤ i) && decide (i < L.length)) = false by simp; omega]
    go_wp2_with fail
    exact HR.out _ _ rfl (Keeps.refl _ _)

end Go.Proofs.Ytohhjdadhdibfaa
