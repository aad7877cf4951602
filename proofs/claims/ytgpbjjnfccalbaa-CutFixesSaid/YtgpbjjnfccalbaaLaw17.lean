/- The walks of sibyllaw17.may, is, known; the plain law that a row and a node agree. -/
import Derived.Test.YtgpbjjnfccalbaaRef17
namespace Go.Proofs.Ytgpbjjnfccalbaa
open Go.RowKit

attribute [local irreducible] wpQuiet wpPlan wpUp

variable {R : Ending → World → Prop} {w : World} {a T : Nat} {L : List Nd}

theorem val_valid (h : WF T L) (c : Nat) : ∀ i, i < L.length → isVal (val L i c) = true := by
  intro i
  induction i using Nat.strongRecOn with
  | ind i ih =>
    intro hi
    obtain ⟨n, hn⟩ : ∃ n, L[i]? = some n := ⟨_, List.getElem?_eq_getElem hi⟩
    cases n with
    | leaf v =>
      rw [val_leaf hn]
      have h1 : 0 ≤ v ∧ v ≤ 1099511627776 := h.ok i _ hn
      simpa [isVal] using h1
    | fork t lo hi' =>
      rw [val_fork h hn]
      have ok := h.ok i _ hn
      split
      · exact ih _ ok.2.2.1 ok.2.2.2.2.2.1
      · exact ih _ ok.2.1 ok.2.2.2.2.1.1

theorem row_of {row : List Int} {j : Nat} (hj : j < L.length) (hl : row.length = 2 ^ T) (hv : ∀ c, c < 2 ^ T → val L j c = row.getD c 0) : rowA T L j = row := by
  unfold rowA
  rw [if_pos ⟨by omega, by omega⟩, Int.toNat_natCast]
  refine row_ext (by simp [hl]) fun x hx => ?_
  have hx' : x < 2 ^ T := by simpa using hx
  rw [List.getD_eq_getElem?_getD, List.getElem?_map, List.getElem?_range hx']
  exact hv x hx'

theorem row_valid (h : WF T L) {row : List Int} {j : Nat} (hj : j < L.length) (hl : row.length = 2 ^ T) (hv : ∀ c, c < 2 ^ T → val L j c = row.getD c 0) : row.all isVal = true := by
  rw [List.all_eq_true]
  intro x hx
  obtain ⟨i, hi, rfl⟩ := List.getElem_of_mem hx
  have := hv i (by omega)
  rw [show row.getD i 0 = row[i] by simp [List.getD, List.getElem?_eq_getElem hi]] at this
  rw [← this]
  exact val_valid h i j hj

theorem all_bounds {row : List Int} (h : row.all isVal = true) : ∀ x ∈ row, InI64 x := fun x hx => by
  have := List.all_eq_true.1 h x hx
  simp [isVal] at this
  unfold InI64; omega

/-- The node and the reference's row agree. -/
theorem pair_ref {G : Int → Int → Option Int} (h : WF T L) {x y : Nat} {f g : List Int} {r : Int} {B : Nat} {u : Value} {ok : Bool}
    (hfx : ∀ c, c < 2 ^ T → val L x c = f.getD c 0) (hgy : ∀ c, c < 2 ^ T → val L y c = g.getD c 0) (hl : f.length = 2 ^ T) (ha : PairAns L G x y r) (hr : RefG G f g w B u ok) :
    (ok = true ∧ ∃ (j : Nat) (row : List Int), r = j ∧ j < L.length ∧ row.length = 2 ^ T ∧ OwnInts w B u row ∧ ∀ c, c < 2 ^ T → val L j c = row.getD c 0) ∨ (ok = false ∧ r = -1 ∧ u = .slice none 0 0) := by
  rcases hr with ⟨rfl, hall, ho⟩ | ⟨rfl, rfl, i, hi, hn⟩
  · left
    rcases ha with ⟨j, rfl, hj, _, hv⟩ | ⟨rfl, c, hc⟩
    · refine ⟨rfl, j, _, rfl, hj, by simp [rowG, hl], ho, fun c hc => ?_⟩
      have := hv c
      rw [hfx c hc, hgy c hc] at this
      unfold rowG
      rw [List.getD_eq_getElem?_getD, List.getElem?_map, List.getElem?_range (by omega)]
      simp only [Option.map_some, Option.getD_some, this]
    · exfalso
      rw [← val_mod h c x, ← val_mod h c y] at hc
      have hlt := Nat.mod_lt c (Nat.pow_pos (n := T) (show 0 < 2 by decide))
      rw [hfx _ hlt, hgy _ hlt] at hc
      obtain ⟨v, hv⟩ := hall (c % 2 ^ T) (by omega)
      rw [hv] at hc; cases hc
  · right
    rcases ha with ⟨j, rfl, hj, _, hv⟩ | ⟨rfl, c, hc⟩
    · exfalso
      rw [hl] at hi
      have := hv i
      rw [hfx i hi, hgy i hi, hn] at this
      cases this
    · exact ⟨rfl, rfl, rfl⟩

/-- Two rows made, one behind the other. -/
theorem of_two (h6 : T ≤ 6) (f g : List Int) (hl : f.length = 2 ^ T) (hgl : g.length = 2 ^ T) :
    (∃ (x y : Nat) (L1 L2 : List Nd), OfA T [] f = (L1, (x : Int)) ∧ OfA T L1 g = (L2, (y : Int)) ∧ WF T L1 ∧ WF T L2 ∧ L1 <+: L2 ∧ x < L1.length ∧ y < L2.length ∧ L1.length ≤ 127 ∧ L2.length ≤ 254 ∧ f.all isVal = true ∧ g.all isVal = true ∧
      (∀ c, c < 2 ^ T → val L2 x c = f.getD c 0) ∧ ∀ c, c < 2 ^ T → val L2 y c = g.getD c 0) ∨
    (∃ (i j : Int) (L1 L2 : List Nd), OfA T [] f = (L1, i) ∧ OfA T L1 g = (L2, j) ∧ (i = -1 ∨ (0 ≤ i ∧ j = -1)) ∧ L1.length ≤ 127 ∧ L2.length ≤ 254) := by
  have hlen1 := OfA_len T [] f h6
  have hlen2 := OfA_len T (OfA T [] f).1 g h6
  simp only [List.length_nil, Nat.zero_add] at hlen1
  have hlen3 : (OfA T (OfA T [] f).1 g).1.length ≤ 254 := by omega
  by_cases hf : f.all isVal = true
  · obtain ⟨x, hx, hxv⟩ := OfA_made (WF.nil h6) hl hf
    by_cases hg : g.all isVal = true
    · obtain ⟨y, hy, hyv⟩ := OfA_made hx.wf hgl hg
      left
      refine ⟨x, y, _, _, Prod.ext rfl hx.num, Prod.ext rfl hy.num, hx.wf, hy.wf, hy.pre, hx.lt, hy.lt, hlen1, hlen3, hf, hg, fun c hc => ?_, hyv⟩
      rw [val_prefix hx.wf hy.wf hy.pre c x hx.lt, hxv c hc]
    · right
      refine ⟨x, -1, _, (OfA T [] f).1, Prod.ext rfl hx.num, OfA_none (fun h => hg h.2), .inr ⟨by omega, rfl⟩, hlen1, by omega⟩
  · right
    have e := OfA_none (L := []) (T := T) (row := f) (fun h => hf h.2)
    rw [e] at hlen3
    exact ⟨-1, _, [], _, e, Prod.ext rfl rfl, .inl rfl, by simp, hlen3⟩

theorem may17 {t : Int} {v u : Value} {f g : List Int} (hv : IntsAt w v f) (hu : IntsAt w u g) (ht : InI64 t) (hR : ∀ e, e = .returned (.bool (decide (0 ≤ t ∧ t ≤ 6 ∧ f.length = 2 ^ t.toNat ∧ g.length = f.length))) → R e w) :
    Calls Try.prog 29 #[.int .i64 t, v, u] w R := by
  have HR := hide hR
  clear hR
  obtain ⟨va, vc, rfl, hc1, hc2, _⟩ := hv.open
  obtain ⟨ua, uc, rfl, hd1, hd2, _⟩ := hu.open
  unfold maxLen at hc2 hd2
  unfold InI64 at ht
  clear hv hu
  by_cases h1 : t < 0 ∨ 6 < t
  · have HF := hide (HR.out _ (ret_bool (a := false) (by symm; rw [decide_eq_false_iff_not]; omega)))
    rcases h1 with h1 | h1
    all_goals
      go_enter Try.func29, Try.ntmps29
      go_wp2_with fail
      exact HF.out
  · obtain ⟨T, rfl⟩ := Int.eq_ofNat_of_zero_le (show 0 ≤ t by omega)
    have h6 : T ≤ 6 := by omega
    have hw2 := wrap_two h6
    rw [Int.toNat_natCast] at HR
    clear h1 ht
    by_cases h2 : f.length = 2 ^ T
    · have hne : (((f.length : Nat) : Int) == ((2 ^ T : Nat) : Int)) = true := by rw [h2]; simp
      by_cases h3 : g.length = f.length
      · have hne3 : (((g.length : Nat) : Int) == ((f.length : Nat) : Int)) = true := by rw [h3]; simp
        have HF := hide (HR.out _ (ret_bool (a := true) (by symm; rw [decide_eq_true_iff]; exact ⟨by omega, by omega, h2, h3⟩)))
        clear h2 h3
        generalize 2 ^ T = p at hw2 hne
        go_enter Try.func29, Try.ntmps29
        go_wp2_with fail
        exact HF.out
      · have hne3 : (((g.length : Nat) : Int) == ((f.length : Nat) : Int)) = false := by rw [beq_eq_false_iff_ne]; omega
        have HF := hide (HR.out _ (ret_bool (a := false) (by symm; rw [decide_eq_false_iff_not]; exact fun h => h3 h.2.2.2)))
        clear h2 h3
        generalize 2 ^ T = p at hw2 hne
        go_enter Try.func29, Try.ntmps29
        go_wp2_with fail
        exact HF.out
    · have hne : (((f.length : Nat) : Int) == ((2 ^ T : Nat) : Int)) = false := by rw [beq_eq_false_iff_ne]; intro e; exact h2 (by exact_mod_cast e)
      have HF := hide (HR.out _ (ret_bool (a := false) (by symm; rw [decide_eq_false_iff_not]; exact fun h => h2 h.2.2.1)))
      clear h2
      generalize 2 ^ T = p at hw2 hne
      go_enter Try.func29, Try.ntmps29
      go_wp2_with fail
      exact HF.out

theorem is17Yes {u : Value} {row : List Int} {j : Nat} (h : StoreAt w a T L) (hu : IntsAt w u row) (hap : Apart w a u) (hj : j < L.length) (hl : row.length = 2 ^ T) (hv : ∀ c, c < 2 ^ T → val L j c = row.getD c 0) (hb : L.length + 128 ≤ 1099511627776)
    (hR : ∀ e w', e = .returned (.bool true) → StoreAt w' a T L → Grew a w w' → R e w') :
    Calls Try.prog 35 #[.pointer (some ⟨a, 0, none⟩), .int .i64 j, u, .bool true] w R := by
  have HR := hide hR
  clear hR
  have hrow := row_of hj hl hv
  have hall := row_valid h.wf hj hl hv
  have hof := OfA_have h.wf hl hall hj hv
  have HU := hide hu
  have HAP := hide hap
  have HB := hide (all_bounds hall)
  obtain ⟨v0, m0, e0, _⟩ := id h.st
  have HE := hide e0
  obtain ⟨ua, uc, rfl, hc1, hc2, _⟩ := hu.open
  unfold maxLen at hc2
  clear hu hap hv hl hall e0
  go_enter Try.func35, Try.ntmps35
  go_wp2_with fail
  refine storeRow h j ?_; rintro e w1 v1 rfl o1 k1
  rw [hrow] at o1
  have HO := hide (o1.ints HB.out)
  obtain ⟨oa, oc, rfl⟩ := o1.shape
  go_wp2_with fail
  refine sameInts HO.out (HU.out.same k1) ?_; rintro e w2 rfl k2
  rw [show decide (row = row) = true by simp]
  have HK := hide (k1.tr k2)
  clear k1 k2 o1
  go_wp2_with fail
  refine storeOfC (h.same HK.out) (HU.out.same HK.out) (HAP.out.same HE.out HK.out) hb ?_; rw [hof]; rintro e w3 rfl s3 g3
  have hjj : ((j : Int) == (j : Int)) = true := by simp
  have HF := hide (HR.out _ w3 rfl s3 ((Grew.under h HK.out).trans g3))
  clear s3 g3 hof
  go_wp2_with fail
  exact HF.out

theorem is17No {u : Value} (hR : ∀ e, e = .returned (.bool true) → R e w) :
    Calls Try.prog 35 #[.pointer (some ⟨a, 0, none⟩), .int .i64 (-1), u, .bool false] w R := by
  have HR := hide hR
  clear hR
  go_enter Try.func35, Try.ntmps35
  go_wp2_with fail
  exact HR.out _ rfl

theorem BothAns.yes {L' : List Nd} {x y : Nat} {k r : Int} (h : BothAns L L' x y k r) (hx : x < L.length) (hy : y < L.length) (h1 : 1 ≤ k) (h2 : k ≤ 1048576) : PairAns L' (bothG k) x y r := by
  rcases h.2.2 with ⟨_, _, _, _, _, _, hk⟩ | ⟨hn, _⟩
  · simpa using hk
  · exact absurd ⟨by omega, by omega, by omega, by omega, h1, h2⟩ hn

theorem BothAns.no {L' : List Nd} {x y k r : Int} (h : BothAns L L' x y k r) (hn : ¬ (0 ≤ x ∧ x < L.length ∧ 0 ≤ y ∧ y < L.length ∧ 1 ≤ k ∧ k ≤ 1048576)) : r = -1 ∧ L' = L := by
  rcases h.2.2 with ⟨q1, q2, q3, q4, q5, q6, _⟩ | ⟨_, h1⟩
  · exact absurd ⟨q1, q2, q3, q4, q5, q6⟩ hn
  · exact h1

theorem MapAns.yes {L' : List Nd} {x : Nat} {tl : List Int} {r : Int} (h : MapAns L L' x tl r) (hx : x < L.length) : PairAns L' (mapG tl) x x r := by
  rcases h.2.2 with ⟨_, _, hk⟩ | ⟨hn, _⟩
  · simpa using hk
  · exact absurd ⟨by omega, by omega⟩ hn

theorem MapAns.no {L' : List Nd} {x : Int} {tl : List Int} {r : Int} (h : MapAns L L' x tl r) (hn : ¬ (0 ≤ x ∧ x < L.length)) : r = -1 ∧ L' = L := by
  rcases h.2.2 with ⟨q1, q2, _⟩ | ⟨_, h1⟩
  · exact absurd ⟨q1, q2⟩ hn
  · exact h1

theorem known17 (hR : ∀ e w', e = .returned (.bool true) → Same w w' → R e w') : Calls Try.prog 33 #[] w R := by
  have HR := hide hR
  clear hR
  obtain ⟨B, hB⟩ : ∃ B, B = w.heap.size := ⟨_, rfl⟩
  have HB := hide hB
  clear hB
  go_enter Try.func33, Try.ntmps33
  go_wp2_with fail
  refine storeNew 0 (by decide) (by decide) ?_; rintro e w1 a rfl s1 k1 f1
  rw [← HB.out] at f1
  rw [show Int.toNat 0 = 0 from rfl] at s1
  have F1 := hide f1
  clear f1
  go_wp2_with fail
  refine storeLeaf s1 1 (by decide) ?_; rintro e w2 rfl s2 g2
  rw [show (leafA [] 1).2 = 0 by decide]
  rw [show (leafA [] 1).1 = [.leaf 1] by decide] at s2
  go_wp2_with fail
  refine storeLeaf s2 2 (by decide) ?_; rintro e w3 rfl s3 g3
  rw [show (leafA [.leaf 1] 2).2 = 1 by decide]
  rw [show (leafA [.leaf 1] 2).1 = [.leaf 1, .leaf 2] by decide] at s3
  go_wp2_with fail
  refine pairBoth s3 0 1 10 (by decide) ?_; rintro e w4 r L4 rfl s4 g4 a4
  have gg := hide ((g2.trans g3).trans g4)
  have K1 := hide k1
  have hp := BothAns.yes (x := 0) (y := 1) a4 (by decide) (by decide) (by decide) (by decide)
  have hpre := a4.1
  have wf4 := s4.wf
  have v0 : val L4 0 0 = 1 := val_leaf (get_prefix hpre (k := 0) (n := .leaf 1) rfl)
  have v1 : val L4 1 0 = 2 := val_leaf (get_prefix hpre (k := 1) (n := .leaf 2) rfl)
  have hb12 : bothG 10 1 2 = some 12 := by decide
  obtain ⟨j, rfl, hj, hjv⟩ : ∃ j : Nat, r = (j : Int) ∧ j < L4.length ∧ val L4 j 0 = 12 := by
    rcases hp with ⟨j, hj, hjl, _, hv⟩ | ⟨_, c, hc⟩
    · have := hv 0
      rw [v0, v1, hb12] at this
      exact ⟨j, hj, hjl, (Option.some.inj this).symm⟩
    · rw [← val_mod wf4 c 0, ← val_mod wf4 c 1] at hc
      simp only [Nat.pow_zero, Nat.mod_one] at hc
      rw [v0, v1, hb12] at hc; cases hc
  have hat : atA 0 L4 j 0 = 12 := by
    unfold atA
    rw [if_pos ⟨by omega, by omega, by decide, by decide⟩]
    simpa using hjv
  have HK : Hid (Same w w4) := hide (K1.out.trans (gg.out.below F1.out) fun x hx _ => ⟨trivial, by rw [HB.out]; exact hx⟩)
  clear hp hpre wf4 v0 v1 hb12 hjv a4 g2 g3 g4 k1
  go_wp2_with fail
  refine storeAtC s4 j 0 ?_; rw [hat]; rintro e w5 rfl k5
  go_wp2_with fail
  exact HR.out _ _ rfl (HK.out.tr k5)

end Go.Proofs.Ytgpbjjnfccalbaa
