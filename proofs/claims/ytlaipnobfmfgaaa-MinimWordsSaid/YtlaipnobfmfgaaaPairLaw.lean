/- The plain law of two functions at once. -/
import Derived.Test.YtlaipnobfmfgaaaPair
namespace Go.Proofs.Ytlaipnobfmfgaaa
open Go.RowKit

variable {T : Nat} {L : List Nd}

/-- Node r is f and g put together by G; or there is none. -/
def PairAns (L : List Nd) (G : Int → Int → Option Int) (f g : Nat) (r : Int) : Prop :=
  (∃ j : Nat, r = (j : Int) ∧ j < L.length ∧ (∀ t, From L f t → From L g t → From L j t) ∧ ∀ c, G (val L f c) (val L g c) = some (val L j c)) ∨ (r = -1 ∧ ∃ c, G (val L f c) (val L g c) = none)

theorem From.back {L' : List Nd} {i t : Nat} (h : From L' i t) (hp : L <+: L') : From L i t := fun u lo hi e => h u lo hi (get_prefix hp e)

theorem PairAns.prefx {L' : List Nd} {G : Int → Int → Option Int} {f g : Nat} {r : Int} (h : PairAns L G f g r) (hw : WF T L) (hw' : WF T L') (hp : L <+: L') (hf : f < L.length) (hg : g < L.length) : PairAns L' G f g r := by
  rcases h with ⟨j, e, hj, hfr, hv⟩ | ⟨e, c, hc⟩
  · refine .inl ⟨j, e, Nat.lt_of_lt_of_le hj hp.length_le, fun t h1 h2 => (hfr t (h1.back hp) (h2.back hp)).prefx hp hj, fun c => ?_⟩
    rw [val_prefix hw hw' hp c f hf, val_prefix hw hw' hp c g hg, val_prefix hw hw' hp c j hj, hv]
  · refine .inr ⟨e, c, ?_⟩
    rw [val_prefix hw hw' hp c f hf, val_prefix hw hw' hp c g hg, hc]

/-- What the memory holds. -/
def PMemo (L : List Nd) (G : Int → Int → Option Int) (A : List ((Int × Int) × Value)) : Prop :=
  ∀ p ∈ A, ∃ (f g : Nat) (r : Int), p = (((f : Int), (g : Int)), Value.int .i64 r) ∧ f < L.length ∧ g < L.length ∧ PairAns L G f g r

theorem PMemo.prefx {L' : List Nd} {G : Int → Int → Option Int} {A : List ((Int × Int) × Value)} (h : PMemo L G A) (hw : WF T L) (hw' : WF T L') (hp : L <+: L') : PMemo L' G A := fun p hpA => by
  obtain ⟨f, g, r, e, hf, hg, hr⟩ := h p hpA
  exact ⟨f, g, r, e, Nat.lt_of_lt_of_le hf hp.length_le, Nat.lt_of_lt_of_le hg hp.length_le, hr.prefx hw hw' hp hf hg⟩

/-- A node's two parts from a track on. -/
theorem parts_nat (hw : WF T L) {f u : Nat} (hf : f < L.length) (hfr : From L f u) :
    ∃ a b : Nat, (if trackA L f = (u : Int) then (kidsA L f).1 else (f : Int)) = (a : Int) ∧ (if trackA L f = (u : Int) then (kidsA L f).2 else (f : Int)) = (b : Int) ∧ a < L.length ∧ b < L.length ∧ From L a (u + 1) ∧ From L b (u + 1) ∧
      a ≤ f ∧ b ≤ f ∧ (trackA L f = (u : Int) → a < f ∧ b < f) ∧ ∀ c, val L f c = val L (if c.testBit u then b else a) c := by
  obtain ⟨n, hn⟩ : ∃ n, L[f]? = some n := ⟨_, List.getElem?_eq_getElem hf⟩
  have htr := trackA_nat hn
  by_cases hu : trackA L f = (u : Int)
  · cases n with
    | leaf v => simp only [Nd.track] at htr; omega
    | fork t lo hi =>
      simp only [Nd.track] at htr
      obtain rfl : t = u := by omega
      have ok := hw.ok f _ hn
      obtain ⟨_, o2, o3, _, o5, o6⟩ := ok
      rw [if_pos hu, if_pos hu, kidsA_nat hn]
      exact ⟨lo, hi, rfl, rfl, o5.1, o6.1, o5.from, o6.from, by omega, by omega, fun _ => ⟨o2, o3⟩, fun c => val_fork hw hn⟩
  · rw [if_neg hu, if_neg hu]
    have hfr2 : From L f (u + 1) := by
      intro t lo hi e
      have h1 := hfr t lo hi e
      rw [hn] at e
      obtain rfl := Option.some.inj e
      simp only [Nd.track] at htr
      rw [htr] at hu
      have : t ≠ u := fun h => hu (by rw [h])
      omega
    exact ⟨f, f, rfl, rfl, hf, hf, hfr2, hfr2, Nat.le_refl _, Nat.le_refl _, fun h => absurd h hu, fun c => by split <;> rfl⟩

/-- Where the top is below 0, both are leaves. -/
theorem top_leaves {f g : Nat} (hf : f < L.length) (hg : g < L.length) (h : topA L f g < 0) : ∃ x y, L[f]? = some (.leaf x) ∧ L[g]? = some (.leaf y) := by
  obtain ⟨n, hn⟩ : ∃ n, L[f]? = some n := ⟨_, List.getElem?_eq_getElem hf⟩
  obtain ⟨m, hm⟩ : ∃ m, L[g]? = some m := ⟨_, List.getElem?_eq_getElem hg⟩
  unfold topA at h
  cases n with
  | leaf x =>
    have h1 : trackA L f = -1 := trackA_nat hn
    cases m with
    | leaf y => exact ⟨x, y, hn, hm⟩
    | fork t lo hi =>
      have h2 : trackA L g = (t : Int) := trackA_nat hm
      rw [h1, h2] at h
      split at h <;> omega
  | fork u lo hi =>
    have h1 : trackA L f = (u : Int) := trackA_nat hn
    cases m with
    | leaf y =>
      have h2 : trackA L g = -1 := trackA_nat hm
      rw [h1, h2] at h
      split at h <;> omega
    | fork t lo' hi' =>
      have h2 : trackA L g = (t : Int) := trackA_nat hm
      rw [h1, h2] at h
      split at h <;> omega

/-- Where it is not, it is a track that one of them has, and none a lesser one. -/
theorem top_fork {f g t0 : Nat} (hf : f < L.length) (hg : g < L.length) (hff : From L f t0) (hgf : From L g t0) (h : ¬ topA L f g < 0) :
    ∃ u : Nat, topA L f g = (u : Int) ∧ t0 ≤ u ∧ From L f u ∧ From L g u ∧ (trackA L f = (u : Int) ∨ trackA L g = (u : Int)) := by
  obtain ⟨n, hn⟩ : ∃ n, L[f]? = some n := ⟨_, List.getElem?_eq_getElem hf⟩
  obtain ⟨m, hm⟩ : ∃ m, L[g]? = some m := ⟨_, List.getElem?_eq_getElem hg⟩
  have fr : ∀ {i : Nat} {n : Nd} {u : Nat}, L[i]? = some n → (∀ t lo hi, n = .fork t lo hi → u ≤ t) → From L i u := fun hi hh t lo hi' e => by
    rw [hi] at e; exact hh t lo hi' (Option.some.inj e)
  unfold topA at h ⊢
  cases n with
  | leaf x =>
    have h1 : trackA L f = -1 := trackA_nat hn
    cases m with
    | leaf y =>
      have h2 : trackA L g = -1 := trackA_nat hm
      rw [h1, h2] at h
      exact absurd (by split <;> omega) h
    | fork t lo hi =>
      have h2 : trackA L g = (t : Int) := trackA_nat hm
      rw [h1, h2]
      rw [if_pos (.inl (by omega))]
      exact ⟨t, rfl, hgf t lo hi hm, fr hn (by intro _ _ _ e; cases e), fr hm (by intro _ _ _ e; cases e; omega), .inr rfl⟩
  | fork u lo hi =>
    have h1 : trackA L f = (u : Int) := trackA_nat hn
    cases m with
    | leaf y =>
      have h2 : trackA L g = -1 := trackA_nat hm
      rw [h1, h2]
      rw [if_neg (by omega)]
      exact ⟨u, rfl, hff u lo hi hn, fr hn (by intro _ _ _ e; cases e; omega), fr hm (by intro _ _ _ e; cases e), .inl rfl⟩
    | fork t lo' hi' =>
      have h2 : trackA L g = (t : Int) := trackA_nat hm
      rw [h1, h2]
      have hu := hff u lo hi hn
      have ht := hgf t lo' hi' hm
      by_cases hlt : t < u
      · rw [if_pos (.inr ⟨by omega, by omega⟩)]
        exact ⟨t, rfl, ht, fr hn (by intro _ _ _ e; cases e; omega), fr hm (by intro _ _ _ e; cases e; omega), .inr rfl⟩
      · rw [if_neg (by omega)]
        exact ⟨u, rfl, hu, fr hn (by intro _ _ _ e; cases e; omega), fr hm (by intro _ _ _ e; cases e; omega), .inl rfl⟩

/-- Two halves that fit are one. -/
theorem pair_fork {G : Int → Int → Option Int} (hw : WF T L) {f g u a b c d : Nat} (hu : u < T) (hfa : ∀ x, val L f x = val L (if x.testBit u then b else a) x) (hgc : ∀ x, val L g x = val L (if x.testBit u then d else c) x)
    (hfu : trackA L f = (u : Int) ∨ trackA L g = (u : Int)) (hf : f < L.length) (hg : g < L.length)
    (ha : From L a (u + 1)) (hb : From L b (u + 1)) (hc : From L c (u + 1)) (hd : From L d (u + 1)) {j1 j2 : Nat}
    (h1 : PairAns L G a c j1) (h2 : PairAns L G b d j2) :
    ∃ k, Made T L (mkA T L u j1 j2) k ∧ (WF T (mkA T L u j1 j2).1 → PairAns (mkA T L u j1 j2).1 G f g k) := by
  rcases h1 with ⟨j1', e1, l1, f1, v1⟩ | ⟨e1, _⟩
  case inr => omega
  rcases h2 with ⟨j2', e2, l2, f2, v2⟩ | ⟨e2, _⟩
  case inr => omega
  obtain rfl : j1 = j1' := by exact_mod_cast e1
  obtain rfl : j2 = j2' := by exact_mod_cast e2
  have u1 : Under L j1 u := (f1 (u + 1) ha hc).under l1
  have u2 : Under L j2 u := (f2 (u + 1) hb hd).under l2
  obtain ⟨k, hk, hfr, hv⟩ := mkA_made hw hu u1 u2
  refine ⟨k, hk, fun hw' => .inl ⟨k, rfl, hk.lt, fun t ht1 ht2 => ?_, fun x => ?_⟩⟩
  · have htu : t ≤ u := by
      rcases hfu with h | h
      · obtain ⟨n, hn⟩ : ∃ n, L[f]? = some n := ⟨_, List.getElem?_eq_getElem hf⟩
        have htr := trackA_nat hn
        cases n with
        | leaf v => simp only [Nd.track] at htr; omega
        | fork t' lo hi =>
          simp only [Nd.track] at htr
          have := ht1 t' lo hi (get_prefix hk.pre hn)
          omega
      · obtain ⟨n, hn⟩ : ∃ n, L[g]? = some n := ⟨_, List.getElem?_eq_getElem hg⟩
        have htr := trackA_nat hn
        cases n with
        | leaf v => simp only [Nd.track] at htr; omega
        | fork t' lo hi =>
          simp only [Nd.track] at htr
          have := ht2 t' lo hi (get_prefix hk.pre hn)
          omega
    intro t' lo hi e
    have := hfr t' lo hi e
    omega
  · rw [hv, val_prefix hw hw' hk.pre x f hf, val_prefix hw hw' hk.pre x g hg, hfa, hgc]
    split
    · exact v2 x
    · exact v1 x

/-- A half that does not fit: none. -/
theorem pair_none {G : Int → Int → Option Int} (hw : WF T L) {f g u a b c d : Nat} (hfa : ∀ x, val L f x = val L (if x.testBit u then b else a) x) (hgc : ∀ x, val L g x = val L (if x.testBit u then d else c) x)
    (ha : From L a (u + 1)) (hb : From L b (u + 1)) (hc : From L c (u + 1)) (hd : From L d (u + 1))
    (h : (∃ x, G (val L a x) (val L c x) = none) ∨ ∃ x, G (val L b x) (val L d x) = none) : PairAns L G f g (-1) := by
  rcases h with ⟨x, hx⟩ | ⟨x, hx⟩
  · refine .inr ⟨rfl, setB x u false, ?_⟩
    rw [hfa, hgc, setB_at]
    simp only [Bool.false_eq_true, if_false]
    rw [val_agree hw a _ _ _ ha (setB_agree x u false), val_agree hw c _ _ _ hc (setB_agree x u false), hx]
  · refine .inr ⟨rfl, setB x u true, ?_⟩
    rw [hfa, hgc, setB_at]
    simp only [if_true]
    rw [val_agree hw b _ _ _ hb (setB_agree x u true), val_agree hw d _ _ _ hd (setB_agree x u true), hx]

end Go.Proofs.Ytlaipnobfmfgaaa
