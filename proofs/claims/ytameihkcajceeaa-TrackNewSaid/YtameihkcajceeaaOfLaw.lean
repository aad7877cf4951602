/- The plain law of Of: what is made of a row gives the row; a row that a node gives already makes nothing. -/
import Derived.Test.YtameihkcajceeaaCanon
import Derived.Test.YtameihkcajceeaaRow
namespace Go.Proofs.Ytameihkcajceeaa

/-- A result (nodes, number) that is a node giving f. -/
structure Made (T : Nat) (L : List Nd) (r : List Nd × Int) (k : Nat) : Prop where
  num : r.2 = (k : Int)
  lt : k < r.1.length
  wf : WF T r.1
  pre : L <+: r.1

theorem leafA_made {T : Nat} {L : List Nd} (h : WF T L) {v : Int} (hv : isVal v = true) : ∃ k, Made T L (leafA L v) k ∧ ∀ c, val (leafA L v).1 k c = v := by
  have hv' : 0 ≤ v ∧ v ≤ 1099511627776 := by simpa [isVal] using hv
  have e : leafA L v = ((idOf L (.leaf v)).1, ((idOf L (.leaf v)).2 : Int)) := if_pos hv'
  rw [e]
  exact ⟨_, ⟨rfl, idOf_lt, idOf_wf h hv', idOf_prefix⟩, fun c => val_leaf idOf_get⟩

theorem made_have {T : Nat} {L : List Nd} {r : List Nd × Int} {k j : Nat} (h : WF T L) (hr : Made T L r k) (hj : j < L.length) (hv : ∀ c, val r.1 k c = val L j c) (hs : r.1 = L ∨ ∃ n, r.1 = L ++ [n] ∧ k = L.length) : r = (L, (j : Int)) := by
  have hlen : L.length ≤ r.1.length := hr.pre.length_le
  have e : k = j := canon hr.wf _ k j (Nat.le_refl _) hr.lt (by omega) fun c => by rw [hv c, val_prefix h hr.wf hr.pre c j hj]
  subst e
  rcases hs with hs | ⟨n, hs, h2⟩
  · exact Prod.ext hs hr.num
  · omega

theorem idOf_shape (L : List Nd) (n : Nd) : (idOf L n).1 = L ∨ ∃ m, (idOf L n).1 = L ++ [m] ∧ (idOf L n).2 = L.length := by
  by_cases h : n ∈ L
  · rw [idOf_mem h]; exact .inl rfl
  · rw [idOf_new h]; exact .inr ⟨n, rfl, rfl⟩

theorem leafA_have {T : Nat} {L : List Nd} (h : WF T L) {v : Int} (hv : isVal v = true) {j : Nat} (hj : j < L.length) (hg : ∀ c, val L j c = v) : leafA L v = (L, (j : Int)) := by
  have hv' : 0 ≤ v ∧ v ≤ 1099511627776 := by simpa [isVal] using hv
  have e : leafA L v = ((idOf L (.leaf v)).1, ((idOf L (.leaf v)).2 : Int)) := if_pos hv'
  obtain ⟨k, hk, hkv⟩ := leafA_made h hv
  refine made_have h hk hj (fun c => by rw [hkv, hg]) ?_
  have hn := hk.num
  rw [e] at hn ⊢
  have : (idOf L (.leaf v)).2 = k := Int.ofNat_inj.1 hn
  rw [← this]
  exact idOf_shape _ _

theorem mkA_eq {T : Nat} {L : List Nd} {t lo hi : Nat} (ht : t < T) (h1 : Under L lo t) (h2 : Under L hi t) :
    mkA T L t lo hi = if lo = hi then (L, (lo : Int)) else ((idOf L (.fork t lo hi)).1, ((idOf L (.fork t lo hi)).2 : Int)) := by
  unfold mkA
  rw [if_neg]
  · simp only [Int.ofNat_inj, Int.toNat_natCast]
  · rw [underB_iff.2 h1, underB_iff.2 h2]; simp; omega

theorem mkA_made {T : Nat} {L : List Nd} (h : WF T L) {t lo hi : Nat} (ht : t < T) (h1 : Under L lo t) (h2 : Under L hi t) :
    ∃ k, Made T L (mkA T L t lo hi) k ∧ From (mkA T L t lo hi).1 k t ∧ ∀ c, val (mkA T L t lo hi).1 k c = val L (if c.testBit t then hi else lo) c := by
  rw [mkA_eq ht h1 h2]
  by_cases e : lo = hi
  · subst e
    rw [if_pos rfl]
    exact ⟨lo, ⟨rfl, h1.1, h, List.prefix_rfl⟩, fun u l r hu => by have := h1.2 u l r hu; omega, fun c => by simp⟩
  · rw [if_neg e]
    have hok : NdOk T L L.length (.fork t lo hi) := ⟨ht, h1.1, h2.1, e, h1, h2⟩
    have hwf := idOf_wf h hok
    refine ⟨_, ⟨rfl, idOf_lt, hwf, idOf_prefix⟩, fun u l r hu => ?_, fun c => ?_⟩
    · simp only [idOf_get, Option.some.injEq, Nd.fork.injEq] at hu; omega
    · simp only []
      rw [val_fork hwf idOf_get]
      split
      · exact val_prefix h hwf idOf_prefix c _ h2.1
      · exact val_prefix h hwf idOf_prefix c _ h1.1

theorem mkA_have {T : Nat} {L : List Nd} (h : WF T L) {t lo hi j : Nat} (ht : t < T) (h1 : Under L lo t) (h2 : Under L hi t) (hj : j < L.length)
    (hg : ∀ c, val L j c = val L (if c.testBit t then hi else lo) c) : mkA T L t lo hi = (L, (j : Int)) := by
  obtain ⟨k, hk, _, hkv⟩ := mkA_made h ht h1 h2
  refine made_have h hk hj (fun c => by rw [hkv, hg]) ?_
  have hn := hk.num
  rw [mkA_eq ht h1 h2] at hn ⊢
  by_cases e : lo = hi
  · rw [if_pos e]; exact .inl rfl
  · rw [if_neg e] at hn ⊢
    have : (idOf L (.fork t lo hi)).2 = k := Int.ofNat_inj.1 hn
    rw [← this]
    exact idOf_shape _ _

theorem or_add {c t : Nat} (h : c < 2 ^ t) : c ||| 2 ^ t = c + 2 ^ t := by
  have := Nat.two_pow_add_eq_or_of_lt h 1
  rw [Nat.mul_one] at this
  rw [Nat.or_comm, ← this, Nat.add_comm]

theorem mod_bit (x t : Nat) : x % 2 ^ (t + 1) = if x.testBit t then x % 2 ^ t + 2 ^ t else x % 2 ^ t := by
  rw [Nat.mod_pow_succ, testBit_mod]
  have := Nat.mod_two_eq_zero_or_one (x / 2 ^ t)
  rcases this with h | h <;> simp [h]

theorem From.prefx {L L' : List Nd} {i t : Nat} (h : From L i t) (hp : L <+: L') (hi : i < L.length) : From L' i t := by
  obtain ⟨M, rfl⟩ := hp
  intro u lo hi' e
  rw [List.getElem?_append_left hi] at e
  exact h u lo hi' e

theorem From.under {L : List Nd} {i t : Nat} (h : From L i (t + 1)) (hi : i < L.length) : Under L i t := ⟨hi, fun u lo hi' e => h u lo hi' e⟩

theorem ofA_made {T : Nat} {row : List Int} (hlen : row.length = 2 ^ T) (hall : row.all isVal = true) : ∀ (d t c : Nat) (L : List Nd), t + d = T → c < 2 ^ t → WF T L →
    ∃ k, Made T L (ofA T row d L c) k ∧ From (ofA T row d L c).1 k t ∧ ∀ x, x < 2 ^ T → x % 2 ^ t = c → val (ofA T row d L c).1 k x = row.getD x 0 := by
  intro d
  induction d with
  | zero =>
    intro t c L htd hc h
    obtain rfl : t = T := by omega
    have hv : isVal (row.getD c 0) = true := by
      have hcl : c < row.length := by omega
      rw [List.getD_eq_getElem?_getD, List.getElem?_eq_getElem hcl]
      exact List.all_eq_true.1 hall _ (List.getElem_mem hcl)
    obtain ⟨k, hk, hkv⟩ := leafA_made h hv
    unfold ofA
    refine ⟨k, hk, fun u lo hi e => ?_, fun x hx hxc => ?_⟩
    · have := hk.wf.ok k _ e; have := this.1
      have hz := hkv (2 ^ u)
      -- a leaf's value is found at k, so it is no fork
      exfalso
      have hv2 : 0 ≤ row.getD c 0 ∧ row.getD c 0 ≤ 1099511627776 := by simpa [isVal] using hv
      have e2 : leafA L (row.getD c 0) = ((idOf L (.leaf (row.getD c 0))).1, ((idOf L (.leaf (row.getD c 0))).2 : Int)) := if_pos hv2
      have hn := hk.num
      rw [e2] at hn e
      have : (idOf L (.leaf (row.getD c 0))).2 = k := Int.ofNat_inj.1 hn
      rw [← this, idOf_get] at e
      cases e
    · rw [hkv]
      rw [Nat.mod_eq_of_lt hx] at hxc
      rw [hxc]
  | succ d ih =>
    intro t c L htd hc h
    have et : T - (d + 1) = t := by omega
    have h3 : c < 2 ^ (t + 1) := Nat.lt_of_lt_of_le hc (Nat.pow_le_pow_right (by decide) (by omega))
    obtain ⟨k1, hk1, hf1, hv1⟩ := ih (t + 1) c L (by omega) h3 h
    obtain ⟨k2, hk2, hf2, hv2⟩ := ih (t + 1) (c ||| 2 ^ t) (ofA T row d L c).1 (by omega) (or_lt hc) hk1.wf
    have hk1' : k1 < (ofA T row d (ofA T row d L c).1 (c ||| 2 ^ t)).1.length := Nat.lt_of_lt_of_le hk1.lt hk2.pre.length_le
    have u1 := (hf1.prefx hk2.pre hk1.lt).under hk1'
    have u2 := hf2.under hk2.lt
    obtain ⟨k, hk, hf, hkv⟩ := mkA_made hk2.wf (show t < T by omega) u1 u2
    unfold ofA
    rw [et, hk1.num, hk2.num]
    refine ⟨k, ⟨hk.num, hk.lt, hk.wf, (hk1.pre.trans hk2.pre).trans hk.pre⟩, hf, fun x hx hxc => ?_⟩
    rw [hkv]
    have hm := mod_bit x t
    rw [hxc] at hm
    cases hb : x.testBit t with
    | true =>
      rw [hb, if_pos rfl, ← or_add hc] at hm
      rw [if_pos rfl]
      exact hv2 x hx hm
    | false =>
      rw [hb, if_neg (by decide)] at hm
      rw [if_neg (by decide), val_prefix hk1.wf hk2.wf hk2.pre x k1 hk1.lt]
      exact hv1 x hx hm

theorem ofA_have {T : Nat} {row : List Int} (hlen : row.length = 2 ^ T) (hall : row.all isVal = true) {L : List Nd} (h : WF T L) : ∀ (d t c k : Nat), t + d = T → c < 2 ^ t → k < L.length → From L k t →
    (∀ x, x < 2 ^ T → x % 2 ^ t = c → val L k x = row.getD x 0) → ofA T row d L c = (L, (k : Int)) := by
  intro d
  induction d with
  | zero =>
    intro t c k htd hc hk hf hv
    obtain rfl : t = T := by omega
    unfold ofA
    have hcl : c < row.length := by omega
    have hval : isVal (row.getD c 0) = true := by
      rw [List.getD_eq_getElem?_getD, List.getElem?_eq_getElem hcl]
      exact List.all_eq_true.1 hall _ (List.getElem_mem hcl)
    refine leafA_have h hval hk fun x => ?_
    obtain ⟨n, hn⟩ : ∃ n, L[k]? = some n := ⟨_, List.getElem?_eq_getElem hk⟩
    cases n with
    | leaf v =>
      rw [val_leaf hn, ← hv c (by omega) (Nat.mod_eq_of_lt (by omega)), val_leaf hn]
    | fork u lo hi =>
      have := hf u lo hi hn
      have := (h.ok k _ hn).1
      omega
  | succ d ih =>
    intro t c k htd hc hk hf hv
    have et : T - (d + 1) = t := by omega
    have h3 : c < 2 ^ (t + 1) := Nat.lt_of_lt_of_le hc (Nat.pow_le_pow_right (by decide) (by omega))
    -- the two halves of k
    have halves : ∃ lo hi, lo < L.length ∧ hi < L.length ∧ From L lo (t + 1) ∧ From L hi (t + 1) ∧ ∀ x, val L k x = val L (if x.testBit t then hi else lo) x := by
      by_cases hfr : From L k (t + 1)
      · exact ⟨k, k, hk, hk, hfr, hfr, fun x => by simp⟩
      · obtain ⟨n, hn⟩ : ∃ n, L[k]? = some n := ⟨_, List.getElem?_eq_getElem hk⟩
        cases n with
        | leaf v => exact absurd (fun u lo hi e => by rw [hn] at e; cases e) hfr
        | fork u lo hi =>
          have hu := hf u lo hi hn
          have ok := h.ok k _ hn
          have hut : u = t := by
            rcases Nat.lt_or_ge t u with h1 | h1
            · exact absurd (fun u' lo' hi' e => by rw [hn] at e; cases e; omega) hfr
            · omega
          subst hut
          exact ⟨lo, hi, ok.2.2.2.2.1.1, ok.2.2.2.2.2.1, ok.2.2.2.2.1.from, ok.2.2.2.2.2.from, fun x => val_fork h hn⟩
    obtain ⟨lo, hi, hlo, hhi, flo, fhi, hkv⟩ := halves
    have e1 : ofA T row d L c = (L, (lo : Int)) := by
      refine ih (t + 1) c lo (by omega) h3 hlo flo fun x hx hxc => ?_
      have hm := mod_bit x t
      rw [hxc] at hm
      have hb : x.testBit t = false := by
        cases hb : x.testBit t with
        | false => rfl
        | true => rw [hb, if_pos rfl] at hm; omega
      rw [hb, if_neg (by decide)] at hm
      have := hv x hx hm.symm
      rw [hkv, hb, if_neg (by decide)] at this
      exact this
    have e2 : ofA T row d L (c ||| 2 ^ t) = (L, (hi : Int)) := by
      refine ih (t + 1) _ hi (by omega) (or_lt hc) hhi fhi fun x hx hxc => ?_
      have hm := mod_bit x t
      rw [hxc, or_add hc] at hm
      have hxt : x % 2 ^ t < 2 ^ t := Nat.mod_lt _ (Nat.pow_pos (by decide))
      have hb : x.testBit t = true := by
        cases hb : x.testBit t with
        | true => rfl
        | false => rw [hb, if_neg (by decide)] at hm; omega
      rw [hb, if_pos rfl] at hm
      have := hv x hx (by omega)
      rw [hkv, hb, if_pos rfl] at this
      exact this
    unfold ofA
    rw [et, e1]
    simp only [e2]
    exact mkA_have h (by omega) (flo.under hlo) (fhi.under hhi) hk hkv

/-- What Of makes. -/
theorem OfA_made {T : Nat} {L : List Nd} {row : List Int} (h : WF T L) (hlen : row.length = 2 ^ T) (hall : row.all isVal = true) :
    ∃ k, Made T L (OfA T L row) k ∧ ∀ x, x < 2 ^ T → val (OfA T L row).1 k x = row.getD x 0 := by
  obtain ⟨k, hk, _, hv⟩ := ofA_made hlen hall T 0 0 L (by omega) (by decide) h
  rw [show OfA T L row = ofA T row T L 0 from if_pos ⟨hlen, hall⟩]
  exact ⟨k, hk, fun x hx => hv x hx (by simp [Nat.mod_one])⟩

/-- A row that a node gives already. -/
theorem OfA_have {T : Nat} {L : List Nd} {row : List Int} (h : WF T L) (hlen : row.length = 2 ^ T) (hall : row.all isVal = true) {k : Nat} (hk : k < L.length) (hv : ∀ x, x < 2 ^ T → val L k x = row.getD x 0) :
    OfA T L row = (L, (k : Int)) := by
  rw [show OfA T L row = ofA T row T L 0 from if_pos ⟨hlen, hall⟩]
  exact ofA_have hlen hall h T 0 0 k (by omega) (by decide) hk (fun _ _ _ _ => Nat.zero_le _) (fun x hx _ => hv x hx)

/-- What is no row of values. -/
theorem OfA_none {T : Nat} {L : List Nd} {row : List Int} (h : ¬ (row.length = 2 ^ T ∧ row.all isVal = true)) : OfA T L row = (L, -1) := if_neg h

end Go.Proofs.Ytameihkcajceeaa
