/- The walks of fork.at, leaf.at, Store.At. -/
import Derived.Test.YtohhjdadhdibfaaStore3
import Derived.Test.YtohhjdadhdibfaaOrd
import Derived.Test.YtohhjdadhdibfaaBits
namespace Go.Proofs.Ytohhjdadhdibfaa
open Go.RowKit

variable {R : Ending → World → Prop} {w : World} {a T : Nat} {L : List Nd}

theorem leafAt (v : Int) (p : Value) (c : Value) (hR : ∀ e w', e = .returned (.int .i64 v) → Same w w' → R e w') :
    Calls Try.prog 140 #[.agg #[.int .i64 v], p, c] w R := by
  have HR := hide hR
  clear hR
  go_enter Try.func140, Try.ntmps140
  go_wp2_with fail
  exact HR.out _ _ rfl ((Keeps.refl _ _).alloc _)

/-- Which method is called, of a node. -/
def Nd.fn : Nd → Nat
  | .leaf _ => 140
  | .fork .. => 139

/-- The node as a receiver. -/
def Nd.recv : Nd → Value
  | .leaf v => .agg #[.int .i64 v]
  | .fork t lo hi => .agg #[.int .i64 t, .int .i64 lo, .int .i64 hi]

theorem method_leaf (k : Nat) (v : Int) (w : World) : (method (k + 1) 103 (.agg #[.int .i64 v]) "sibyl/bdd.at").run Try.prog w = .ok (140, .agg #[.int .i64 v]) w := by kernel_rfl
theorem method_fork (k : Nat) (t lo hi : Int) (w : World) : (method (k + 1) 95 (.agg #[.int .i64 t, .int .i64 lo, .int .i64 hi]) "sibyl/bdd.at").run Try.prog w = .ok (139, .agg #[.int .i64 t, .int .i64 lo, .int .i64 hi]) w := by kernel_rfl
attribute [go_sem] method_leaf method_fork

theorem forkAt (c t lo hi : Nat) (h : StoreAt w a T L) (hok : NdOk T L L.length (.fork t lo hi)) (hc : c < 64)
    (ih : ∀ (i : Nat) (n : Nd) (w : World) (R : Ending → World → Prop), (i = lo ∨ i = hi) → StoreAt w a T L → L[i]? = some n → (∀ e w', e = .returned (.int .i64 (val L i c)) → Same w w' → R e w') →
      Calls Try.prog n.fn #[n.recv, .pointer (some ⟨a, 0, none⟩), .int .i64 c] w R)
    (hR : ∀ e w', e = .returned (.int .i64 (val L (if c.testBit t then hi else lo) c)) → Same w w' → R e w') :
    Calls Try.prog 139 #[.agg #[.int .i64 t, .int .i64 lo, .int .i64 hi], .pointer (some ⟨a, 0, none⟩), .int .i64 c] w R := by
  have HR := hide hR
  clear hR
  obtain ⟨h1, h2, h3, h4, h5, h6⟩ := hok
  have h7 := h.wf.six
  have hbt := bit_test c t (by omega)
  obtain ⟨sa, cap, q1, q0, b1, b2, hn⟩ := h.node
  obtain ⟨g, rfl, hq⟩ := hn lo h2
  unfold maxLen at b2
  obtain ⟨nlo, hlo⟩ : ∃ n, L[lo]? = some n := ⟨_, List.getElem?_eq_getElem h2⟩
  obtain ⟨nhi, hhi⟩ : ∃ n, L[hi]? = some n := ⟨_, List.getElem?_eq_getElem h3⟩
  have clo := hq lo nlo hlo
  have chi := hq hi nhi hhi
  clear hn hq h4 h5 h6
  have H := hide h
  have IH := hide ih
  clear h ih
  cases hb : c.testBit t with
  | true =>
    rw [hb] at hbt HR
    have HX := hide hhi
    clear hb clo hlo hhi
    cases nhi
    all_goals
      go_enter Try.func139, Try.ntmps139
      go_wp2_with fail
      have r1 := cell_alloc q1 (.cells #[.int .i64 t, .int .i64 lo, .int .i64 hi] 95)
      have r2 := cell_alloc chi (.cells #[.int .i64 t, .int .i64 lo, .int .i64 hi] 95)
      have r3 : (w.alloc (.cells #[.int .i64 t, .int .i64 lo, .int .i64 hi] 95)).cell? ⟨w.heap.size, 2, none⟩ = some (.int .i64 hi) := cell_new _ _ _ _
      simp only [Nd.val] at r2
      refine wp_region_same (by kernel_rfl) (by kernel_rfl) ?_
      repeat
        (apply wpQuiet_step
         intro K hK
         first
           | (apply quiet_skip
              case hw => rfl
              go_simp
              refine hK _ ?_; clear hK K)
           | (apply quiet_do
              case hw => rfl
              case h =>
                intro w' hw'
                (have s1 := Keeps.cell hw' r1 trivial; have s2 := Keeps.cell hw' r2 trivial; have s3 := Keeps.cell hw' r3 trivial)
                go_simp
                first | exact rfl | (exact IH.out hi _ _ _ (.inr rfl) ((H.out.same ((Keeps.refl _ _).alloc _)).same hw') HX.out (fun e w'' he hk => ⟨he, hw'.tr hk⟩))
              go_simp
              refine hK _ ?_; clear hK K))
      apply wpQuiet_nil
      intro w1 k1
      go_wp2_with fail
      exact HR.out _ _ rfl (((Keeps.refl _ _).alloc _).tr k1)
  | false =>
    rw [hb] at hbt HR
    have HX := hide hlo
    clear hb chi hlo hhi
    cases nlo
    all_goals
      go_enter Try.func139, Try.ntmps139
      go_wp2_with fail
      have r1 := cell_alloc q1 (.cells #[.int .i64 t, .int .i64 lo, .int .i64 hi] 95)
      have r2 := cell_alloc clo (.cells #[.int .i64 t, .int .i64 lo, .int .i64 hi] 95)
      have r3 : (w.alloc (.cells #[.int .i64 t, .int .i64 lo, .int .i64 hi] 95)).cell? ⟨w.heap.size, 1, none⟩ = some (.int .i64 lo) := cell_new _ _ _ _
      simp only [Nd.val] at r2
      refine wp_region_same (by kernel_rfl) (by kernel_rfl) ?_
      repeat
        (apply wpQuiet_step
         intro K hK
         first
           | (apply quiet_skip
              case hw => rfl
              go_simp
              refine hK _ ?_; clear hK K)
           | (apply quiet_do
              case hw => rfl
              case h =>
                intro w' hw'
                (have s1 := Keeps.cell hw' r1 trivial; have s2 := Keeps.cell hw' r2 trivial; have s3 := Keeps.cell hw' r3 trivial)
                go_simp
                first | exact rfl | (exact IH.out lo _ _ _ (.inl rfl) ((H.out.same ((Keeps.refl _ _).alloc _)).same hw') HX.out (fun e w'' he hk => ⟨he, hw'.tr hk⟩))
              go_simp
              refine hK _ ?_; clear hK K))
      apply wpQuiet_nil
      intro w1 k1
      go_wp2_with fail
      exact HR.out _ _ rfl (((Keeps.refl _ _).alloc _).tr k1)

/-- A node's method, whichever it is. -/
theorem nodeAt (c : Nat) (hc : c < 64) : ∀ (i : Nat) (n : Nd) (w : World) (R : Ending → World → Prop), StoreAt w a T L → L[i]? = some n → (∀ e w', e = .returned (.int .i64 (val L i c)) → Same w w' → R e w') →
    Calls Try.prog n.fn #[n.recv, .pointer (some ⟨a, 0, none⟩), .int .i64 c] w R := by
  intro i
  induction i using Nat.strongRecOn with
  | ind i ih =>
    intro n w R h hn hR
    cases n with
    | leaf v =>
      refine leafAt v _ _ ?_
      rw [val_leaf hn] at hR
      exact hR
    | fork t lo hi =>
      have ok := h.wf.ok i _ hn
      have hi' := (List.getElem?_eq_some_iff.1 hn).1
      refine forkAt c t lo hi h ⟨ok.1, by have := ok.2.1; omega, by have := ok.2.2.1; omega, ok.2.2.2.1, ok.2.2.2.2.1, ok.2.2.2.2.2⟩ hc ?_ ?_
      · intro j m w R hj hs hm hR'
        exact ih j (by have := ok.2.1; have := ok.2.2.1; omega) m w R hs hm hR'
      · rw [← val_fork h.wf hn]
        exact hR

/-- At. -/
def atA (T : Nat) (L : List Nd) (i c : Int) : Int :=
  if 0 ≤ i ∧ i < L.length ∧ 0 ≤ c ∧ c < 2 ^ T then val L i.toNat c.toNat else -1

theorem wrap_two {T : Nat} (h : T ≤ 6) : wrap64 ((2 : Int) ^ T) = ((2 ^ T : Nat) : Int) := by
  have : T = 0 ∨ T = 1 ∨ T = 2 ∨ T = 3 ∨ T = 4 ∨ T = 5 ∨ T = 6 := by omega
  rcases this with rfl | rfl | rfl | rfl | rfl | rfl | rfl <;> (rw [IntWalk.wrap64_in _ (by decide)]; rfl)

theorem two_le {T : Nat} (h : T ≤ 6) : 2 ^ T ≤ 64 := Nat.pow_le_pow_right (by decide) h

theorem storeAtC (h : StoreAt w a T L) (i c : Int) (hR : ∀ e w', e = .returned (.int .i64 (atA T L i c)) → Same w w' → R e w') :
    Calls Try.prog 40 #[.pointer (some ⟨a, 0, none⟩), .int .i64 i, .int .i64 c] w R := by
  have HR := hide hR
  clear hR
  have h6 := h.wf.six
  have h64 := two_le h6
  by_cases hi : 0 ≤ i ∧ i < L.length
  · have hB : (decide (0 ≤ i) && decide (i < L.length)) = true := by simp; omega
    by_cases hc0 : c < 0
    · rw [show atA T L i c = -1 from if_neg (by omega)] at HR
      go_enter Try.func40, Try.ntmps40
      go_wp2_with fail
      refine storeIs h _ ?_; rintro e rfl
      rw [hB]
      go_wp2_with fail
      exact HR.out _ _ rfl (Keeps.refl _ _)
    · obtain ⟨c, rfl⟩ := Int.eq_ofNat_of_zero_le (show 0 ≤ c by omega)
      by_cases hc1 : c < 2 ^ T
      · obtain ⟨k, rfl⟩ := Int.eq_ofNat_of_zero_le hi.1
        have hk : k < L.length := by omega
        have hcz : (c : Int) < 2 ^ T := by exact_mod_cast hc1
        rw [show atA T L k c = val L k c from if_pos ⟨hi.1, hi.2, by omega, hcz⟩] at HR
        obtain ⟨sa, cap, c1, c0, b1, b2, hn⟩ := h.node
        obtain ⟨g, rfl, hq⟩ := hn k hk
        obtain ⟨n, hnk⟩ : ∃ n, L[k]? = some n := ⟨_, List.getElem?_eq_getElem hk⟩
        have cn := hq k n hnk
        unfold maxLen at b2
        have HN := hide (nodeAt (a := a) (T := T) (L := L) c (by omega) k)
        have hw2 := wrap_two h6
        generalize 2 ^ T = p at hw2 hc1 h64
        have HK := hide hnk
        clear hn hq hnk hcz
        cases n
        all_goals simp only [Nd.val] at cn
        all_goals
          go_enter Try.func40, Try.ntmps40
          go_wp2_with fail
          refine storeIs h _ ?_; rintro e rfl
          rw [hB]
          go_wp2_with fail
          refine storeTracks h ?_; rintro e rfl
          go_wp2_with fail
          refine HN.out _ _ _ h HK.out ?_; rintro e w1 rfl k1
          go_wp2_with fail
          exact HR.out _ _ rfl k1
      · rw [show atA T L i c = -1 from if_neg (by rintro ⟨_, _, _, h4⟩; exact hc1 (by exact_mod_cast h4))] at HR
        have hw2 := wrap_two h6
        generalize 2 ^ T = p at hw2 hc1 h64
        go_enter Try.func40, Try.ntmps40
        go_wp2_with fail
        refine storeIs h _ ?_; rintro e rfl
        rw [hB]
        go_wp2_with fail
        refine storeTracks h ?_; rintro e rfl
        go_wp2_with fail
        exact HR.out _ _ rfl (Keeps.refl _ _)
  · rw [show atA T L i c = -1 from if_neg (by omega)] at HR
    have hB : (decide (0 ≤ i) && decide (i < L.length)) = false := by simp; omega
    go_enter Try.func40, Try.ntmps40
    go_wp2_with fail
    refine storeIs h _ ?_; rintro e rfl
    rw [hB]
    go_wp2_with fail
    exact HR.out _ _ rfl (Keeps.refl _ _)

end Go.Proofs.Ytohhjdadhdibfaa
