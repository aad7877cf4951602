/- The walks of Store.of, Store.Of. -/
import Derived.Test.YtohhjdadhdibfaaAt
namespace Go.Proofs.Ytohhjdadhdibfaa
open Go.RowKit

variable {R : Ending → World → Prop} {w : World} {a T : Nat} {L : List Nd}

/-- The node of letters with some bits, from a track on: d tracks are left. -/
def ofA (T : Nat) (row : List Int) : Nat → List Nd → Nat → List Nd × Int
  | 0, L, c => leafA L (row.getD c 0)
  | d + 1, L, c => mkA T (ofA T row d (ofA T row d L c).1 (c ||| 2 ^ (T - (d + 1)))).1 (T - (d + 1) : Nat) (ofA T row d L c).2 (ofA T row d (ofA T row d L c).1 (c ||| 2 ^ (T - (d + 1)))).2

theorem leafA_len (L : List Nd) (v : Int) : (leafA L v).1.length ≤ L.length + 1 := by
  unfold leafA; split
  · exact idOf_len.2
  · simp

theorem mkA_len (T : Nat) (L : List Nd) (t lo hi : Int) : (mkA T L t lo hi).1.length ≤ L.length + 1 := by
  unfold mkA; split
  · simp
  · split
    · simp
    · exact idOf_len.2

theorem ofA_len (T : Nat) (row : List Int) : ∀ (d : Nat) (L : List Nd) (c : Nat), (ofA T row d L c).1.length + 1 ≤ L.length + 2 ^ (d + 1)
  | 0, L, c => by have := leafA_len L (row.getD c 0); unfold ofA; omega
  | d + 1, L, c => by
    have h1 := ofA_len T row d L c
    have h2 := ofA_len T row d (ofA T row d L c).1 (c ||| 2 ^ (T - (d + 1)))
    have h3 := mkA_len T (ofA T row d (ofA T row d L c).1 (c ||| 2 ^ (T - (d + 1)))).1 (T - (d + 1) : Nat) (ofA T row d L c).2 (ofA T row d (ofA T row d L c).1 (c ||| 2 ^ (T - (d + 1)))).2
    unfold ofA
    have : 2 ^ (d + 1 + 1) = 2 ^ (d + 1) + 2 ^ (d + 1) := by rw [Nat.pow_succ]; omega
    omega

/-- The slice v lies apart from the Store. -/
def Apart (w : World) (a : Nat) (v : Value) : Prop := ∀ b, live v = some b → ¬ Foot w a b ∧ b < w.heap.size

theorem Apart.grew {w w' : World} {v : Value} (h : Apart w a v) (g : Grew a w w') : Apart w' a v := fun b hb =>
  ⟨fun hf => (g.foot b hf).elim (h b hb).1 fun h1 => by have := (h b hb).2; omega, Nat.lt_of_lt_of_le (h b hb).2 g.keeps.size⟩

theorem IntsAt.grew {w w' : World} {v : Value} {l : List Int} (h : IntsAt w v l) (ha : Apart w a v) (g : Grew a w w') : IntsAt w' v l :=
  h.keep g.keeps fun b hb => (ha b hb).1

theorem Apart.old {B : Nat} {v : Value} (hf : ∀ x, Foot w a x → B ≤ x) (hv : ∀ b, live v = some b → b < B) (hB : B ≤ w.heap.size) : Apart w a v :=
  fun b hb => ⟨fun h => by have := hf b h; have := hv b hb; omega, Nat.lt_of_lt_of_le (hv b hb) hB⟩

theorem Apart.cells {b o n c : Nat} {cs : Array Value} {t : TypeId} {fr : Nat × Nat} (h : StoreAt w a T L) (hb : w.heap[b]? = some (.cells cs t fr)) (h1 : t ≠ 91) (h2 : t ≠ 98) : Apart w a (.slice (some ⟨b, o, none⟩) n c) := by
  intro x hx
  cases n with
  | zero => simp [live] at hx
  | succ n => simp [live] at hx; subst hx; exact ⟨not_foot h hb h1 h2, heap_lt hb⟩

theorem Apart.same {w w' : World} {v : Value} {o : Obj} (h : Apart w a v) (hs : w.heap[a]? = some o) (k : Same w w') : Apart w' a v := h.grew (Grew.of_same hs k)

theorem or_lt {c t : Nat} (hc : c < 2 ^ t) : c ||| 2 ^ t < 2 ^ (t + 1) :=
  Nat.or_lt_two_pow (Nat.lt_of_lt_of_le hc (Nat.pow_le_pow_right (by decide) (by omega))) (Nat.pow_lt_pow_right (by decide) (by omega))

set_option maxHeartbeats 1000000 in
theorem storeOf (row : List Int) (v : Value) : ∀ (d : Nat) (t c : Nat) (L : List Nd) (w : World) (R : Ending → World → Prop), t + d = T → c < 2 ^ t → row.length = 2 ^ T →
    StoreAt w a T L → IntsAt w v row → Apart w a v → L.length + 2 ^ (d + 1) ≤ 1099511627776 →
    (∀ e w', e = .returned (.int .i64 (ofA T row d L c).2) → StoreAt w' a T (ofA T row d L c).1 → Grew a w w' → R e w') →
    Calls Try.prog 72 #[.pointer (some ⟨a, 0, none⟩), v, .int .i64 t, .int .i64 c] w R := by
  intro d
  induction d with
  | zero =>
    intro t c L w R htd hc hlen h hv hap hb hR
    have HR := hide hR
    clear hR
    obtain rfl : t = T := by omega
    obtain ⟨sa, cap, q1, q0, _⟩ := h.node
    have h64 := two_le h.wf.six
    obtain ⟨va, vc, rfl, hc1, hc2, hcell⟩ := hv.open
    have hck : c < row.length := by omega
    obtain ⟨vb, off, rfl, hvb, hcl⟩ := hcell c hck
    have hcc := hcl c hck
    obtain ⟨z, hz⟩ : ∃ z, z = row[c] := ⟨_, rfl⟩
    rw [← hz] at hcc
    have ez : row.getD c 0 = z := by rw [hz]; simp [List.getD, List.getElem?_eq_getElem hck]
    unfold ofA at HR
    rw [ez] at HR
    unfold maxLen at hc2
    have HB := hide hb
    clear hcell hcl ez hz hlen hb htd
    have h6 := h.wf.six
    have hteq : ((t : Int) == (t : Int)) = true := by simp
    go_enter Try.func72, Try.ntmps72
    go_wp2_with fail
    refine storeLeaf h z (by have := HB.out; omega) ?_; rintro e w1 rfl s1 g1
    go_wp2_with fail
    exact HR.out _ _ rfl s1 g1
  | succ d ih =>
    intro t c L w R htd hc hlen h hv hap hb hR
    have HR := hide hR
    clear hR
    obtain ⟨sa, cap, q1, q0, _⟩ := h.node
    have h6 := h.wf.six
    have et : T - (d + 1) = t := by omega
    unfold ofA at HR
    rw [et] at HR
    have hteq : ((t : Int) == (T : Int)) = false := by simp; omega
    have ht6 : t < 6 := by omega
    have hw2 := wrap_two (T := t) (by omega)
    have h64 := two_le (T := t) (by omega)
    have hor := i64_or_nat c (2 ^ t) (Nat.lt_of_lt_of_le hc (Nat.le_trans h64 (by decide))) (Nat.lt_of_le_of_lt h64 (by decide))
    clear h64
    have hol := or_lt hc
    have hl1 := ofA_len T row d L c
    have hl2 := ofA_len T row d (ofA T row d L c).1 (c ||| 2 ^ t)
    have h2 : L.length + (2 ^ (d + 1) + 2 ^ (d + 1)) ≤ 1099511627776 := by rw [Nat.pow_succ] at hb; omega
    clear hb
    have h3 : c < 2 ^ (t + 1) := Nat.lt_of_lt_of_le hc (Nat.pow_le_pow_right (by decide) (by omega))
    have HC := hide (And.intro hol h3)
    have HL : Hid (∃ q, 2 ^ (d + 1) = q ∧ (ofA T row d L c).1.length + 1 ≤ L.length + q ∧ (ofA T row d (ofA T row d L c).1 (c ||| 2 ^ t)).1.length + 1 ≤ (ofA T row d L c).1.length + q ∧ L.length + (q + q) ≤ 1099511627776) := hide ⟨_, rfl, hl1, hl2, h2⟩
    have HT := hide (And.intro htd hlen)
    have IH := hide ih
    clear ih hl1 hl2 h2 et hlen hol h3
    generalize 2 ^ t = p at hw2 hor HC HL HR hc
    generalize hcp : c ||| p = c2 at hor HC HL HR
    clear hcp hc
    generalize hr1 : ofA T row d L c = r1 at HR HL
    generalize hr2 : ofA T row d r1.1 c2 = r2 at HR HL
    have H1 := hide hr1
    have H2 := hide hr2
    clear hr1 hr2
    go_enter Try.func72, Try.ntmps72
    go_wp2_with fail
    refine IH.out (t + 1) c L _ _ (by have := HT.out.1; omega) HC.out.2 HT.out.2 h hv hap (by obtain ⟨q, e, e1, e2, e3⟩ := HL.out; (try rw [e]); omega) ?_; rw [H1.out]; rintro e w1 rfl s1 g1
    go_wp2_with fail
    refine IH.out (t + 1) c2 r1.1 _ _ (by have := HT.out.1; omega) HC.out.1 HT.out.2 s1 (hv.grew hap g1) (hap.grew g1) (by obtain ⟨q, e, e1, e2, e3⟩ := HL.out; (try rw [e]); omega) ?_; rw [H2.out]; rintro e w2 rfl s2 g2
    go_wp2_with fail
    refine storeMk s2 _ _ _ (by obtain ⟨q, e, e1, e2, e3⟩ := HL.out; (try rw [e]); omega) ?_; rintro e w3 rfl s3 g3
    go_wp2_with fail
    exact HR.out _ _ rfl s3 ((g1.trans g2).trans g3)

end Go.Proofs.Ytohhjdadhdibfaa
