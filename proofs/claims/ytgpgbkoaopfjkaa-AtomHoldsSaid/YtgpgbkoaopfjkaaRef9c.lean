/- The walks of sibylref9.is, Is. -/
import Derived.Test.YtgpgbkoaopfjkaaRef9b
namespace Go.Proofs.Ytgpgbkoaopfjkaa
open Go.RowKit

attribute [local irreducible] wpQuiet wpPlan wpPlanZ wpUp

variable {R : Ending → World → Prop} {w : World}

/-- One of the three others. -/
def Other (op : ByteArray) : Prop := op = ⟨#[110, 111, 116]⟩ ∨ op = ⟨#[97, 110, 100]⟩ ∨ op = ⟨#[101, 120]⟩

/-- What the answer tells of an atom. -/
def IsTells (op : ByteArray) (a b c N n : Int) (kn : Nat) (r : Bool) : Prop :=
  (r = true → (∃ o : AOp, op = o.name ∧ FieldsOk o a b c N n kn) ∨ (kn ≠ 0 ∧ Other op)) ∧ ((∃ o : AOp, op = o.name ∧ FieldsOk o a b c N n kn) → r = true)

theorem tells_no {op : ByteArray} {a b c N n : Int} {kn : Nat} (h : ¬ ∃ o : AOp, op = o.name ∧ FieldsOk o a b c N n kn) : IsTells op a b c N n kn false := ⟨fun e => (by cases e), fun hh => absurd hh h⟩

set_option maxRecDepth 10000 in
set_option maxHeartbeats 8000000 in
theorem refIsN : ∀ (h : Nat) (w : World) (op : ByteArray) (a b c N n : Int) (ka : Option Addr) (kn kc : Nat) (R : Ending → World → Prop), CoreIn w h (.agg #[.string op, .int .i64 a, .int .i64 b, .int .i64 c, .int .i64 N, .slice ka kn kc]) → 0 ≤ n → n ≤ 6 →
    (∀ e w' r, e = .returned (.bool r) → IsTells op a b c N n kn r → Same w w' → R e w') → Calls Try.prog 33 #[.agg #[.string op, .int .i64 a, .int .i64 b, .int .i64 c, .int .i64 N, .slice ka kn kc], .int .i64 n] w R := by
  intro h
  induction h with
  | zero => intro w op a b c N n ka kn kc R hv; exact hv.elim
  | succ h ih =>
    intro w op a b c N n ka kn kc R hv hn0 hn6 hR
    have HR := hide hR
    have IH := hide ih
    clear hR ih
    obtain ⟨h', op', a', b', c', n', ka', kn', kc', e1, e2, hc⟩ := hv.open
    simp only [Value.agg.injEq, Array.mk.injEq, List.cons.injEq, and_true, Value.string.injEq, Value.int.injEq, true_and, Value.slice.injEq] at e2
    obtain ⟨rfl, rfl, rfl, rfl, rfl, rfl, rfl, rfl⟩ := e2
    obtain rfl : h = h' := by omega
    have HC := hide hc.kid
    have hkc1 := hc.le
    have hkc2 := hc.mx
    unfold maxLen at hkc2
    have HK1 := hide ((Keeps.refl (fun _ => True) w).alloc (.cells #[.string op, .int .i64 a, .int .i64 b, .int .i64 c, .int .i64 N, .slice ka kn kc] 24))
    have HB1 := hide (heap_new w (.cells #[.string op, .int .i64 a, .int .i64 b, .int .i64 c, .int .i64 N, .slice ka kn kc] 24))
    clear hv hc e1
    go_enter Try.func33, Try.ntmps33
    go_wp2_with fail
    generalize w.alloc (.cells #[.string op, .int .i64 a, .int .i64 b, .int .i64 c, .int .i64 N, .slice ka kn kc] 24) = w1 at HK1 HB1 ⊢
    generalize w.heap.size = x at HB1 ⊢
    refine refHas ?_ ?_
    case refine_2 =>
      rintro e w2 rfl hno k2
      have HNF := hide (tells_no (a := a) (b := b) (c := c) (N := N) (n := n) (kn := kn) (op := op) fun ⟨o, ho, _⟩ => by
        obtain ⟨k, hk, he⟩ := name_row o
        exact hno k hk (by rw [he, ho]))
      have HK2 := hide (HK1.out.tr k2)
      clear hno k2
      go_wp2_with fail
      exact HR.out _ _ false rfl HNF.out HK2.out
    rintro e w2 k hk rfl hop k2
    obtain ⟨hs0, hhs⟩ : ∃ z, z = hasL[k] := ⟨_, rfl⟩
    obtain ⟨kd0, hkk⟩ : ∃ z, z = kidsL[k] := ⟨_, rfl⟩
    rw [← hhs, ← hkk]
    have HK2 := hide (HK1.out.tr k2)
    have HB2 := hide (k2.at HB1.out trivial)
    clear k2
    by_cases h13 : k = 13
    · subst h13
      have hop2 : op = ⟨#[101, 120]⟩ := hop.symm
      have hhs2 : hs0 = ⟨#[65]⟩ := hhs
      have hkk2 : kd0 = 1 := hkk
      have hnn : ∀ o : AOp, op ≠ o.name := fun o => by rw [← hop]; exact (name_others o).2.2
      clear hop hhs hkk
      have HNF := hide (tells_no (a := a) (b := b) (c := c) (N := N) (n := n) (kn := kn) (op := op) fun ⟨o, ho, _⟩ => hnn o ho)
      have HNN := hide hnn
      clear hnn
      subst hop2; subst hhs2; subst hkk2
      have q0 := cell_at HB2.out 0; have q4 := cell_at HB2.out 4; have q5 := cell_at HB2.out 5
      simp only [List.getElem?_toArray, List.getElem?_cons_zero, List.getElem?_cons_succ] at q0 q4 q5
      by_cases hkn : kn = 1
      case neg =>
        have hb : ((kn : Int) != 1) = true := by rw [bne_iff_ne]; omega
        go_wp2_with fail
        exact HR.out _ _ false rfl HNF.out HK2.out
      subst hkn
      go_wp2_with fail
      refine refField (k := 78) (by decide) ?_; rintro e w3 rfl k3
      have HB3 := hide (k3.at HB2.out trivial)
      have HK3 := hide (HK2.out.tr k3)
      clear q0 q4 q5 k3
      have q0 := cell_at HB3.out 0; have q1 := cell_at HB3.out 1; have q2 := cell_at HB3.out 2; have q3 := cell_at HB3.out 3; have q5 := cell_at HB3.out 5
      simp only [List.getElem?_toArray, List.getElem?_cons_zero, List.getElem?_cons_succ] at q0 q1 q2 q3 q5
      cases fieldB ⟨#[65]⟩ 78 N 21 with
      | false =>
        go_wp2_with fail
        exact HR.out _ _ false rfl HNF.out HK3.out
      | true =>
      by_cases h1 : a = n
      case neg =>
        have hb : (a == n) = false := by rw [beq_eq_false_iff_ne]; exact h1
        go_wp2_with fail
        exact HR.out _ _ false rfl HNF.out HK3.out
      by_cases h2 : n < 6
      case neg =>
        have hb : (a == n) = true := by rw [h1]; simp
        go_wp2_with fail
        exact HR.out _ _ false rfl HNF.out HK3.out
      by_cases h3 : b = 0
      case neg =>
        have hb : (a == n) = true := by rw [h1]; simp
        have hb2 : (b == 0) = false := by rw [beq_eq_false_iff_ne]; exact h3
        go_wp2_with fail
        exact HR.out _ _ false rfl HNF.out HK3.out
      by_cases h4 : c = 0
      case neg =>
        have hb : (a == n) = true := by rw [h1]; simp
        have hb2 : (b == 0) = true := by rw [h3]; rfl
        have hb3 : (c == 0) = false := by rw [beq_eq_false_iff_ne]; exact h4
        go_wp2_with fail
        exact HR.out _ _ false rfl HNF.out HK3.out
      have hb : (a == n) = true := by rw [h1]; simp
      have hb2 : (b == 0) = true := by rw [h3]; rfl
      have hb3 : (c == 0) = true := by rw [h4]; rfl
      clear h1 h3 h4
      obtain ⟨bl, off, rfl, op', a', b', c', n', ka', kn', kc', hkid, c0, c1, c2, c3, c4, c5⟩ := HC.out 0 (by omega)
      have c0 := Keeps.cell HK3.out c0 trivial
      have c1 := Keeps.cell HK3.out c1 trivial
      have c2 := Keeps.cell HK3.out c2 trivial
      have c3 := Keeps.cell HK3.out c3 trivial
      have c4 := Keeps.cell HK3.out c4 trivial
      have c5 := Keeps.cell HK3.out c5 trivial
      simp only [Nat.zero_mul, Nat.add_zero] at c0 c1 c2 c3 c4 c5
      have HKid := hide (CoreIn.same HK3.out hkid)
      clear hkid
      go_wp2_with fail
      refine IH.out _ _ _ _ _ _ _ _ _ _ _ HKid.out (by omega) (by omega) ?_; rintro e w7 r rfl _ k7
      have HK7 := hide (HK3.out.tr k7)
      have HTT : Hid (IsTells ⟨#[101, 120]⟩ a b c N n 1 r) := hide ⟨fun _ => .inr ⟨by omega, .inr (.inr rfl)⟩, fun hp => absurd hp (by rintro ⟨o, ho, _⟩; exact HNN.out o ho)⟩
      clear c0 c1 c2 c3 c4 c5 q0 q1 q2 q3 q5 k7
      go_wp2_with fail
      exact HR.out _ _ r rfl HTT.out HK7.out
    · obtain ⟨kd, hkd, hx, HSZ, HZ, HA, HT⟩ : ∃ kd : Nat, kidsL[k] = (kd : Int) ∧ (op.toList == [101, 120]) = false ∧ hasL[k].size ≤ 10 ∧ Hid (0 < kd → ¬ ∃ o : AOp, op = o.name ∧ FieldsOk o a b c N n kn) ∧
          Hid ((∃ o : AOp, op = o.name ∧ FieldsOk o a b c N n kn) → kn = kd ∧ fieldB hasL[k] 78 N 21 = true ∧ fieldB hasL[k] 65 a n = true ∧ fieldB hasL[k] 66 b n = true ∧ fieldB hasL[k] 67 c n = true) ∧
          Hid (kn = kd → fieldB hasL[k] 78 N 21 = true → fieldB hasL[k] 65 a n = true → fieldB hasL[k] 66 b n = true → fieldB hasL[k] 67 c n = true → IsTells op a b c N n kn true) := by
        rcases ops_row hk with ⟨o, e1, e2, e3⟩ | e
        · refine ⟨0, e3, by rw [← hop, e1]; exact name_ex o, by rw [e2]; cases o <;> decide, hide (fun h => absurd h (Nat.lt_irrefl _)), hide ?_, hide ?_⟩
          · rintro ⟨o', h1, h2⟩
            obtain rfl : o = o' := name_inj (by rw [← e1, hop, h1])
            have h0 : kn = 0 := h2.1
            subst h0
            rw [e2]
            exact ⟨rfl, (fields_ok _ _ _ _ _ _).1 h2⟩
          · intro h0 h1 h2 h3 h4
            subst h0
            rw [e2] at h1 h2 h3 h4
            have hf : ∃ o : AOp, op = o.name ∧ FieldsOk o a b c N n 0 := ⟨o, by rw [← hop, e1], (fields_ok _ _ _ _ _ _).2 ⟨h1, h2, h3, h4⟩⟩
            exact ⟨fun _ => .inl hf, fun _ => rfl⟩
        · have hk2 : k = 11 ∨ k = 12 := by omega
          have hno : ∀ o : AOp, op ≠ o.name := by
            rcases hk2 with rfl | rfl
            · exact fun o => by rw [← hop]; exact (name_others o).1
            · exact fun o => by rw [← hop]; exact (name_others o).2.1
          have hot : Other op := by
            rcases hk2 with rfl | rfl
            · exact .inl hop.symm
            · exact .inr (.inl hop.symm)
          have hkd : ∃ kd : Nat, kidsL[k] = (kd : Int) ∧ kd ≠ 0 := by
            rcases hk2 with rfl | rfl
            · exact ⟨1, rfl, by omega⟩
            · exact ⟨2, rfl, by omega⟩
          have hx : (op.toList == [101, 120]) = false := by
            rcases hk2 with rfl | rfl <;> (rw [← hop, ByteArray.toList_eq]; rfl)
          obtain ⟨kd, hkd, hk0⟩ := hkd
          exact ⟨kd, hkd, hx, by rcases hk2 with rfl | rfl <;> exact (show (0 : Nat) ≤ 10 by omega), hide (fun _ ⟨o, ho, _⟩ => hno o ho), hide (fun ⟨o, ho, _⟩ => absurd ho (hno o)), hide (fun h0 _ _ _ _ => ⟨fun _ => .inr ⟨by omega, hot⟩, fun _ => rfl⟩)⟩
      rw [← hhs] at HA HT HSZ
      rw [← hkk] at hkd
      subst hkd
      generalize hs0 = hs at HA HT HSZ ⊢
      clear hop h13 hhs hkk
      have q0 := cell_at HB2.out 0; have q1 := cell_at HB2.out 1; have q2 := cell_at HB2.out 2; have q3 := cell_at HB2.out 3; have q4 := cell_at HB2.out 4; have q5 := cell_at HB2.out 5
      simp only [List.getElem?_toArray, List.getElem?_cons_zero, List.getElem?_cons_succ] at q0 q1 q2 q3 q4 q5
      by_cases hkn : kn = kd
      case neg =>
        have HNF := hide (tells_no fun hp => hkn (HA.out hp).1)
        have hb : ((kn : Int) != (kd : Int)) = true := by rw [bne_iff_ne]; omega
        go_wp2_with fail
        exact HR.out _ _ false rfl HNF.out HK2.out
      have HKN := hide hkn
      have hb : ((kn : Int) != (kd : Int)) = false := by rw [hkn]; simp
      clear hkn
      go_wp2_with fail
      refine refField (k := 78) HSZ ?_; rintro e w3 rfl k3
      have HB3 := hide (k3.at HB2.out trivial)
      have HK3 := hide (HK2.out.tr k3)
      clear q0 q1 q2 q3 q4 q5 k3
      cases hf0 : fieldB hs 78 N 21 with
      | false =>
        have HNF := hide (tells_no fun hp => by have := (HA.out hp).2.1; rw [hf0] at this; cases this)
        clear hf0
        go_wp2_with fail
        exact HR.out _ _ false rfl HNF.out HK3.out
      | true =>
      have HF0 := hide hf0
      clear hf0
      have q0 := cell_at HB3.out 0; have q1 := cell_at HB3.out 1
      simp only [List.getElem?_toArray, List.getElem?_cons_zero, List.getElem?_cons_succ] at q0 q1
      go_wp2_with fail
      refine refField (k := 65) HSZ ?_; rintro e w4 rfl k4
      have HB4 := hide (k4.at HB3.out trivial)
      have HK4 := hide (HK3.out.tr k4)
      clear q0 q1 k4
      cases hf1 : fieldB hs 65 a n with
      | false =>
        have HNF := hide (tells_no fun hp => by have := (HA.out hp).2.2.1; rw [hf1] at this; cases this)
        clear hf1
        go_wp2_with fail
        exact HR.out _ _ false rfl HNF.out HK4.out
      | true =>
      have HF1 := hide hf1
      clear hf1
      have q2 := cell_at HB4.out 2
      simp only [List.getElem?_toArray, List.getElem?_cons_zero, List.getElem?_cons_succ] at q2
      go_wp2_with fail
      refine refField (k := 66) HSZ ?_; rintro e w5 rfl k5
      have HB5 := hide (k5.at HB4.out trivial)
      have HK5 := hide (HK4.out.tr k5)
      clear q2 k5
      cases hf2 : fieldB hs 66 b n with
      | false =>
        have HNF := hide (tells_no fun hp => by have := (HA.out hp).2.2.2.1; rw [hf2] at this; cases this)
        clear hf2
        go_wp2_with fail
        exact HR.out _ _ false rfl HNF.out HK5.out
      | true =>
      have HF2 := hide hf2
      clear hf2
      have q3 := cell_at HB5.out 3
      simp only [List.getElem?_toArray, List.getElem?_cons_zero, List.getElem?_cons_succ] at q3
      go_wp2_with fail
      refine refField (k := 67) HSZ ?_; rintro e w6 rfl k6
      have HB6 := hide (k6.at HB5.out trivial)
      have HK6 := hide (HK5.out.tr k6)
      clear q3 k6
      cases hf3 : fieldB hs 67 c n with
      | false =>
        have HNF := hide (tells_no fun hp => by have := (HA.out hp).2.2.2.2; rw [hf3] at this; cases this)
        clear hf3
        go_wp2_with fail
        exact HR.out _ _ false rfl HNF.out HK6.out
      | true =>
      have HYF := hide (HT.out HKN.out HF0.out HF1.out HF2.out hf3)
      clear hf3
      go_wp2_with fail
      go_loopw [8] (fun i wr => ∃ m : Nat, i = .int .i64 m ∧ m ≤ kd ∧ Same w6 wr) (fun i _ => kd - (intOf i).toNat)
      case atStart => exact ⟨0, rfl, Nat.zero_le _, Keeps.refl _ _⟩
      case round =>
        obtain ⟨m, rfl, hm, hK⟩ := hrel
        have HKK := hide hK
        by_cases hlt : m < kd
        · have q5 := cell_at (hK.at HB6.out trivial) 5
          simp only [List.getElem?_toArray, List.getElem?_cons_zero, List.getElem?_cons_succ] at q5
          have hmk : m < kn := by rw [HKN.out]; exact hlt
          obtain ⟨bl, off, rfl, op', a', b', c', n', ka', kn', kc', hkid, c0, c1, c2, c3, c4, c5⟩ := HC.out m hmk
          have hks := HK6.out.tr hK
          have c0 := Keeps.cell hks c0 trivial
          have c1 := Keeps.cell hks c1 trivial
          have c2 := Keeps.cell hks c2 trivial
          have c3 := Keeps.cell hks c3 trivial
          have c4 := Keeps.cell hks c4 trivial
          have c5 := Keeps.cell hks c5 trivial
          have HKid := hide (CoreIn.same hks hkid)
          have HNF := hide (tells_no (HZ.out (by omega)))
          clear hkid hks hK
          go_wp2_with fail
          refine IH.out _ _ _ _ _ _ _ _ _ _ _ HKid.out hn0 hn6 ?_; rintro e w7 r rfl _ k7
          have HK7 := hide (HKK.out.tr k7)
          clear c0 c1 c2 c3 c4 c5 q5 k7
          cases r with
          | false =>
            go_wp2_with fail
            exact HR.out _ _ false rfl HNF.out (HK6.out.tr HK7.out)
          | true =>
            go_wp2_with fail
            go_roundw
            case rel => exact ⟨m + 1, by go_num, by omega, HK7.out⟩
            case measure => simp [intOf]; omega
        · clear hK
          go_wp2_with fail
          exact HR.out _ _ true rfl HYF.out (HK6.out.tr HKK.out)

set_option maxRecDepth 10000 in
set_option maxHeartbeats 1000000 in
theorem refCount0 {op : ByteArray} {a b c n : Int} {ka : Option Addr} {kc : Nat} (hR : ∀ e w', e = .returned (.int .i64 1) → Same w w' → R e w') : Calls Try.prog 19 #[.agg #[.string op, .int .i64 a, .int .i64 b, .int .i64 c, .int .i64 n, .slice ka 0 kc], .int .i64 2001] w R := by
  have HR := hide hR
  clear hR
  have HK1 := hide ((Keeps.refl (fun _ => True) w).alloc (.cells #[.string op, .int .i64 a, .int .i64 b, .int .i64 c, .int .i64 n, .slice ka 0 kc] 24))
  have HB1 := hide (heap_new w (.cells #[.string op, .int .i64 a, .int .i64 b, .int .i64 c, .int .i64 n, .slice ka 0 kc] 24))
  go_enter Try.func19, Try.ntmps19
  go_wp2_with fail
  generalize w.alloc (.cells #[.string op, .int .i64 a, .int .i64 b, .int .i64 c, .int .i64 n, .slice ka 0 kc] 24) = w1 at HK1 HB1 ⊢
  generalize w.heap.size = x at HB1 ⊢
  go_loopw [5, 6] (fun u i wr => i = .int .i64 0 ∧ u = .int .i64 1 ∧ Same w1 wr) (fun _ _ _ => 0)
  case atStart => exact ⟨rfl, rfl, Keeps.refl _ _⟩
  case round =>
    obtain ⟨rfl, rfl, hK⟩ := hrel
    have q5 := cell_at (hK.at HB1.out trivial) 5
    simp only [List.getElem?_toArray, List.getElem?_cons_zero, List.getElem?_cons_succ] at q5
    have HK := hide (HK1.out.tr hK)
    clear hK
    go_wp2_with fail
    exact HR.out _ _ rfl HK.out

theorem refSize0 {op : ByteArray} {a b c n : Int} {ka : Option Addr} {kc : Nat} (hR : ∀ e w', e = .returned (.int .i64 1) → Same w w' → R e w') : Calls Try.prog 8 #[.agg #[.string op, .int .i64 a, .int .i64 b, .int .i64 c, .int .i64 n, .slice ka 0 kc]] w R := by
  have HR := hide hR
  clear hR
  have HK1 := hide ((Keeps.refl (fun _ => True) w).alloc (.cells #[.string op, .int .i64 a, .int .i64 b, .int .i64 c, .int .i64 n, .slice ka 0 kc] 24))
  go_enter Try.func8, Try.ntmps8
  go_wp2_with fail
  refine refCount0 ?_; rintro e w2 rfl k2
  have HK := hide (HK1.out.tr k2)
  clear k2
  go_wp2_with fail
  exact HR.out _ _ rfl HK.out

/-- May the formula be, as an atom? -/
def GoodC (op : ByteArray) (a b c N n : Int) (kn : Nat) : Prop := 0 ≤ n ∧ n ≤ 6 ∧ ∃ o : AOp, op = o.name ∧ FieldsOk o a b c N n kn

set_option maxRecDepth 10000 in
set_option maxHeartbeats 1000000 in
theorem refIs9 {h : Nat} {op : ByteArray} {a b c N n : Int} {ka : Option Addr} {kn kc : Nat} (hv : CoreIn w h (.agg #[.string op, .int .i64 a, .int .i64 b, .int .i64 c, .int .i64 N, .slice ka kn kc]))
    (hR : ∀ e w' r, e = .returned (.bool r) → (r = true → GoodC op a b c N n kn ∨ (kn ≠ 0 ∧ Other op)) → (GoodC op a b c N n kn → r = true) → Same w w' → R e w') :
    Calls Try.prog 15 #[.agg #[.string op, .int .i64 a, .int .i64 b, .int .i64 c, .int .i64 N, .slice ka kn kc], .int .i64 n] w R := by
  have HR := hide hR
  clear hR
  have hk1 : Same w (w.alloc (.cells #[.string op, .int .i64 a, .int .i64 b, .int .i64 c, .int .i64 N, .slice ka kn kc] 24)) := (Keeps.refl _ w).alloc _
  have HV := hide (CoreIn.same hk1 hv)
  have HK1 := hide hk1
  have HB1 := hide (heap_new w (.cells #[.string op, .int .i64 a, .int .i64 b, .int .i64 c, .int .i64 N, .slice ka kn kc] 24))
  clear hv hk1
  have HNO : Hid (¬ GoodC op a b c N n kn → (∀ w', Same w w' → R (.returned (.bool false)) w')) := hide (fun h w' hk => HR.out _ w' false rfl (fun e => by cases e) (fun hh => absurd hh h) hk)
  by_cases h0 : n < 0
  · have HNG := hide (HNO.out (fun h => by have := h.1; omega))
    go_enter Try.func15, Try.ntmps15
    go_wp2_with fail
    exact HNG.out _ HK1.out
  by_cases h6 : 6 < n
  · have HNG := hide (HNO.out (fun h => by have := h.2.1; omega))
    go_enter Try.func15, Try.ntmps15
    go_wp2_with fail
    exact HNG.out _ HK1.out
  have HGG : Hid (∀ r, IsTells op a b c N n kn r → (r = true → GoodC op a b c N n kn ∨ (kn ≠ 0 ∧ Other op)) ∧ (GoodC op a b c N n kn → r = true)) := hide (fun r ht => ⟨fun e => (ht.1 e).imp (fun h => ⟨by omega, by omega, h⟩) id, fun h => ht.2 h.2.2⟩)
  by_cases hkn : kn = 0
  · subst hkn
    go_enter Try.func15, Try.ntmps15
    go_wp2_with fail
    refine refSize0 ?_; rintro e w2 rfl k2
    have HB2 := hide (k2.at HB1.out trivial)
    have HV2 := hide (CoreIn.same k2 HV.out)
    have HK2 := hide (HK1.out.tr k2)
    have q0 := cell_at HB2.out 0; have q1 := cell_at HB2.out 1; have q2 := cell_at HB2.out 2; have q3 := cell_at HB2.out 3; have q4 := cell_at HB2.out 4; have q5 := cell_at HB2.out 5
    simp only [List.getElem?_toArray, List.getElem?_cons_zero, List.getElem?_cons_succ] at q0 q1 q2 q3 q4 q5
    clear k2
    go_wp2_with fail
    refine refIsN _ _ _ _ _ _ _ _ _ _ _ _ HV2.out (by omega) (by omega) ?_; rintro e w3 r rfl ht k3
    have HT := hide (HGG.out r ht)
    have HK3 := hide (HK2.out.tr k3)
    clear q0 q1 q2 q3 q4 q5 ht k3
    go_wp2_with fail
    exact HR.out _ _ r rfl HT.out.1 HT.out.2 HK3.out
  · have HNG := hide (HNO.out (fun h => by obtain ⟨_, _, o, _, hf⟩ := h; exact hkn hf.1))
    go_enter Try.func15, Try.ntmps15
    go_wp2_with fail
    refine refSize HV.out ?_; rintro e w2 r2 rfl _ _ k2
    have HB2 := hide (k2.at HB1.out trivial)
    have HV2 := hide (CoreIn.same k2 HV.out)
    have HK2 := hide (HK1.out.tr k2)
    have q0 := cell_at HB2.out 0; have q1 := cell_at HB2.out 1; have q2 := cell_at HB2.out 2; have q3 := cell_at HB2.out 3; have q4 := cell_at HB2.out 4; have q5 := cell_at HB2.out 5
    simp only [List.getElem?_toArray, List.getElem?_cons_zero, List.getElem?_cons_succ] at q0 q1 q2 q3 q4 q5
    clear k2
    by_cases hsz : r2 ≤ 2000
    · go_wp2_with fail
      refine refIsN _ _ _ _ _ _ _ _ _ _ _ _ HV2.out (by omega) (by omega) ?_; rintro e w3 r rfl ht k3
      have HT := hide (HGG.out r ht)
      have HK3 := hide (HK2.out.tr k3)
      clear q0 q1 q2 q3 q4 q5 ht k3
      go_wp2_with fail
      exact HR.out _ _ r rfl HT.out.1 HT.out.2 HK3.out
    · clear q0 q1 q2 q3 q4 q5
      go_wp2_with fail
      exact HNG.out _ HK2.out

end Go.Proofs.Ytgpgbkoaopfjkaa
