/- The walk of AtomMore. -/
import Derived.Test.YtgpgbkoaopfjkaaKnown25
import Derived.Test.YtgpgbkoaopfjkaaRef25d
import Derived.Test.YtgpgbkoaopfjkaaMoreLaw
import Derived.Test.YtgpgbkoaopfjkaaPkB
namespace Go.Proofs.Ytgpgbkoaopfjkaa
open Go.RowKit

attribute [local irreducible] wpQuiet wpPlan wpPlanZ wpUp

theorem mask25 {x n p : Nat} (hx : x < 64) (hn : n ≤ 6) (hp : 2 ^ n = p) : bits .and .i64 (x : Int) ((p : Int) - 1) = ((x % p : Nat) : Int) := by
  subst hp
  have h0 : 0 < 2 ^ n := Nat.pow_pos (by decide)
  have h6 : 2 ^ n ≤ 64 := two_le hn
  rw [show (((2 ^ n : Nat) : Int) - 1) = ((2 ^ n - 1 : Nat) : Int) by omega, i64_and_nat _ _ (by omega) (by omega), Nat.and_two_pow_sub_one_eq_mod]

/-- The letters cut. -/
def cut25 (p : Nat) (l : List Int) : List Int := l.map fun x => ((x.toNat % p : Nat) : Int)

theorem fields_more {o : AOp} {A B C N n m : Nat} (h : FieldsOk o A B C N n 0) (hnm : n ≤ m) : FieldsOk o A B C N m 0 := by
  obtain ⟨h1, h2, h3, h4, f1, f2, f3⟩ := h
  have ok : ∀ (j v : Nat), okVar o n j v → okVar o m j v := fun j v hv => by
    unfold okVar at hv ⊢
    split at hv
    · rename_i hj; rw [if_pos hj]; omega
    · rename_i hj; rw [if_neg hj]; exact hv
  exact ⟨h1, h2, h3, h4, ok 0 A f1, ok 1 B f2, ok 2 C f3⟩

theorem nats_of {l : List Int} {q : Nat} (h : ∀ x ∈ l, 0 ≤ x ∧ x < (q : Int)) : ∃ W : List Nat, l = W.map Int.ofNat ∧ ∀ c ∈ W, c < q := by
  refine ⟨l.map Int.toNat, ?_, fun c hc => ?_⟩
  · rw [List.map_map]
    refine (List.map_id l).symm.trans (List.map_congr_left fun x hx => ?_)
    have := h x hx
    show x = ((x.toNat : Nat) : Int)
    omega
  · obtain ⟨x, hx, rfl⟩ := List.mem_map.1 hc
    have := h x hx
    omega

theorem cut25_nat (p : Nat) (W : List Nat) : cut25 p (W.map Int.ofNat) = (W.map (· % p)).map Int.ofNat := by
  unfold cut25
  rw [List.map_map, List.map_map]
  rfl

theorem cut25_bounds {p : Nat} (hp : 0 < p) (h : p ≤ 64) (W : List Nat) : ∀ x ∈ (W.map (· % p)).map Int.ofNat, InI64 x := by
  intro x hx
  obtain ⟨y, hy, rfl⟩ := List.mem_map.1 hx
  obtain ⟨z, _, rfl⟩ := List.mem_map.1 hy
  have := Nat.mod_lt z hp
  unfold InI64
  simp only [Int.ofNat_eq_natCast]
  omega

set_option maxRecDepth 10000 in
set_option maxHeartbeats 8000000 in
theorem atomMoreWalk (vc : Value) (h : Nat) (n m : Int) (vl : Value) (l : List Int) (w : World) (hv : CoreIn w h vc) (_ : InI64 n) (_ : InI64 m) (hl : IntsAt w vl l) :
    Calls Try.prog 7 #[vc, .int .i64 n, .int .i64 m, vl] w fun e w' => e = .returned (.bool true) ∧ Below w.heap.size w w' := by
  refine law_of fun R HR => ?_
  obtain ⟨h', op, a, b, c, N, ka, kn, kc, e1, rfl, hc⟩ := hv.open
  have HL := hide hl
  obtain ⟨la, lc, rfl, hlc1, hlc2, hlcell⟩ := hl.open
  unfold maxLen at hlc2
  have HLC := hide hlcell
  have hkc1 := hc.le
  have hkc2 := hc.mx
  unfold maxLen at hkc2
  have HV := hide hv
  have hk1 : Same w (w.alloc (.cells #[.string op, .int .i64 a, .int .i64 b, .int .i64 c, .int .i64 N, .slice ka kn kc] 24)) := (Keeps.refl _ w).alloc _
  have HK1 := hide hk1
  have HB1 := hide (heap_new w (.cells #[.string op, .int .i64 a, .int .i64 b, .int .i64 c, .int .i64 N, .slice ka kn kc] 24))
  clear hv hl hc e1 hk1 hlcell
  go_enter Try.func7, Try.ntmps7
  go_wp2_with fail
  generalize w.alloc (.cells #[.string op, .int .i64 a, .int .i64 b, .int .i64 c, .int .i64 N, .slice ka kn kc] 24) = w1 at HK1 HB1 ⊢
  generalize w.heap.size = x at HB1 ⊢
  refine refIs9 (CoreIn.same HK1.out HV.out) ?_; rintro e w2 r rfl hr _ k2
  have HK2 := hide (HK1.out.tr k2)
  have HB2 := hide (k2.at HB1.out trivial)
  clear k2
  cases r with
  | false =>
    clear hr
    go_wp2_with fail
    exact HR.out _ _ rfl (HK2.out.mono fun _ _ _ => trivial)
  | true =>
  have q0 := cell_at HB2.out 0; have q1 := cell_at HB2.out 1; have q2 := cell_at HB2.out 2; have q3 := cell_at HB2.out 3; have q4 := cell_at HB2.out 4; have q5 := cell_at HB2.out 5
  simp only [List.getElem?_toArray, List.getElem?_cons_zero, List.getElem?_cons_succ] at q0 q1 q2 q3 q4 q5
  by_cases hkn : 0 < kn
  · clear hr
    go_wp2_with fail
    exact HR.out _ _ rfl (HK2.out.mono fun _ _ _ => trivial)
  obtain hg : GoodC op a b c N n kn := by
    rcases hr rfl with hh | ⟨hh, _⟩
    · exact hh
    · omega
  clear hr hkn
  by_cases hmn : m < n
  · have hk0 : kn = 0 := by obtain ⟨_, _, o, _, hf⟩ := hg; exact hf.1
    subst hk0
    clear hg
    go_wp2_with fail
    exact HR.out _ _ rfl (HK2.out.mono fun _ _ _ => trivial)
  by_cases hm6 : 6 < m
  · have hk0 : kn = 0 := by obtain ⟨_, _, o, _, hf⟩ := hg; exact hf.1
    subst hk0
    clear hg
    go_wp2_with fail
    exact HR.out _ _ rfl (HK2.out.mono fun _ _ _ => trivial)
  by_cases hlen : 60 < l.length
  · have hk0 : kn = 0 := by obtain ⟨_, _, o, _, hf⟩ := hg; exact hf.1
    subst hk0
    clear hg
    go_wp2_with fail
    exact HR.out _ _ rfl (HK2.out.mono fun _ _ _ => trivial)
  obtain ⟨o, A, B, C, N, n, rfl, rfl, rfl, rfl, rfl, rfl, rfl, hN, hn, hA, hB, hC, hF⟩ := good_nat hg
  obtain ⟨m, rfl⟩ := Int.eq_ofNat_of_zero_le (show 0 ≤ m by omega)
  have hnm : n ≤ m := by omega
  have hm : m ≤ 6 := by omega
  have HF := hide hF
  have HFM := hide (fields_more hF hnm)
  clear hg hF
  go_wp2_with fail
  refine atomOfGood hN hn hA hB hC HF.out (CoreIn.same HK2.out HV.out) ?_; rintro e w3 d1 rfl dd k3
  have HD3 := hide dd
  have HK3 := hide (HK2.out.tr k3)
  have q0 := Keeps.cell k3 q0 trivial; have q1 := Keeps.cell k3 q1 trivial; have q2 := Keeps.cell k3 q2 trivial; have q3 := Keeps.cell k3 q3 trivial; have q4 := Keeps.cell k3 q4 trivial; have q5 := Keeps.cell k3 q5 trivial
  clear dd k3
  go_wp2_with fail
  refine atomOfGood hN hm hA hB hC HFM.out (CoreIn.same HK3.out HV.out) ?_; rintro e w4 d2 rfl dd k4
  have HE4 := hide dd
  have HD4 := hide (HD3.out.same k4)
  have HK4 := hide (HK3.out.tr k4)
  have q0 := Keeps.cell k4 q0 trivial; have q1 := Keeps.cell k4 q1 trivial; have q2 := Keeps.cell k4 q2 trivial; have q3 := Keeps.cell k4 q3 trivial; have q4 := Keeps.cell k4 q4 trivial; have q5 := Keeps.cell k4 q5 trivial
  clear dd k4
  go_wp2_with fail
  refine refOfGood hN hn hA hB hC HF.out (CoreIn.same HK4.out HV.out) ?_; rintro e w5 u rfl hu k5
  obtain ⟨va, vn, rfl, hacc, hnext, _⟩ := hu
  obtain ⟨aa, ac, rfl, _⟩ := hacc.open
  obtain ⟨na, nc, rfl, _⟩ := hnext.open
  have HE5 := hide (HE4.out.same k5)
  have HD5 := hide (HD4.out.same k5)
  have HK5 := hide (HK4.out.tr k5)
  clear hacc hnext k5 q0 q1 q2 q3 q4 q5
  generalize (minAu (machAu o N A B C n)).T = tt
  generalize (minAu (machAu o N A B C n)).acc.length = t1
  generalize (minAu (machAu o N A B C n)).next.length = t2
  have kx : Same w5 (w5.alloc (.cells #[.int .i64 tt, .slice aa t1 ac, .slice na t2 nc] 33)) := (Keeps.refl _ w5).alloc _
  have HK6 := hide (HK5.out.tr kx)
  have HD6 := hide (HD5.out.same kx)
  have HE6 := hide (HE5.out.same kx)
  clear kx
  obtain ⟨p, hp⟩ : ∃ p, p = 2 ^ n := ⟨_, rfl⟩
  obtain ⟨q, hq⟩ : ∃ q, q = 2 ^ m := ⟨_, rfl⟩
  have HCNT := hide (more_count hN hnm hm HF.out)
  have HRUN : Hid (∀ W : List Nat, (∀ c ∈ W, c < q) → accA (minAu (machAu o N A B C n)) (runA (minAu (machAu o N A B C n)) ((W.map (· % p)).map Int.ofNat)) = accA (minAu (machAu o N A B C m)) (runA (minAu (machAu o N A B C m)) (W.map Int.ofNat))) := hide (fun W hW => by
    rw [hp]; rw [hq] at hW
    exact more_run hN hnm hm HF.out hW)
  generalize minAu (machAu o N A B C n) = M1 at HD6 HCNT HRUN
  generalize minAu (machAu o N A B C m) = M2 at HE6 HCNT HRUN
  have hw2 := wrap_two hn
  have h64p := two_le hn
  have h1p : 0 < 2 ^ n := Nat.pow_pos (by decide)
  have hwb : wrap64 ((2 : Int) ^ n - 1) = ((2 ^ n : Nat) : Int) - 1 := by
    have h := h64p
    have h' := h1p
    rw [show ((2 : Int) ^ n) = ((2 ^ n : Nat) : Int) by simp]
    generalize 2 ^ n = q at h h'
    exact IntWalk.wrap64_in _ ⟨by omega, by omega⟩
  have hw2m := wrap_two hm
  have h64q := two_le hm
  have h1q : 0 < 2 ^ m := Nat.pow_pos (by decide)
  rw [← hp] at hw2 h64p h1p hwb
  rw [← hq] at hw2m h64q h1q
  have HMASK := hide (fun (x : Nat) (hx : x < 64) => mask25 hx hn hp.symm)
  clear hp hq
  go_wp2_with fail
  generalize w5.alloc (.cells #[.int .i64 tt, .slice aa t1 ac, .slice na t2 nc] 33) = w6 at HK6 HD6 HE6 ⊢
  obtain ⟨B, hBs⟩ : ∃ B, B = w6.heap.size := ⟨_, rfl⟩
  have HBS := hide hBs
  clear hBs
  go_loopw [15, 16] (fun u i wr => ∃ k : Nat, i = .int .i64 k ∧ k ≤ l.length ∧ Hid (∀ x ∈ l.take k, 0 ≤ x ∧ x < (q : Int)) ∧ OwnInts wr B u (cut25 p (l.take k)) ∧ Same w6 wr) (fun _ i _ => l.length - (intOf i).toNat)
  case atStart => exact ⟨0, rfl, Nat.zero_le _, hide (by simp), World.ownsRow_nil _ _ _ _, Keeps.refl _ _⟩
  case round =>
    obtain ⟨k, rfl, hk, hall, hown, hK⟩ := hrel
    by_cases hlt : k < l.length
    · obtain ⟨bl, off, rfl, hbl, hcl⟩ := HLC.out k hlt
      have hck := Keeps.cell (HK6.out.tr hK) (hcl k hlt) trivial
      have hT := List.take_succ_eq_append_getElem hlt
      generalize l[k] = x at hck hT
      have HT := hide hT
      clear hcl hT
      by_cases hx0 : x < 0
      · clear hown
        go_wp2_with fail
        all_goals exact HR.out _ _ rfl ((HK6.out.tr hK).mono fun _ _ _ => trivial)
      · by_cases hx1 : (q : Int) ≤ x
        · clear hown
          go_wp2_with fail
          all_goals exact HR.out _ _ rfl ((HK6.out.tr hK).mono fun _ _ _ => trivial)
        · obtain ⟨y, rfl⟩ := Int.eq_ofNat_of_zero_le (show 0 ≤ x by omega)
          have hy64 : y < 64 := by omega
          have HX := hide (show (0 : Int) ≤ (y : Int) ∧ (y : Int) < (q : Int) by omega)
          have hmask := HMASK.out y hy64
          have hlen : (cut25 p (l.take k)).length = k := by unfold cut25; simp; omega
          obtain ⟨g, cap1, w2, hr, hown2, hk2, hg, _⟩ := append_one (P := Try.prog) wr 42 42 3 Try.underlying42 int_info rfl hown (by rw [HBS.out]; exact hK.size) (.int .i64 ((y % p : Nat) : Int)) rfl (by rw [hlen]; omega) (by decide)
          have hK2 : Same w6 w2 := by
            refine hK.trans hk2 fun x hx _ => ⟨trivial, ?_⟩
            intro e
            have := (ownsRow_block hown e).1
            rw [HBS.out] at this; omega
          have HO : Hid (OwnInts w2 B (.slice (some ⟨g, 0, none⟩) ((cut25 p (l.take k)).length + 1) cap1) (cut25 p (l.take (k + 1)))) := by
            refine hide ?_
            unfold OwnInts
            rw [HT.out]
            simpa [cut25] using hown2
          rw [hlen] at HO
          rw [hlen] at hr
          clear hown2 hown hk2 hlen
          go_wp2_with (at_builtin; refine wpList_append_run rfl _ _ _ rfl rfl rfl hr ?_; clear hr)
          go_roundw
          case rel =>
            refine ⟨k + 1, by go_num, by omega, hide (fun y hy => ?_), HO.out, hK2⟩
            rw [HT.out] at hy
            rcases List.mem_append.1 hy with hy | hy
            · exact hall.out y hy
            · simp at hy; subst hy; exact HX.out
          case measure => simp [intOf]; omega
    · obtain rfl : k = l.length := by omega
      have hall2 := hall.out
      rw [List.take_length] at hall2 hown
      obtain ⟨W, rfl, hWq⟩ := nats_of hall2
      rw [cut25_nat] at hown
      have HEQ := hide (HRUN.out W hWq)
      have HCB := hide (cut25_bounds h1p h64p W)
      have HI := hide (hown.ints HCB.out)
      have HKA := hide (HK6.out.tr hK)
      have HDA := hide (HD6.out.same hK)
      have HEA := hide (HE6.out.same hK)
      have hol : ((W.map (· % p)).map Int.ofNat).length = W.length := by simp
      clear hall hall2 hWq hown hK HLC
      go_wp2_with fail
      refine dfaRun HDA.out HI.out ?_; rintro e w7 rfl k7
      have HK7 := hide (HKA.out.tr k7)
      have HD7 := hide (HDA.out.same k7)
      have HE7 := hide (HEA.out.same k7)
      have hi7 := HL.out.same HK7.out
      rw [List.length_map] at hi7
      have HI7 := hide hi7
      clear hi7
      clear k7
      generalize accA M1 (runA M1 ((W.map (· % p)).map Int.ofNat)) = b1 at HEQ ⊢
      generalize runA M1 ((W.map (· % p)).map Int.ofNat) = r1
      go_wp2_with fail
      refine dfaRun HE7.out HI7.out ?_; rintro e w8 rfl k8
      have HK8 := hide (HK7.out.tr k8)
      have HD8 := hide (HD7.out.same k8)
      have HE8 := hide (HE7.out.same k8)
      clear k8
      generalize accA M2 (runA M2 (W.map Int.ofNat)) = b2 at HEQ ⊢
      generalize runA M2 (W.map Int.ofNat) = r2
      obtain rfl : b1 = b2 := HEQ.out
      cases b1 <;>
      · go_wp2_with fail
        refine dfaStates HD8.out ?_; rintro e rfl
        go_wp2_with fail
        refine dfaStates HE8.out ?_; rintro e rfl
        rw [HCNT.out]
        go_wp2_with fail
        refine known25 ?_; rintro e w9 rfl k9
        have HK9 := hide (HK8.out.tr k9)
        clear k9
        go_wp2_with fail
        exact HR.out _ _ rfl (HK9.out.mono fun _ _ _ => trivial)

end Go.Proofs.Ytgpgbkoaopfjkaa
