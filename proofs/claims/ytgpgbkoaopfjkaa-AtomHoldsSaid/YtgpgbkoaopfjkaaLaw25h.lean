/- The walk of AtomHolds. -/
import Derived.Test.YtgpgbkoaopfjkaaKnown25
import Derived.Test.YtgpgbkoaopfjkaaHolds2
import Derived.Test.YtgpgbkoaopfjkaaPkB
namespace Go.Proofs.Ytgpgbkoaopfjkaa
open Go.RowKit

attribute [local irreducible] wpQuiet wpPlan wpPlanZ wpUp

theorem nats25 {l : List Int} {q : Nat} (h : ∀ x ∈ l, 0 ≤ x ∧ x < (q : Int)) : ∃ W : List Nat, l = W.map Int.ofNat ∧ ∀ c ∈ W, c < q := by
  refine ⟨l.map Int.toNat, ?_, fun c hc => ?_⟩
  · rw [List.map_map]
    refine (List.map_id l).symm.trans (List.map_congr_left fun x hx => ?_)
    have := h x hx
    show x = ((x.toNat : Nat) : Int)
    omega
  · obtain ⟨x, hx, rfl⟩ := List.mem_map.1 hc
    have := h x hx
    omega

/-- What the machine answers of a word is what the atom says of its sets. -/
theorem run_says {o : AOp} {N A B C n : Nat} (hok : AuOk (machAu o N A B C n)) (hF : FieldsOk o A B C N n 0) {W : List Nat} (hW : ∀ c ∈ W, c < 2 ^ n) :
    accA (minAu (machAu o N A B C n)) (runA (minAu (machAu o N A B C n)) (W.map Int.ofNat)) = if n = 0 then true else holdsO o N (maskOf W A) (maskOf W B) (maskOf W C) := by
  rw [run_holds hok hW]
  split
  · rename_i h0
    subst h0
    obtain rfl := only_tru hF
    rfl
  · rfl

set_option maxRecDepth 10000 in
set_option maxHeartbeats 4000000 in
theorem atomHoldsWalk (vc : Value) (h : Nat) (n : Int) (vl : Value) (l : List Int) (w : World) (hv : CoreIn w h vc) (_ : InI64 n) (hl : IntsAt w vl l) :
    Calls Try.prog 5 #[vc, .int .i64 n, vl] w fun e w' => e = .returned (.bool true) ∧ Below w.heap.size w w' := by
  refine law_of fun R HR => ?_
  obtain ⟨h', op, a, b, c, N, ka, kn, kc, e1, rfl, hc⟩ := hv.open
  have HL := hide hl
  obtain ⟨la, lc, rfl, hlc1, hlc2, hlcell⟩ := hl.open
  unfold maxLen at hlc2
  have HLC := hide hlcell
  have hkc1 := hc.le
  have hkc2 := hc.mx
  unfold maxLen at hkc2
  have HV := hide hv
  have hk1 : Same w (w.alloc (.cells #[.string op, .int .i64 a, .int .i64 b, .int .i64 c, .int .i64 N, .slice ka kn kc] 24)) := (Keeps.refl _ w).alloc _
  have HK1 := hide hk1
  have HB1 := hide (heap_new w (.cells #[.string op, .int .i64 a, .int .i64 b, .int .i64 c, .int .i64 N, .slice ka kn kc] 24))
  clear hv hl hc e1 hk1 hlcell
  go_enter Try.func5, Try.ntmps5
  go_wp2_with fail
  generalize w.alloc (.cells #[.string op, .int .i64 a, .int .i64 b, .int .i64 c, .int .i64 N, .slice ka kn kc] 24) = w1 at HK1 HB1 ⊢
  generalize w.heap.size = x at HB1 ⊢
  refine refIs9 (CoreIn.same HK1.out HV.out) ?_; rintro e w2 r rfl hr _ k2
  have HK2 := hide (HK1.out.tr k2)
  have HB2 := hide (k2.at HB1.out trivial)
  clear k2
  cases r with
  | false =>
    clear hr
    go_wp2_with fail
    exact HR.out _ _ rfl (HK2.out.mono fun _ _ _ => trivial)
  | true =>
  have q0 := cell_at HB2.out 0; have q1 := cell_at HB2.out 1; have q2 := cell_at HB2.out 2; have q3 := cell_at HB2.out 3; have q4 := cell_at HB2.out 4; have q5 := cell_at HB2.out 5
  simp only [List.getElem?_toArray, List.getElem?_cons_zero, List.getElem?_cons_succ] at q0 q1 q2 q3 q4 q5
  by_cases hkn : 0 < kn
  · clear hr
    go_wp2_with fail
    exact HR.out _ _ rfl (HK2.out.mono fun _ _ _ => trivial)
  obtain hg : GoodC op a b c N n kn := by
    rcases hr rfl with hh | ⟨hh, _⟩
    · exact hh
    · omega
  clear hr hkn
  by_cases hlen : 16 < l.length
  · have hk0 : kn = 0 := by obtain ⟨_, _, o, _, hf⟩ := hg; exact hf.1
    subst hk0
    clear hg
    go_wp2_with fail
    exact HR.out _ _ rfl (HK2.out.mono fun _ _ _ => trivial)
  obtain ⟨o, A, B, C, N, n, rfl, rfl, rfl, rfl, rfl, rfl, rfl, hN, hn, hA, hB, hC, hF⟩ := good_nat hg
  have HF := hide hF
  obtain ⟨q, hq⟩ : ∃ q, q = 2 ^ n := ⟨_, rfl⟩
  have HRUN : Hid (∀ W : List Nat, (∀ c ∈ W, c < q) → accA (minAu (machAu o N A B C n)) (runA (minAu (machAu o N A B C n)) (W.map Int.ofNat)) = if n = 0 then true else holdsO o N (maskOf W A) (maskOf W B) (maskOf W C)) := hide (fun W hW => by
    rw [hq] at hW
    exact run_says (machAu_ok hN hn) HF.out hW)
  have hw2m := wrap_two hn
  have h64q := two_le hn
  rw [← hq] at hw2m h64q
  clear hg hF hq
  go_wp2_with fail
  go_loopw [7] (fun i wr => ∃ k : Nat, i = .int .i64 k ∧ k ≤ l.length ∧ Hid (∀ x ∈ l.take k, 0 ≤ x ∧ x < (q : Int)) ∧ Same w2 wr) (fun i _ => l.length - (intOf i).toNat)
  case atStart => exact ⟨0, rfl, Nat.zero_le _, hide (by simp), Keeps.refl _ _⟩
  case round =>
    obtain ⟨k, rfl, hk, hall, hK⟩ := hrel
    have HKR := hide hK
    by_cases hlt : k < l.length
    · obtain ⟨bl, off, rfl, hbl, hcl⟩ := HLC.out k hlt
      have hck := Keeps.cell (HK2.out.tr hK) (hcl k hlt) trivial
      have hT := List.take_succ_eq_append_getElem hlt
      generalize l[k] = x at hck hT
      have HT := hide hT
      clear hcl hT hK q0 q1 q2 q3 q4 q5
      by_cases hx0 : x < 0
      · go_wp2_with fail
        all_goals exact HR.out _ _ rfl ((HK2.out.tr HKR.out).mono fun _ _ _ => trivial)
      · by_cases hx1 : (q : Int) ≤ x
        · go_wp2_with fail
          all_goals exact HR.out _ _ rfl ((HK2.out.tr HKR.out).mono fun _ _ _ => trivial)
        · have HX := hide (show (0 : Int) ≤ x ∧ x < (q : Int) by omega)
          go_wp2_with fail
          go_roundw
          case rel =>
            refine ⟨k + 1, by go_num, by omega, hide (fun y hy => ?_), HKR.out⟩
            rw [HT.out] at hy
            rcases List.mem_append.1 hy with hy | hy
            · exact hall.out y hy
            · simp at hy; subst hy; exact HX.out
          case measure => simp [intOf]; omega
    · obtain rfl : k = l.length := by omega
      have hall2 := hall.out
      rw [List.take_length] at hall2
      obtain ⟨W, rfl, hWq⟩ := nats25 hall2
      have HEQ := hide (HRUN.out W hWq)
      have HW64 := hide (show ∀ y ∈ W, y < 64 from fun y hy => by have := hWq y hy; omega)
      have hWl : W.length ≤ 16 := by simpa using hlen
      have HKA := hide (HK2.out.tr hK)
      have q0 := Keeps.cell hK q0 trivial; have q1 := Keeps.cell hK q1 trivial; have q2 := Keeps.cell hK q2 trivial; have q3 := Keeps.cell hK q3 trivial; have q4 := Keeps.cell hK q4 trivial; have q5 := Keeps.cell hK q5 trivial
      have HBA := hide (hK.at HB2.out trivial)
      have hl2 := HL.out
      rw [List.length_map] at hl2 hlc1 ⊢
      have HL2 := hide hl2
      clear hall hall2 hWq hK HLC hl2 HL
      go_wp2_with fail
      refine atomOfGood hN hn hA hB hC HF.out (CoreIn.same HKA.out HV.out) ?_; rintro e w3 d rfl dd k3
      have HD3 := hide dd
      have HK3 := hide (HKA.out.tr k3)
      have HB3 := hide (k3.at HBA.out trivial)
      clear dd k3 q0 q1 q2 q3 q4 q5
      go_wp2_with fail
      refine dfaRun HD3.out (HL2.out.same HK3.out) ?_; rintro e w4 rfl k4
      have HK4 := hide (HK3.out.tr k4)
      have HB4 := hide (k4.at HB3.out trivial)
      clear k4
      generalize accA (minAu (machAu o N A B C n)) (runA (minAu (machAu o N A B C n)) (W.map Int.ofNat)) = acc at HEQ ⊢
      generalize runA (minAu (machAu o N A B C n)) (W.map Int.ofNat) = st
      go_wp2_with fail
      have kd : Same w4 w4.drew := Keeps.drew (Keeps.refl (fun _ => True) w4)
      refine wp_region_plan (.take 0 (.take 1 (.take 2 (.take 3 (.one 4 (.one 5 (.take 6 (.take 7 (.one 8 (.take 9 (.take 10 .done))))))))))) (fun w' => w'.heap[x]? = some (.cells #[.string o.name, .int .i64 (A : Int), .int .i64 (B : Int), .int .i64 (C : Int), .int .i64 (N : Int), .slice ka 0 kc] 24 (0, 0))) (by kernel_rfl) (by kernel_rfl) (kd.at HB4.out trivial) ?_
      iterate 4
        (first
           | (apply pl_pass
              case ho => rfl
              case hw => rfl
              go_simp)
           | (apply pl_take
              case ho => rfl
              case hw => rfl
              case hv =>
                intro w' hS
                (have q0 := cell_at hS 0; have q1 := cell_at hS 1; have q2 := cell_at hS 2; have q3 := cell_at hS 3; have q4 := cell_at hS 4; have q5 := cell_at hS 5; simp only [List.getElem?_toArray, List.getElem?_cons_zero, List.getElem?_cons_succ] at q0 q1 q2 q3 q4 q5)
                go_simp
                exact rfl
              go_simp))
      refine pl_one (up_do rfl rfl fun K hK1 => ?_)
      go_simp
      refine refMasks (HL2.out.same (HK4.out.tr kd)) HW64.out hn hWl ?_; rintro e w5 u rfl hu k5
      have c5 := kd.tr k5
      refine hK1 _ _ _ (c5.at HB4.out trivial) (fun _ h => h) ?_
      clear hK1 K
      refine pl_one (up_do rfl rfl fun K hK1 => ?_)
      go_simp
      refine refHolds hN hn HF.out hWl (CoreIn.same (HK4.out.tr c5) HV.out) hu ?_; rintro e w6 rfl k6
      have c6 := c5.tr k6
      refine hK1 _ _ _ (c6.at HB4.out trivial) (fun _ h => h) ?_
      clear hK1 K
      rw [← HEQ.out]
      have HK6 := hide (HK4.out.tr c6)
      have HB6 := hide (c6.at HB4.out trivial)
      clear hu k5 k6 c5 c6 kd
      cases acc
      all_goals
        iterate 2
          (first
             | (apply pl_pass
                case ho => rfl
                case hw => rfl
                go_simp)
             | (apply pl_take
                case ho => rfl
                case hw => rfl
                case hv =>
                  intro w' hS
                  (skip)
                  go_simp
                  exact rfl
                go_simp))
        refine pl_one (up_do rfl rfl fun K hK1 => ?_)
        go_simp
        refine known25 ?_; rintro e w7 rfl k7
        have HK7 := hide (HK6.out.tr k7)
        refine hK1 _ _ _ (k7.at HB6.out trivial) (fun _ h => h) ?_
        clear hK1 K k7
        iterate 2
          (first
             | (apply pl_pass
                case ho => rfl
                case hw => rfl
                go_simp)
             | (apply pl_take
                case ho => rfl
                case hw => rfl
                case hv =>
                  intro w' hS
                  (skip)
                  go_simp
                  exact rfl
                go_simp))
        refine pl_done ?_
        go_wp2_with fail
        exact HR.out _ _ rfl (HK7.out.mono fun _ _ _ => trivial)

end Go.Proofs.Ytgpgbkoaopfjkaa
