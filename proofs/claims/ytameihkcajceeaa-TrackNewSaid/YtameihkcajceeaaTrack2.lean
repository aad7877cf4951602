/- The walks of slices.Contains, track.isPerm, track.Turn. -/
import Derived.Test.YtameihkcajceeaaTrack
namespace Go.Proofs.Ytameihkcajceeaa
open Go.RowKit

attribute [local irreducible] wpQuiet wpPlan wpPlanZ wpUp

variable {R : Ending → World → Prop} {w : World} {A : Au} {B d : Nat}

theorem indexInt {v : Value} {l : List Int} (x : Int) (hv : IntsAt w v l) (hR : ∀ e, e = .returned (.int .i64 (idxG (fun y => x == y) l)) → R e w) :
    Calls Try.prog 114 #[v, .int .i64 x] w R := by
  have HR := hide hR
  clear hR
  obtain ⟨a, c, rfl, hc1, hc2, hcell⟩ := hv.open
  have HC := hide hcell
  clear hcell hv
  unfold maxLen at hc2
  go_enter Try.func114, Try.ntmps114
  go_wp2_with fail
  go_loopw [8] (fun i wr => ∃ k : Nat, i = .int .i64 k ∧ k ≤ l.length ∧ Hid (∀ i y, i < k → l[i]? = some y → (x == y) = false) ∧ wr = w) (fun i _ => l.length - (intOf i).toNat)
  case atStart => exact ⟨0, rfl, Nat.zero_le _, hide (fun i y hi => absurd hi (Nat.not_lt_zero _)), rfl⟩
  case round =>
    obtain ⟨k, rfl, hk, hno, rfl⟩ := hrel
    by_cases hlt : k < l.length
    · obtain ⟨b, off, rfl, hb, hcl⟩ := HC.out k hlt
      have hck := hcl k hlt
      have HG := hide (List.getElem?_eq_getElem hlt)
      have HHIT := hide (fun h1 h2 => idxG_hit (p := fun y => x == y) hlt h1 h2)
      generalize l[k] = z at hck HG HHIT
      clear hcl
      cases hz : (x == z) with
      | true =>
        have HZ := hide hz
        go_wp2_with fail
        exact HR.out _ (ret_int (HHIT.out HZ.out hno.out).symm)
      | false =>
        have HZ := hide hz
        go_wp2_with fail
        go_roundw
        case rel =>
          refine ⟨k + 1, by go_num, by omega, hide (fun i y hi hy => ?_), by trivial⟩
          by_cases e : i = k
          · subst e; rw [HG.out] at hy; obtain rfl := Option.some.inj hy; exact HZ.out
          · exact hno.out i y (by omega) hy
        case measure => simp [intOf]; omega
    · go_wp2_with fail
      refine HR.out _ (ret_int ?_)
      obtain rfl : k = l.length := by omega
      exact (idxG_none hno.out).symm

theorem containsInt {v : Value} {l : List Int} (x : Int) (hv : IntsAt w v l) (hR : ∀ e, e = .returned (.bool (decide (x ∈ l))) → R e w) :
    Calls Try.prog 100 #[v, .int .i64 x] w R := by
  have HR := hide hR
  clear hR
  have HD := hide (show decide (0 ≤ idxG (fun y => x == y) l) = decide (x ∈ l) by
    rw [idxG_any, Bool.eq_iff_iff, List.any_eq_true, decide_eq_true_iff]
    constructor
    · rintro ⟨y, hy, e⟩; obtain rfl : x = y := by simpa using e
      exact hy
    · intro h; exact ⟨x, h, by simp⟩)
  go_enter Try.func100, Try.ntmps100
  go_wp2_with fail
  refine indexInt x hv ?_; rintro e rfl
  go_wp2_with fail
  exact HR.out _ (ret_bool HD.out)

/-- Each number below their count is among them. -/
def permB (l : List Int) : Bool := decide (∀ i, i < l.length → ((i : Nat) : Int) ∈ l)

theorem isPerm {v : Value} {l : List Int} (hv : IntsAt w v l) (hR : ∀ e, e = .returned (.bool (permB l)) → R e w) :
    Calls Try.prog 90 #[v] w R := by
  have HR := hide hR
  clear hR
  have HV := hide hv
  obtain ⟨a, c, rfl, hc1, hc2, _⟩ := hv.open
  clear hv
  unfold maxLen at hc2
  go_enter Try.func90, Try.ntmps90
  go_wp2_with fail
  go_loopw [6] (fun i wr => ∃ k : Nat, i = .int .i64 k ∧ k ≤ l.length ∧ Hid (∀ i, i < k → ((i : Nat) : Int) ∈ l) ∧ wr = w) (fun i _ => l.length - (intOf i).toNat)
  case atStart => exact ⟨0, rfl, Nat.zero_le _, hide (fun i hi => absurd hi (Nat.not_lt_zero _)), rfl⟩
  case round =>
    obtain ⟨k, rfl, hk, hall, rfl⟩ := hrel
    by_cases hlt : k < l.length
    · go_wp2_with fail
      refine containsInt (k : Int) HV.out ?_; rintro e rfl
      by_cases hm : (k : Int) ∈ l
      · have HM := hide hm
        rw [show decide ((k : Int) ∈ l) = true by simpa using hm]
        clear hm
        go_wp2_with fail
        go_roundw
        case rel =>
          refine ⟨k + 1, by go_num, by omega, hide (fun i hi => ?_), by trivial⟩
          by_cases e : i = k
          · subst e; exact HM.out
          · exact hall.out i (by omega)
        case measure => simp [intOf]; omega
      · have HM := hide hm
        have HL := hide hlt
        rw [show decide ((k : Int) ∈ l) = false by simpa using hm]
        clear hm
        go_wp2_with fail
        exact HR.out _ (ret_bool (by symm; unfold permB; rw [decide_eq_false_iff_not]; exact fun h => HM.out (h k HL.out)))
    · obtain rfl : k = l.length := by omega
      go_wp2_with fail
      exact HR.out _ (ret_bool (by symm; unfold permB; rw [decide_eq_true_iff]; exact hall.out))

theorem ints_map {l : List Int} (h : ∀ x ∈ l, 0 ≤ x) : (l.map Int.toNat).map Int.ofNat = l := by
  rw [List.map_map]
  conv => rhs; rw [← List.map_id l]
  apply List.map_congr_left
  intro x hx
  have := h x hx
  simp; omega

set_option maxRecDepth 10000 in
set_option maxHeartbeats 2000000 in
/-- Turn, where there may be one. -/
theorem trackTurn {u : Value} {l : List Int} (h : DFAAt w B d A) (hu : IntsAt w u l) (hl : (l.length : Int) = A.T) (hp : permB l = true) (hR : ∀ e w' d', e = .returned (.tuple #[.pointer (some ⟨d', 0, none⟩), .int .i64 0]) → DFAAt w' w.heap.size d' (turnAu A l.length (tb (l.map Int.toNat))) → Same w w' → R e w') :
    Calls Try.prog 68 #[.pointer (some ⟨d, 0, none⟩), u] w R := by
  have HR := hide hR
  clear hR
  have H := hide h
  have HU := hide hu
  have hT6 := h.ok.1.2.1
  have hperm : ∀ i, i < l.length → ((i : Nat) : Int) ∈ l := of_decide_eq_true hp
  have hrange := all_range hperm
  have HM := hide (ints_map fun x hx => (hrange x hx).1)
  have HLT : Hid (∀ p ∈ l.map Int.toNat, p < l.length) := hide fun p hpm => by
    obtain ⟨x, hx, rfl⟩ := List.mem_map.1 hpm
    have := hrange x hx
    omega
  have H6 : Hid (l.length ≤ 6) := hide (by omega)
  have HTN : Hid (A.T.toNat = l.length) := hide (by omega)
  obtain ⟨a, c, rfl, hc1, hc2, _⟩ := hu.open
  have hn := cell_new w #[.slice a l.length c] 40 0
  have hk : Same w (w.alloc (.cells #[.slice a l.length c] 40)) := (Keeps.refl _ w).alloc _
  simp only [List.getElem?_toArray, List.getElem?_cons_zero] at hn
  unfold maxLen at hc2
  have g1 : (((l.length : Nat) : Int) != A.T) = false := by rw [hl]; simp
  have g2 : (!(permB l)) = false := by rw [hp]; rfl
  clear h hu hperm hrange hT6 hl
  go_enter Try.func68, Try.ntmps68
  go_wp2_with fail
  generalize w.alloc (.cells #[.slice a l.length c] 40) = w1 at hn hk ⊢
  have HK := hide hk
  clear hk
  refine wp_region_same (by kernel_rfl) (by kernel_rfl) ?_
  iterate 14
    (apply wpQuiet_step
     intro K hK
     first
       | (apply quiet_skip
          case hw => rfl
          go_simp
          refine hK _ ?_; clear hK K)
       | (apply quiet_do
          case hw => rfl
          case h =>
            intro w' hw'
            (have z0 := Keeps.cell hw' hn trivial)
            go_simp
            first | exact rfl | (first | (go_at_call 59; exact dfaTracks (H.out.same (HK.out.tr hw')) (fun e he => ⟨he, hw'⟩)) | (go_at_call 90; exact isPerm (HU.out.same (HK.out.tr hw')) (fun e he => ⟨he, hw'⟩)))
          go_simp
          refine hK _ ?_; clear hK K))
  apply wpQuiet_nil
  clear g1 g2
  intro w2 k2
  have hn2 := Keeps.cell k2 hn trivial
  have HK2 := hide (HK.out.tr k2)
  clear hn k2
  go_wp2_with fail
  refine turned (H.out.same HK2.out) H6.out callFunc_turn (fun c _ => by rw [HTN.out]; exact tb_lt HLT.out c) ?_ ?_
  · intro c hc w' R hw' hR'
    refine byTurn (l := l.map Int.toNat) (by simpa using H6.out) (fun p hp => Nat.lt_of_lt_of_le (HLT.out p hp) H6.out) (Nat.lt_of_lt_of_le hc (two_le H6.out)) (Keeps.cell hw' hn2 trivial) ?_ hR'
    rw [HM.out]
    exact HU.out.same (HK2.out.tr hw')
  · rintro e w3 d3 rfl dd3 k3
    have HF := hide (And.intro (dd3.below HK2.out.size) (HK2.out.tr k3))
    clear dd3 k3
    go_wp2_with fail
    exact HR.out _ _ d3 rfl HF.out.1 HF.out.2

set_option maxRecDepth 10000 in
set_option maxHeartbeats 2000000 in
/-- Turn, where there may be none. -/
theorem trackTurnNot {u : Value} {l : List Int} (h : DFAAt w B d A) (hu : IntsAt w u l) (hno : ¬ ((l.length : Int) = A.T ∧ permB l = true)) (hR : ∀ e w', e = .returned (.tuple #[.pointer none, .int .i64 1]) → Same w w' → R e w') :
    Calls Try.prog 68 #[.pointer (some ⟨d, 0, none⟩), u] w R := by
  have HR := hide hR
  clear hR
  have H := hide h
  have HU := hide hu
  obtain ⟨a, c, rfl, hc1, hc2, _⟩ := hu.open
  have hn := cell_new w #[.slice a l.length c] 40 0
  have hk : Same w (w.alloc (.cells #[.slice a l.length c] 40)) := (Keeps.refl _ w).alloc _
  simp only [List.getElem?_toArray, List.getElem?_cons_zero] at hn
  unfold maxLen at hc2
  clear h hu
  go_enter Try.func68, Try.ntmps68
  go_wp2_with fail
  generalize w.alloc (.cells #[.slice a l.length c] 40) = w1 at hn hk ⊢
  have HK := hide hk
  clear hk
  by_cases hl : (l.length : Int) = A.T
  · have g1 : (((l.length : Nat) : Int) != A.T) = false := by rw [hl]; simp
    have g2 : permB l = false := by
      cases h : permB l with
      | false => rfl
      | true => exact absurd ⟨hl, h⟩ hno
    clear hno hl
    refine wp_region_same (by kernel_rfl) (by kernel_rfl) ?_
    iterate 14
      (apply wpQuiet_step
       intro K hK
       first
         | (apply quiet_skip
            case hw => rfl
            go_simp
            refine hK _ ?_; clear hK K)
         | (apply quiet_do
            case hw => rfl
            case h =>
              intro w' hw'
              (have z0 := Keeps.cell hw' hn trivial)
              go_simp
              first | exact rfl | (first | (go_at_call 59; exact dfaTracks (H.out.same (HK.out.tr hw')) (fun e he => ⟨he, hw'⟩)) | (go_at_call 90; exact isPerm (HU.out.same (HK.out.tr hw')) (fun e he => ⟨he.trans (by rw [g2]), hw'⟩)))
            go_simp
            refine hK _ ?_; clear hK K))
    apply wpQuiet_nil
    intro w2 k2
    go_wp2_with fail
    exact HR.out _ _ rfl (HK.out.tr k2)
  · have g1 : (((l.length : Nat) : Int) != A.T) = true := by rw [bne_iff_ne]; exact hl
    clear hno hl
    refine wp_region_same (by kernel_rfl) (by kernel_rfl) ?_
    iterate 14
      (apply wpQuiet_step
       intro K hK
       first
         | (apply quiet_skip
            case hw => rfl
            go_simp
            refine hK _ ?_; clear hK K)
         | (apply quiet_do
            case hw => rfl
            case h =>
              intro w' hw'
              (have z0 := Keeps.cell hw' hn trivial)
              go_simp
              first | exact rfl | (exact dfaTracks (H.out.same (HK.out.tr hw')) (fun e he => ⟨he, hw'⟩))
            go_simp
            refine hK _ ?_; clear hK K))
    apply wpQuiet_nil
    intro w2 k2
    go_wp2_with fail
    exact HR.out _ _ rfl (HK.out.tr k2)

end Go.Proofs.Ytameihkcajceeaa
