/- The walks of Store.Of, Store.Row. -/
import Derived.Test.YtohhjdadhdibfaaOf
import Derived.Test.YtohhjdadhdibfaaFind
namespace Go.Proofs.Ytohhjdadhdibfaa
open Go.RowKit

variable {R : Ending → World → Prop} {w : World} {a T : Nat} {L : List Nd}

def isVal (v : Int) : Bool := decide (0 ≤ v) && decide (v ≤ 1099511627776)

/-- Of. -/
def OfA (T : Nat) (L : List Nd) (row : List Int) : List Nd × Int :=
  if row.length = 2 ^ T ∧ row.all isVal = true then ofA T row T L 0 else (L, -1)

theorem callFunc_ofLit (args : Array Value) (w : World) : (callFunc 70 args).run Try.prog w = .ok (.enter 70 args) w := by kernel_rfl

theorem ofLit (x : Int) (hR : ∀ e, e = .returned (.bool (!isVal x)) → R e w) : Calls Try.prog 70 #[.int .i64 x] w R := by
  have HR := hide hR
  clear hR
  go_enter Try.func70, Try.ntmps70
  go_wp2_with fail
  refine isValue x ?_; rintro e rfl
  go_wp2_with fail
  exact HR.out _ (ret_bool (by simp [isVal]))

theorem storeOfNil (v : Value) (hR : ∀ e, e = .returned (.int .i64 (-1)) → R e w) : Calls Try.prog 32 #[.pointer none, v] w R := by
  have HR := hide hR
  clear hR
  go_enter Try.func32, Try.ntmps32
  go_wp2_with fail
  exact HR.out _ rfl

set_option maxHeartbeats 1000000 in
theorem storeOfC {row : List Int} {v : Value} (h : StoreAt w a T L) (hv : IntsAt w v row) (hap : Apart w a v) (hb : L.length + 128 ≤ 1099511627776)
    (hR : ∀ e w', e = .returned (.int .i64 (OfA T L row).2) → StoreAt w' a T (OfA T L row).1 → Grew a w w' → R e w') :
    Calls Try.prog 32 #[.pointer (some ⟨a, 0, none⟩), v] w R := by
  have HR := hide hR
  clear hR
  have h6 := h.wf.six
  obtain ⟨sa, cap, q1, q0, _⟩ := h.node
  have hw2 := wrap_two h6
  have hV := hide hv
  have hA := hide hap
  obtain ⟨va, vc, rfl, hc1, hc2, _⟩ := hv.open
  unfold maxLen at hc2
  have hp1 : 2 ^ (T + 1) ≤ 128 := Nat.pow_le_pow_right (by decide) (show T + 1 ≤ 7 by omega)
  clear hv hap
  by_cases hl : row.length = 2 ^ T
  · cases hall : row.all isVal with
    | true =>
      rw [show OfA T L row = ofA T row T L 0 from if_pos ⟨hl, hall⟩] at HR
      have hany : row.any (fun x => !isVal x) = false := by
        rw [List.any_eq_false]; intro x hx; simpa using List.all_eq_true.1 hall x hx
      have HN := hide hany
      have HLn := hide hl
      have hne : (((row.length : Nat) : Int) != ((2 ^ T : Nat) : Int)) = false := by rw [hl]; simp
      have h0 : 0 < 2 ^ T := Nat.pow_pos (by decide)
      clear hall hany hl
      have HP := hide hp1
      clear hp1
      have HZ : Hid (0 < 2 ^ 0) := hide (by decide)
      generalize hpp : 2 ^ T = p at hw2 hne h0
      have HPP := hide hpp
      clear hpp
      go_enter Try.func32, Try.ntmps32
      go_wp2_with fail
      refine containsFunc (p := fun x => !isVal x) callFunc_ofLit hV.out ?_ ?_
      · intro x _ w' R hw' hR'
        exact ofLit x (fun e he => hR' e _ he (Keeps.refl _ _))
      rintro e w1 rfl k1
      rw [HN.out]
      go_wp2_with fail
      refine storeOf row _ T 0 0 L _ _ (by omega) HZ.out HLn.out (h.same k1) (hV.out.same k1) (hA.out.grew (Grew.under h k1)) (by have := HP.out; omega) ?_
      rintro e w2 rfl s2 g2
      go_wp2_with fail
      exact HR.out _ _ rfl s2 ((Grew.under h k1).trans g2)
    | false =>
      rw [show OfA T L row = (L, -1) from if_neg (by simp [hall])] at HR
      have hany : row.any (fun x => !isVal x) = true := by
        rw [List.any_eq_true]
        obtain ⟨x, hx, hx2⟩ := List.all_eq_false.1 hall
        exact ⟨x, hx, by simpa using hx2⟩
      have HN := hide hany
      have hne : (((row.length : Nat) : Int) != ((2 ^ T : Nat) : Int)) = false := by rw [hl]; simp
      clear hall hany hl hp1
      generalize hpp : 2 ^ T = p at hw2 hne
      clear hpp
      go_enter Try.func32, Try.ntmps32
      go_wp2_with fail
      refine containsFunc (p := fun x => !isVal x) callFunc_ofLit hV.out ?_ ?_
      · intro x _ w' R hw' hR'
        exact ofLit x (fun e he => hR' e _ he (Keeps.refl _ _))
      rintro e w1 rfl k1
      rw [HN.out]
      go_wp2_with fail
      exact HR.out _ _ rfl (h.same k1) (Grew.under h k1)
  · rw [show OfA T L row = (L, -1) from if_neg (fun h => hl h.1)] at HR
    have hne : (((row.length : Nat) : Int) != ((2 ^ T : Nat) : Int)) = true := by
      rw [bne_iff_ne]; intro e; exact hl (by exact_mod_cast e)
    clear hl hp1
    generalize hpp : 2 ^ T = p at hw2 hne
    clear hpp
    go_enter Try.func32, Try.ntmps32
    go_wp2_with fail
    exact HR.out _ _ rfl h (Grew.refl _ _)

/-- Row. -/
def rowA (T : Nat) (L : List Nd) (i : Int) : List Int :=
  if 0 ≤ i ∧ i < L.length then (List.range (2 ^ T)).map (fun c => val L i.toNat c) else []

theorem int_info : (Try.prog.info? 3).map (fun i => (i.zero, i.size, i.bytes)) = some (some (.int .i64 0), 1, 8) := by kernel_rfl

/-- The slice v is the call's own (its block lies from B on), and reads as the ints l. -/
def OwnInts (w : World) (B : Nat) (v : Value) (l : List Int) : Prop := w.ownsRow B 3 1 v l.length (l.map (Value.int .i64))

theorem OwnInts.ints {B : Nat} {v : Value} {l : List Int} (h : OwnInts w B v l) (hl : ∀ x ∈ l, InI64 x) : IntsAt w v l := by
  refine ⟨?_, hl⟩
  rcases h.2 with ⟨rfl, h0⟩ | ⟨g, cap, cur, rfl, hb, hg, h1, h2, h3, h4⟩
  · have : l = [] := List.eq_nil_of_length_eq_zero h0
    subst this
    exact ⟨none, 0, rfl, Nat.le_refl _, Nat.zero_le _, .inl rfl⟩
  · refine ⟨_, cap, by simp, by simpa using h1, h2, .inr ⟨g, 0, cur, _, _, rfl, hg, fun i x hx => ?_⟩⟩
    rw [← h4] at hx
    rw [List.getElem?_take] at hx
    split at hx
    · simpa using hx
    · cases hx

theorem OwnInts.keep {S : Nat → Prop} {w w' : World} {B : Nat} {v : Value} {l : List Int} (h : OwnInts w B v l) (k : Keeps S w w') (hs : ∀ b, v.ownBlock = some b → S b) : OwnInts w' B v l := by
  refine ⟨h.1, ?_⟩
  rcases h.2 with h0 | ⟨g, cap, cur, rfl, hb, hg, rest⟩
  · exact .inl h0
  · exact .inr ⟨g, cap, cur, rfl, hb, k.at hg (hs g rfl), rest⟩

theorem OwnInts.same {w w' : World} {B : Nat} {v : Value} {l : List Int} (h : OwnInts w B v l) (k : Same w w') : OwnInts w' B v l := h.keep k fun _ _ => trivial

theorem live_own {v : Value} {b : Nat} (h : live v = some b) : v.ownBlock = some b := by
  unfold live at h
  split at h
  · simpa [Value.ownBlock] using h
  · cases h

/-- A slice of the call's own lies apart from a Store. -/
theorem OwnInts.apart {B : Nat} {v : Value} {l : List Int} (h : OwnInts w B v l) (hs : StoreAt w a T L) : Apart w a v := by
  intro b hb
  rcases h.2 with ⟨rfl, h0⟩ | ⟨g, cap, cur, rfl, _, hg, rest⟩
  · simp [live] at hb
  · have := live_own hb
    simp [Value.ownBlock] at this
    subst this
    exact ⟨not_foot hs hg (by decide) (by decide), heap_lt hg⟩

theorem val_bounds (h : WF T L) (c : Nat) : ∀ i, InI64 (val L i c) := by
  intro i
  induction i using Nat.strongRecOn with
  | ind i ih =>
    cases hi : L[i]? with
    | none => unfold val ev; rw [hi]; simp [InI64]
    | some n =>
      cases n with
      | leaf v =>
        rw [val_leaf hi]
        have := h.ok i _ hi
        simp only [NdOk] at this
        unfold InI64; omega
      | fork t lo hi' =>
        rw [val_fork h hi]
        have ok := h.ok i _ hi
        split
        · exact ih _ ok.2.2.1
        · exact ih _ ok.2.1

theorem OwnInts.grew {w' : World} {B : Nat} {v : Value} {l : List Int} (h : OwnInts w B v l) (hs : StoreAt w a T L) (g : Grew a w w') : OwnInts w' B v l := by
  refine h.keep g.keeps fun b hb => ?_
  rcases h.2 with ⟨rfl, h0⟩ | ⟨g, cap, cur, rfl, _, hg, rest⟩
  · simp [Value.ownBlock] at hb
  · simp [Value.ownBlock] at hb
    subst hb
    exact not_foot hs hg (by decide) (by decide)

theorem rowA_bounds (h : WF T L) (i : Int) : ∀ x ∈ rowA T L i, InI64 x := by
  intro x hx
  unfold rowA at hx
  split at hx
  · obtain ⟨c, _, rfl⟩ := List.mem_map.1 hx
    exact val_bounds h c _
  · cases hx

set_option maxHeartbeats 1000000 in
theorem storeRow (h : StoreAt w a T L) (i : Int) (hR : ∀ e w' v, e = .returned v → OwnInts w' w.heap.size v (rowA T L i) → Same w w' → R e w') :
    Calls Try.prog 42 #[.pointer (some ⟨a, 0, none⟩), .int .i64 i] w R := by
  have HR := hide hR
  clear hR
  have h6 := h.wf.six
  by_cases hi : 0 ≤ i ∧ i < L.length
  · have hB : (decide (0 ≤ i) && decide (i < L.length)) = true := by simp; omega
    obtain ⟨k, rfl⟩ := Int.eq_ofNat_of_zero_le hi.1
    have hw2 := wrap_two h6
    have h64 := two_le h6
    have H := hide h
    have hra : rowA T L k = (List.range (2 ^ T)).map (fun c => val L k c) := by unfold rowA; rw [if_pos hi, Int.toNat_natCast]
    have hat : ∀ c : Nat, c < 2 ^ T → atA T L k c = val L k c := fun c hc => by
      unfold atA; rw [if_pos ⟨hi.1, hi.2, by omega, by exact_mod_cast hc⟩]; simp
    rw [hra] at HR
    have HAT := hide hat
    clear h hra hat
    generalize hpp : 2 ^ T = p at hw2 h64 HR HAT
    clear hpp
    obtain ⟨B, hBs⟩ : ∃ B, B = w.heap.size := ⟨_, rfl⟩
    rw [← hBs] at HR
    have HBS := hide hBs
    clear hBs
    go_enter Try.func42, Try.ntmps42
    go_wp2_with fail
    refine storeIs H.out _ ?_; rintro e rfl
    rw [hB]
    go_wp2_with fail
    refine storeTracks H.out ?_; rintro e rfl
    go_wp2_with fail
    rw [hw2]
    clear hw2
    go_loopw [5, 14] (fun u j wr => ∃ m : Nat, j = .int .i64 m ∧ m ≤ p ∧ OwnInts wr B u ((List.range m).map (fun c => val L k c)) ∧ Same w wr) (fun _ j _ => p - (intOf j).toNat)
    case atStart => exact ⟨0, rfl, Nat.zero_le _, World.ownsRow_nil _ _ _ _, Keeps.refl _ _⟩
    case round =>
      obtain ⟨m, rfl, hm, hown, hK⟩ := hrel
      by_cases hlt : m < p
      · go_wp2_with fail
        refine storeAtC (H.out.same hK) k m ?_; rintro e w1 rfl k1
        rw [HAT.out m hlt]
        obtain ⟨g, cap1, w2, hr, hown2, hk2, hg, _⟩ := append_one (P := Try.prog) w1 40 40 3 Try.underlying40 int_info rfl (hown.same k1) (by rw [HBS.out]; exact (hK.tr k1).size) (.int .i64 (val L k m)) rfl (by simp; omega) (by decide)
        have hK2 : Same w w2 := by
          refine (hK.tr k1).trans hk2 fun x hx _ => ⟨trivial, ?_⟩
          intro e
          have := (hown.lt x e).1
          rw [HBS.out] at this; omega
        have HO : Hid (OwnInts w2 B (.slice (some ⟨g, 0, none⟩) (((List.range m).map (fun c => val L k c)).length + 1) cap1) ((List.range (m + 1)).map (fun c => val L k c))) := by
          refine hide ?_
          unfold OwnInts
          rw [List.range_succ]
          simpa using hown2
        rw [show ((List.range m).map (fun c => val L k c)).length = m by simp] at HO hr
        clear hown2 hown hk2
        go_wp2_with (at_builtin; refine wpList_append_run rfl _ _ _ rfl rfl rfl hr ?_; clear hr)
        go_roundw
        case rel => exact ⟨m + 1, by go_num, by omega, HO.out, hK2⟩
        case measure => simp [intOf]; omega
      · go_wp2_with fail
        obtain rfl : m = p := by omega
        exact HR.out _ _ _ rfl hown hK
  · rw [show rowA T L i = [] from if_neg hi] at HR
    have hB : (decide (0 ≤ i) && decide (i < L.length)) = false := by simp; omega
    go_enter Try.func42, Try.ntmps42
    go_wp2_with fail
    refine storeIs h _ ?_; rintro e rfl
    rw [hB]
    go_wp2_with fail
    exact HR.out _ _ _ rfl (World.ownsRow_nil _ _ _ _) (Keeps.refl _ _)

end Go.Proofs.Ytohhjdadhdibfaa
