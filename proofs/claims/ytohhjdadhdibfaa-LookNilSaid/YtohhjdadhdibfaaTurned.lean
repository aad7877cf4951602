/- Rows of ints in a block; the walk of track.turned. -/
import Derived.Test.YtohhjdadhdibfaaTo
namespace Go.Proofs.Ytohhjdadhdibfaa
open Go.RowKit

attribute [local irreducible] wpQuiet wpPlan wpPlanZ wpUp

variable {R : Ending → World → Prop} {w : World} {A : Au} {B d x : Nat} {T : Int} {u vn : Value} {acc : List Bool} {rows : List (List Int)}

/-- The block b holds the ints. -/
def RowIn (w : World) (b : Nat) (l : List Int) : Prop := w.heap[b]? = some (.cells (l.map (Value.int .i64)).toArray 3 (0, 0))

theorem RowIn.set {b : Nat} {l : List Int} (h : RowIn w b l) (k : Nat) (y : Int) : RowIn (w.setCell ⟨b, k, none⟩ (.int .i64 y)) b (l.set k y) := by
  unfold RowIn at *
  rw [heap_setCell_at h]
  simp [List.map_set]

theorem make_ints {n : Nat} : madeCells (Value.cells (.int .i64 0)) (n * 1) = ((List.replicate n (0 : Int)).map (Value.int .i64)).toArray := by
  apply Array.ext
  · simp [size_madeCells]
  · intro i h1 h2
    simp [madeCells, Value.cells, Nat.mod_one]

theorem RowIn.own {b : Nat} {l : List Int} (h : RowIn w b l) (hB : B ≤ b) {n : Nat} (hn : n = l.length) (hm : n ≤ maxLen) : OwnInts w B (.slice (some ⟨b, 0, none⟩) n n) l := by
  subst hn
  refine ⟨by simp, .inr ⟨b, l.length, _, rfl, hB, h, Nat.le_refl _, hm, by simp, ?_⟩⟩
  exact List.take_of_length_le (by simp)

/-- An element in place. -/
theorem own_set {e : TypeId} {g n c k : Nat} {xs : List Value} {y : Value} (h : w.ownsRow B e 1 (.slice (some ⟨g, 0, none⟩) n c) n xs) (_ : k < n) : (w.setCell ⟨g, k, none⟩ y).ownsRow B e 1 (.slice (some ⟨g, 0, none⟩) n c) n (xs.set k y) := by
  rcases h with ⟨h1, ⟨h0, _⟩ | ⟨g', cap, cur, e1, hB, hg, q1, q2, q3, q4⟩⟩
  · cases h0
  · simp only [Value.slice.injEq, Option.some.injEq, Addr.mk.injEq, and_true] at e1
    obtain ⟨rfl, _, rfl⟩ := e1
    refine ⟨by simpa using h1, .inr ⟨g, c, _, rfl, hB, heap_setCell_at hg k y, q1, q2, by simpa using q3, ?_⟩⟩
    rw [← q4]
    simp [List.take_set]

theorem own_shape_pos {e : TypeId} {z n : Nat} {v : Value} {xs : List Value} (h : w.ownsRow B e z v n xs) (h0 : 0 < n) : ∃ g c, v = .slice (some ⟨g, 0, none⟩) n c := by
  rcases h.2 with ⟨_, h1⟩ | ⟨g', cap', cur, e, _⟩
  · omega
  · exact ⟨_, _, e⟩

/-- An element, read. -/
theorem OwnMat.elem {g n c k : Nat} {l : List Int} (h : OwnMat w B (.slice (some ⟨g, 0, none⟩) n c) rows) (hk : rows[k]? = some l) : ∃ s cc, w.cell? ⟨g, k, none⟩ = some (.slice s l.length cc) ∧ w.frozen? ⟨g, k, none⟩ = false ∧ OwnInts w B (.slice s l.length cc) l := by
  obtain ⟨vs, h1, h2, h3⟩ := h
  have hlt := (List.getElem?_eq_some_iff.1 hk).1
  obtain ⟨u, hu⟩ : ∃ u, vs[k]? = some u := ⟨_, List.getElem?_eq_getElem (by omega)⟩
  have ho := h3 k u l hu hk
  obtain ⟨s, cc, rfl⟩ := ho.shape
  rcases h1 with ⟨_, ⟨h0, _⟩ | ⟨g', cap, cur, e1, hB, hg, q1, q2, q3, q4⟩⟩
  · cases h0
  · simp only [Value.slice.injEq, Option.some.injEq, Addr.mk.injEq, and_true] at e1
    obtain ⟨rfl, _, rfl⟩ := e1
    refine ⟨s, cc, ?_, free_at hg _, ho⟩
    rw [cell_at hg]
    rw [← q4, List.getElem?_take] at hu
    split at hu
    · simpa using hu
    · cases hu

theorem ToIn.old {w' : World} (h : ToIn w B x T u vn acc rows) (k : Keeps (· < w.heap.size) w w') : ToIn w' B x T u vn acc rows := by
  refine ⟨k.at h.blk (heap_lt h.blk), h.low, ownsRow_keep h.acc k fun b hb => ?_, h.mat.keep k fun b cur e hc _ => heap_lt hc⟩
  obtain ⟨_, cur, hc⟩ := ownsRow_block h.acc hb
  exact heap_lt hc

/-- A row in place. -/
theorem ToIn.put {g n c k : Nat} {u' : Value} {l' : List Int} (h : ToIn w B x T u (.slice (some ⟨g, 0, none⟩) n c) acc rows) (hk : k < rows.length) (hu : OwnInts w B u' l') : ToIn (w.setCell ⟨g, k, none⟩ u') B x T u (.slice (some ⟨g, 0, none⟩) n c) acc (rows.set k l') := by
  obtain ⟨vs, h1, h2, h3⟩ := h.mat
  obtain ⟨hBg, cur, hc⟩ := ownsRow_block h1 (g := g) (by simp [Value.ownBlock])
  have ks : Keeps (· ≠ g) w (w.setCell ⟨g, k, none⟩ u') := (Keeps.refl (· ≠ g) w).setCell (fun hh => hh.2 rfl) _
  have hgx : x ≠ g := by rintro rfl; rw [h.blk] at hc; simp at hc
  have hn : n = rows.length := by
    obtain ⟨s, c', e⟩ := ownsRow_shape h1
    simp only [Value.slice.injEq] at e
    exact e.2.1
  subst hn
  have hint : ∀ {z : Value} {m : List Int}, OwnInts w B z m → OwnInts (w.setCell ⟨g, k, none⟩ u') B z m := fun hh => hh.keep ks fun b hb => by
    rintro rfl
    exact hh.ne_block hc (by decide) hb
  refine ⟨ks.at h.blk hgx, h.low, ownsRow_keep h.acc ks fun b hb => ?_, vs.set k u', by simpa using own_set h1 hk, by simpa using h2, fun i z m hz hm => ?_⟩
  · rintro rfl
    obtain ⟨_, c1, h4⟩ := ownsRow_block h.acc hb
    rw [hc] at h4; simp at h4
  · by_cases e : k = i
    · subst e
      rw [List.getElem?_set_self (by rw [h2]; exact hk)] at hz
      rw [List.getElem?_set_self hk] at hm
      obtain rfl := Option.some.inj hz
      obtain rfl := Option.some.inj hm
      exact hint hu
    · rw [List.getElem?_set_ne e] at hz hm
      exact hint (h3 i z m hz hm)

/-- A row by other letters. -/
def turnRow (p : Nat) (g : Nat → Nat) (l : List Int) : List Int := (List.range p).map fun c => l.getD (g c) 0

/-- An automaton by other letters. -/
def turnAu (A : Au) (T' : Nat) (g : Nat → Nat) : Au := ⟨T', A.acc, A.next.map (turnRow (2 ^ T') g)⟩

theorem turnAu_ok (h : AuOk A) {T' : Nat} {g : Nat → Nat} (h6 : T' ≤ 6) (hg : ∀ c, c < 2 ^ T' → g c < 2 ^ A.T.toNat) : AuOk (turnAu A T' g) := by
  refine ⟨⟨by simp [turnAu], by simp [turnAu]; omega, h.1.2.2.1, h.1.2.2.2.1, by simpa [turnAu] using h.1.2.2.2.2⟩, fun l hl => ?_⟩
  obtain ⟨r, hr, rfl⟩ := List.mem_map.1 hl
  have hro := h.2 r hr
  refine ⟨by simp [turnAu, turnRow], fun y hy => ?_⟩
  unfold turnRow at hy
  obtain ⟨c, hc, rfl⟩ := List.mem_map.1 hy
  rw [List.mem_range] at hc
  have hlt : g c < r.length := by rw [hro.1]; exact hg c hc
  simp only [List.getD, List.getElem?_eq_getElem hlt, Option.getD_some]
  exact hro.2 _ (List.getElem_mem hlt)

theorem row_part (p m : Nat) (f : Nat → Int) (h : m < p) : ((List.range m).map f ++ List.replicate (p - m) (0 : Int)).set m (f m) = (List.range (m + 1)).map f ++ List.replicate (p - (m + 1)) 0 := by
  rw [show p - m = (p - (m + 1)) + 1 by omega, List.replicate_succ, List.range_succ, List.map_append]
  rw [List.set_append_right _ _ (by simp)]
  simp

theorem rows_part (f : List Int → List Int) (ls : List (List Int)) (k : Nat) (hk : k < ls.length) : ((ls.take k).map f ++ ls.drop k).set k (f ls[k]) = (ls.take (k + 1)).map f ++ ls.drop (k + 1) := by
  have hlen : ((ls.take k).map f).length = k := by simp; omega
  rw [List.set_append_right _ _ (by omega), hlen, Nat.sub_self, List.drop_eq_getElem_cons hk, List.set_cons_zero, List.take_succ_eq_append_getElem hk, List.map_append, List.append_assoc]
  rfl

/-- The function value answers g, for each letter. -/
def AnswersG (F : Nat) (caps : Array Value) (g : Nat → Nat) (p : Nat) (w : World) : Prop :=
  ∀ c, c < p → ∀ w' R, Same w w' → (∀ e w'', e = .returned (.int .i64 (g c : Int)) → Same w' w'' → R e w'') → Calls Try.prog F (#[.int .i64 (c : Int)] ++ caps) w' R

set_option maxRecDepth 10000 in
set_option maxHeartbeats 4000000 in
theorem turned {F T' : Nat} {caps : Array Value} {g : Nat → Nat} (h : DFAAt w B d A) (h6 : T' ≤ 6) (hcf : ∀ args w, (callFunc F args).run Try.prog w = .ok (.enter F args) w) (hg : ∀ c, c < 2 ^ T' → g c < 2 ^ A.T.toNat) (hby : AnswersG F caps g (2 ^ T') w)
    (hR : ∀ e w' d', e = .returned (.tuple #[.pointer (some ⟨d', 0, none⟩), .int .i64 0]) → DFAAt w' w.heap.size d' (turnAu A T' g) → Same w w' → R e w') :
    Calls Try.prog 65 #[.pointer (some ⟨d, 0, none⟩), .int .i64 (T' : Int), .func (.func F) #[] caps] w R := by
  have HR := hide hR
  clear hR
  have HOK := hide h.ok
  have HTO := hide (turnAu_ok h.ok h6 hg)
  have HBY := hide hby
  have hw2 := wrap_two h6
  have h64 := two_le h6
  have HG := hide hg
  have H6 := hide h6
  obtain ⟨W0, hW0⟩ : ∃ W0, W0 = w.heap.size := ⟨_, rfl⟩
  have HW0 := hide hW0
  have HCF := hide hcf
  have HTA : Hid (turnAu A T' g = ⟨(T' : Int), A.acc, A.next.map (turnRow (2 ^ T') g)⟩) := hide rfl
  clear hby hW0
  generalize hpp : 2 ^ T' = p at hw2 h64 hg HG HBY HTA
  have HPP := hide hpp
  clear hpp hg
  go_enter Try.func65, Try.ntmps65
  go_wp2_with fail
  refine dfaTo h ?_; rintro e w1 v1 rfl o1 k1
  obtain ⟨va, vn, rfl, ob1, om1⟩ := o1
  obtain ⟨ua, uc, rfl⟩ := ownsRow_shape ob1
  have h1n : 0 < A.next.length := by have := HOK.out.1.2.2.1; have := HOK.out.1.2.2.2.2; omega
  obtain ⟨gg, nc, rfl⟩ : ∃ gg nc, vn = .slice (some ⟨gg, 0, none⟩) A.next.length nc := by
    obtain ⟨vs, h1, _⟩ := om1
    exact own_shape_pos h1 h1n
  have hn4 : A.next.length ≤ 400 := by have := HOK.out.1.2.2.2.1; have := HOK.out.1.2.2.2.2; omega
  have OB := hide ob1
  have OM := hide om1
  have K1 := hide k1
  clear ob1 om1 k1 h
  go_wp2_with fail
  have hto : ToIn (w1.alloc (.cells #[.int .i64 (T' : Int), .slice ua A.acc.length uc, .slice (some ⟨gg, 0, none⟩) A.next.length nc] 25)) W0 w1.heap.size (T' : Int) (.slice ua A.acc.length uc) (.slice (some ⟨gg, 0, none⟩) A.next.length nc) A.acc A.next := by
    have ka : Same w1 (w1.alloc (.cells #[.int .i64 (T' : Int), .slice ua A.acc.length uc, .slice (some ⟨gg, 0, none⟩) A.next.length nc] 25)) := (Keeps.refl _ w1).alloc _
    exact ⟨heap_new _ _, by rw [HW0.out]; exact K1.out.size, ownsRow_below (ownsRow_keep OB.out ka fun _ _ => trivial) (by rw [HW0.out]; exact Nat.le_refl _), (OM.out.same ka).below (by rw [HW0.out]; exact Nat.le_refl _)⟩
  have hk2 : Same w (w1.alloc (.cells #[.int .i64 (T' : Int), .slice ua A.acc.length uc, .slice (some ⟨gg, 0, none⟩) A.next.length nc] 25)) := K1.out.alloc _
  generalize w1.alloc (.cells #[.int .i64 (T' : Int), .slice ua A.acc.length uc, .slice (some ⟨gg, 0, none⟩) A.next.length nc] 25) = w2 at hto hk2 ⊢
  generalize w1.heap.size = x at hto ⊢
  have HT0 := hide hto
  have HK2 := hide hk2
  clear OB OM K1 hto hk2
  go_loopw [20] (fun i wr => ∃ k : Nat, i = .int .i64 k ∧ k ≤ A.next.length ∧ Hid (ToIn wr W0 x (T' : Int) (.slice ua A.acc.length uc) (.slice (some ⟨gg, 0, none⟩) A.next.length nc) A.acc ((A.next.take k).map (turnRow p g) ++ A.next.drop k)) ∧ Same w wr) (fun i _ => A.next.length - (intOf i).toNat)
  case atStart => exact ⟨0, rfl, Nat.zero_le _, hide (by simpa using HT0.out), HK2.out⟩
  case round =>
    obtain ⟨k, rfl, hk, hto, hK⟩ := hrel
    by_cases hlt : k < A.next.length
    · have HRP := hide (rows_part (turnRow p g) A.next k hlt)
      have hek : ((A.next.take k).map (turnRow p g) ++ A.next.drop k)[k]? = some A.next[k] := by
        have hlen : ((A.next.take k).map (turnRow p g)).length = k := by simp; omega
        rw [List.getElem?_append_right (by omega), hlen, Nat.sub_self, List.getElem?_drop, Nat.add_zero, List.getElem?_eq_getElem hlt]
      have hrl := (HOK.out.2 _ (List.getElem_mem hlt)).1
      have hkl : k < ((A.next.take k).map (turnRow p g) ++ A.next.drop k).length := (List.getElem?_eq_some_iff.1 hek).1
      have hrb := HOK.out.bounds.2 _ (List.getElem_mem hlt)
      generalize A.next[k] = l at HRP hek hrl hrb
      generalize (A.next.take k).map (turnRow p g) ++ A.next.drop k = rows at HRP hto hek hkl
      obtain ⟨sa, sc, p1, _, ho⟩ := hto.out.mat.elem hek
      obtain ⟨_, _, e1, hf1, hf2, hdell⟩ := (ho.ints hrb).open
      simp only [Value.slice.injEq] at e1
      obtain ⟨rfl, _, rfl⟩ := e1
      unfold maxLen at hf2
      have HD := hide hdell
      have HKL := hide hkl
      have HEK := hide hek
      have HRL := hide hrl
      have HTO := hide hto.out
      have HKW := hide hK
      clear hto hek hkl hrl hrb hdell ho hK
      obtain ⟨i0, hi0, hz0, hz1, hz2⟩ := info_parts int_info
      have hmk := run_make (P := Try.prog) wr 40 3 i0 _ Try.underlying40 hi0 hz0 .i64 .i64 p p (by omega) (by omega) (by rw [hz2]; omega) (by omega)
      rw [hz1, Int.toNat_natCast, make_ints] at hmk
      have hrow : RowIn (wr.alloc (.cells ((List.replicate p (0 : Int)).map (Value.int .i64)).toArray 3)) wr.heap.size (List.replicate p 0) := heap_new _ _
      have hka : Same wr (wr.alloc (.cells ((List.replicate p (0 : Int)).map (Value.int .i64)).toArray 3)) := (Keeps.refl _ wr).alloc _
      generalize wr.alloc (.cells ((List.replicate p (0 : Int)).map (Value.int .i64)).toArray 3) = w3 at hmk hrow hka
      have HROW := hide hrow
      have HKA := hide hka
      obtain ⟨b, hb⟩ : ∃ b, b = wr.heap.size := ⟨_, rfl⟩
      rw [← hb] at hmk HROW
      have HBB := hide hb
      clear hi0 hz0 hz1 hz2 hrow hka hb
      go_wp2_with fail
      obtain ⟨wo, rfl⟩ : ∃ wo : World, wo = wr := ⟨_, rfl⟩
      rw [hw2]
      go_loopw [30] (fun i wr' => ∃ m : Nat, i = .int .i64 m ∧ m ≤ p ∧ Hid (RowIn wr' b ((List.range m).map (fun c => l.getD (g c) 0) ++ List.replicate (p - m) 0)) ∧ Same wo wr') (fun i _ => p - (intOf i).toNat)
      case atStart => exact ⟨0, rfl, Nat.zero_le _, hide (by simpa using HROW.out), HKA.out⟩
      case round =>
        obtain ⟨m, rfl, hm, hrow, hK2⟩ := hrel
        by_cases hmp : m < p
        · have HRS := hide (row_part p m (fun c => l.getD (g c) 0) hmp)
          have hgl : g m < l.length := by rw [HRL.out]; exact HG.out m hmp
          obtain ⟨lb, loff, rfl, _, hdl⟩ := HD.out (g m) hgl
          have HGE := hide (show l.getD (g m) 0 = l[g m] by simp [List.getD, List.getElem?_eq_getElem hgl])
          have HK2 := hide hK2
          have HROW2 := hide hrow.out
          have hlen : m < ((List.range m).map (fun c => l.getD (g c) 0) ++ List.replicate (p - m) (0 : Int)).length := by simp; omega
          generalize (List.range m).map (fun c => l.getD (g c) 0) ++ List.replicate (p - m) (0 : Int) = cur at HRS HROW2 hlen
          clear hrow hK2
          go_wp2_with fail
          refine HBY.out m hmp _ _ (HKW.out.tr HK2.out) ?_; rintro e w5 rfl k5
          have hdk := Keeps.cell (HK2.out.tr k5) (hdl (g m) hgl) trivial
          have hb5 := k5.at HROW2.out trivial
          have z1 : w5.cell? ⟨b, m, none⟩ = some (.int .i64 cur[m]) := by rw [cell_at hb5]; simp [hlen]
          have z2 := free_at hb5 m
          have hr5 : RowIn w5 b cur := hb5
          have hr6 := hr5.set m l[g m]
          have hk6 : Same wo (w5.setCell ⟨b, m, none⟩ (.int .i64 l[g m])) := (HK2.out.tr k5).setCell (fun hh => by have := hh.1; rw [HBB.out] at this; exact Nat.lt_irrefl _ this) _
          rw [← HGE.out, HRS.out, HGE.out] at hr6
          have HF := hide (And.intro hr6 hk6)
          generalize l[g m] = y at hdk HF
          generalize cur[m] = y0 at z1
          clear hr6 hk6 hr5 hb5 hdl k5
          go_wp2_with fail
          go_roundw
          case rel => exact ⟨m + 1, by go_num, by omega, hide HF.out.1, HF.out.2⟩
          case measure => simp [intOf]; omega
        · obtain rfl : m = p := by omega
          have hr := hrow.out
          rw [Nat.sub_self, List.replicate_zero, List.append_nil] at hr
          have hto3 := HTO.out.same hK2
          have hown : OwnInts wr W0 (.slice (some ⟨b, 0, none⟩) m m) (turnRow m g l) := by
            refine RowIn.own hr (by rw [HBB.out, HW0.out]; exact HKW.out.size) (by simp) (by unfold maxLen; omega)
          have q2 := cell_at hto3.blk 2
          simp only [List.getElem?_toArray, List.getElem?_cons_zero, List.getElem?_cons_succ] at q2
          obtain ⟨s2, c2, z1, z2, _⟩ := hto3.mat.elem HEK.out
          have hto4 := hto3.put HKL.out hown
          rw [HRP.out] at hto4
          have hk4 : Same w (wr.setCell ⟨gg, k, none⟩ (.slice (some ⟨b, 0, none⟩) m m)) := (HKW.out.tr hK2).setCell (fun hh => by
            obtain ⟨vs, h1, _⟩ := hto3.mat
            have := (ownsRow_block h1 (g := gg) (by simp [Value.ownBlock])).1
            rw [HW0.out] at this
            have h2 := hh.1
            simp at h2; omega) _
          have HF := hide (And.intro hto4 hk4)
          clear hto3 hto4 hk4 hown hr hrow hK2
          go_wp2_with fail
          go_roundw
          case rel => exact ⟨k + 1, by go_num, by omega, HF.out.1 |> hide, HF.out.2⟩
          case measure => simp [intOf]; omega
    · obtain rfl : k = A.next.length := by omega
      have hto2 := hto.out
      rw [List.take_length, List.drop_length, List.append_nil] at hto2
      have x0 := cell_at hto2.blk 0
      have x1 := cell_at hto2.blk 1
      have x2 := cell_at hto2.blk 2
      simp only [List.getElem?_toArray, List.getElem?_cons_zero, List.getElem?_cons_succ] at x0 x1 x2
      have HAT : Hid (AutoAt wr (.agg #[.int .i64 (T' : Int), .slice ua A.acc.length uc, .slice (some ⟨gg, 0, none⟩) A.next.length nc]) (turnAu A T' g)) := hide (by
        have hb := HTO.out.bounds
        rw [HTA.out] at hb ⊢
        exact ⟨_, _, rfl, hto2.acc.bools, hto2.mat.rows hb.2, hb.1⟩)
      have HKW := hide hK
      clear hto hto2 hK
      go_wp2_with fail
      refine autoFrom HAT.out HTO.out ?_; rintro e w4 d4 rfl dd4 k4
      have HF := hide (And.intro (dd4.below HKW.out.size) (HKW.out.tr k4))
      clear dd4 k4
      go_wp2_with fail
      exact HR.out _ _ d4 rfl HF.out.1 HF.out.2

end Go.Proofs.Ytohhjdadhdibfaa
