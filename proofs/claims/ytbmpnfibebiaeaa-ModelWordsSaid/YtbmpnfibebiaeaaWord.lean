/- The walk of word.Encode. -/
import Derived.Laws.MakeOwn
import Derived.OwnWalk
import Derived.Test.YtbmpnfibebiaeaaMat
import Derived.Test.YtbmpnfibebiaeaaPkA
namespace Go.Proofs.Ytbmpnfibebiaeaa
open Go.RowKit

/-- The letters W of the rows: bit j of letter x, just if row j has x. -/
def Letters (ls : List (List Int)) (W : List Nat) : Prop :=
  (W.length : Int) = bnd ls.flatten ∧ (∀ y ∈ W, y < 64) ∧ ∀ (x j : Nat) (y : Nat), W[x]? = some y → (y.testBit j = true ↔ ∃ l, ls[j]? = some l ∧ (x : Int) ∈ l)

/-- So far: of the first i rows, and of row i's first k. -/
def Part (ls : List (List Int)) (i k : Nat) (W : List Nat) : Prop :=
  (W.length : Int) = bnd ls.flatten ∧ (∀ y ∈ W, y < 64) ∧ ∀ (x j : Nat) (y : Nat), W[x]? = some y → (y.testBit j = true ↔ (j < i ∧ ∃ l, ls[j]? = some l ∧ (x : Int) ∈ l) ∨ (j = i ∧ ∃ l, ls[i]? = some l ∧ (x : Int) ∈ l.take k))

theorem Part.start (ls : List (List Int)) {n : Nat} (hn : (n : Int) = bnd ls.flatten) : Part ls 0 0 (List.replicate n 0) := by
  refine ⟨by simpa using hn, fun y hy => ?_, fun x j y hy => ?_⟩
  · rw [List.eq_of_mem_replicate hy]; decide
  · rw [List.eq_of_mem_replicate (List.mem_of_getElem? hy)]; simp

theorem Part.row {ls : List (List Int)} {i k : Nat} {W : List Nat} {r : List Int} (h : Part ls i k W) (hr : ls[i]? = some r) (hk : r.length ≤ k) : Part ls (i + 1) 0 W := by
  refine ⟨h.1, h.2.1, fun x j y hy => ?_⟩
  rw [h.2.2 x j y hy]
  constructor
  · rintro (⟨h1, h2⟩ | ⟨rfl, l, h1, h2⟩)
    · exact .inl ⟨by omega, h2⟩
    · exact .inl ⟨by omega, l, h1, List.mem_of_mem_take h2⟩
  · rintro (⟨h1, l, h2, h3⟩ | ⟨_, l, _, h3⟩)
    · by_cases e : j = i
      · subst e
        rw [hr] at h2; obtain rfl := Option.some.inj h2
        exact .inr ⟨rfl, r, hr, by rw [List.take_of_length_le hk]; exact h3⟩
      · exact .inl ⟨by omega, l, h2, h3⟩
    · simp at h3

theorem Part.all {ls : List (List Int)} {i : Nat} {W : List Nat} (h : Part ls i 0 W) (hi : ls.length ≤ i) : Letters ls W := by
  refine ⟨h.1, h.2.1, fun x j y hy => ?_⟩
  rw [h.2.2 x j y hy]
  constructor
  · rintro (⟨_, h⟩ | ⟨_, l, _, h⟩)
    · exact h
    · simp at h
  · rintro ⟨l, h1, h2⟩
    exact .inl ⟨by have := (List.getElem?_eq_some_iff.1 h1).1; omega, l, h1, h2⟩

theorem Part.step {ls : List (List Int)} {i k : Nat} {W : List Nat} {r : List Int} {x : Nat} (h : Part ls i k W) (hi : i < 6) (hr : ls[i]? = some r) (hx : r[k]? = some (x : Int)) (hxl : x < W.length) :
    Part ls i (k + 1) (W.set x (W[x] ||| 2 ^ i)) := by
  refine ⟨by simpa using h.1, fun y hy => ?_, fun z j y hy => ?_⟩
  · rcases List.mem_or_eq_of_mem_set hy with hy | rfl
    · exact h.2.1 y hy
    · have h1 := h.2.1 W[x] (List.getElem_mem hxl)
      exact Nat.or_lt_two_pow (n := 6) h1 (Nat.pow_lt_pow_right (by decide) hi)
  · rw [List.getElem?_set] at hy
    have ht : ∀ z : Nat, (∃ l, ls[i]? = some l ∧ (z : Int) ∈ l.take (k + 1)) ↔ ((∃ l, ls[i]? = some l ∧ (z : Int) ∈ l.take k) ∨ z = x) := by
      intro z
      obtain ⟨hk, hkx⟩ := List.getElem?_eq_some_iff.1 hx
      constructor
      · rintro ⟨l, h1, h2⟩
        rw [hr] at h1; obtain rfl := Option.some.inj h1
        rw [List.take_succ_eq_append_getElem hk] at h2
        rcases List.mem_append.1 h2 with h2 | h2
        · exact .inl ⟨r, hr, h2⟩
        · simp [hkx] at h2; exact .inr (by exact_mod_cast h2)
      · rintro (⟨l, h1, h2⟩ | rfl)
        · rw [hr] at h1; obtain rfl := Option.some.inj h1
          exact ⟨r, hr, by rw [List.take_succ_eq_append_getElem hk]; exact List.mem_append_left _ h2⟩
        · exact ⟨r, hr, by rw [List.take_succ_eq_append_getElem hk, hkx]; simp⟩
    rw [ht z]
    split at hy
    · rename_i e
      subst e
      obtain rfl := Option.some.inj hy
      rw [Nat.testBit_or, Bool.or_eq_true, h.2.2 x j _ (List.getElem?_eq_getElem hxl), Nat.testBit_two_pow]
      simp only [decide_eq_true_eq]
      constructor
      · rintro ((h1 | ⟨e, h1⟩) | e)
        · exact .inl h1
        · exact .inr ⟨e, .inl h1⟩
        · exact .inr ⟨e.symm, .inr trivial⟩
      · rintro (h1 | ⟨e, h1 | h1⟩)
        · exact .inl (.inl h1)
        · exact .inl (.inr ⟨e, h1⟩)
        · exact .inr e.symm
    · rename_i e
      rw [h.2.2 z j _ hy]
      constructor
      · rintro (h1 | ⟨e, h1⟩)
        · exact .inl h1
        · exact .inr ⟨e, .inl h1⟩
      · rintro (h1 | ⟨e, h1 | h1⟩)
        · exact .inl h1
        · exact .inr ⟨e, h1⟩
        · exact absurd h1.symm ‹_›

variable {R : Ending → World → Prop} {w : World}

/-- The block b holds the letters. -/
def WordIn (w : World) (b : Nat) (W : List Nat) : Prop := w.heap[b]? = some (.cells (W.map fun y : Nat => Value.int .i64 (y : Int)).toArray 3 (0, 0))

theorem WordIn.cell {b : Nat} {W : List Nat} (h : WordIn w b W) (x : Nat) (hx : x < W.length) : w.cell? ⟨b, x, none⟩ = some (.int .i64 (W[x] : Nat)) ∧ w.frozen? ⟨b, x, none⟩ = false :=
  ⟨by rw [cell_at h]; simp [hx], free_at h _⟩

theorem WordIn.set {b : Nat} {W : List Nat} (h : WordIn w b W) (x : Nat) (y : Nat) : WordIn (w.setCell ⟨b, x, none⟩ (.int .i64 (y : Int))) b (W.set x y) := by
  unfold WordIn at *
  rw [heap_setCell_at h]
  simp [List.map_set]

theorem make_zero {n : Nat} : madeCells (Value.cells (.int .i64 0)) (n * 1) = ((List.replicate n 0).map fun y : Nat => Value.int .i64 (y : Int)).toArray := by
  apply Array.ext
  · simp [size_madeCells]
  · intro i h1 h2
    simp [madeCells, Value.cells, Nat.mod_one]

theorem WordIn.ints {b : Nat} {W : List Nat} (h : WordIn w b W) (h6 : ∀ y ∈ W, y < 64) {n c : Nat} (hn : n = W.length) (hc : n ≤ c) (hm : c ≤ maxLen) : IntsAt w (.slice (some ⟨b, 0, none⟩) n c) (W.map Int.ofNat) := by
  refine ints_of_block h _ ?_ ?_ (by simpa using hn) hc hm
  · simp
  · intro x hx
    obtain ⟨y, hy, rfl⟩ := List.mem_map.1 hx
    have := h6 y hy
    unfold InI64; simp; omega

set_option maxHeartbeats 2000000 in
theorem wordEncode {v : Value} {ls : List (List Int)} (hv : RowsAt w v ls) (hs : Small ls) (h6 : ls.length ≤ 6)
    (hR : ∀ e w' b W, e = .returned (.tuple #[.slice (some ⟨b, 0, none⟩) W.length W.length, .bool true]) → Letters ls W → WordIn w' b W → w.heap.size ≤ b → Same w w' → R e w') :
    Calls Try.prog 29 #[v] w R := by
  have HR := hide hR
  clear hR
  have HV := hide hv
  obtain ⟨a, c, rfl, hc1, hc2, hcell⟩ := hv.open
  have HC := hide hcell
  have HS := hide hs
  clear hcell hv hs
  unfold maxLen at hc2
  go_enter Try.func29, Try.ntmps29
  go_wp2_with fail
  go_loopw [18] (fun i wr => ∃ k : Nat, i = .int .i64 k ∧ k ≤ ls.length ∧ Same w wr) (fun i _ => ls.length - (intOf i).toNat)
  case atStart => exact ⟨0, rfl, Nat.zero_le _, Keeps.refl _ _⟩
  case round =>
    obtain ⟨k, rfl, hk, hK⟩ := hrel
    by_cases hlt : k < ls.length
    · obtain ⟨bl, off, rfl, hbl, hcl⟩ := HC.out k hlt
      obtain ⟨u, hu, hiu⟩ := hcl k hlt
      obtain ⟨ua, uc, rfl, hd1, hd2, hdell⟩ := hiu.open
      have hck := Keeps.cell hK hu trivial
      have hrow : ls[k]? = some ls[k] := List.getElem?_eq_getElem hlt
      generalize ls[k] = row at hrow hck hd1 hdell
      have HD := hide hdell
      have HROW := hide hrow
      unfold maxLen at hd2
      clear hcl hu hiu hdell hrow
      obtain ⟨wo, rfl⟩ : ∃ wo : World, wo = wr := ⟨_, rfl⟩
      go_wp2_with fail
      go_loopw [24] (fun i wr => ∃ m : Nat, i = .int .i64 m ∧ m ≤ row.length ∧ Same w wr) (fun i _ => row.length - (intOf i).toNat)
      case atStart => exact ⟨0, rfl, Nat.zero_le _, hK⟩
      case round =>
        obtain ⟨m, rfl, hm, hK2⟩ := hrel
        by_cases hlt2 : m < row.length
        · obtain ⟨rl, roff, rfl, hrl, hdl⟩ := HD.out m hlt2
          have hdk := Keeps.cell hK2 (hdl m hlt2) trivial
          have hxs := HS.out row (List.mem_of_getElem? HROW.out) row[m] (List.getElem_mem hlt2)
          generalize row[m] = x at hdk hxs
          obtain ⟨hx0, hx1⟩ := hxs
          clear hdl
          go_wp2_with fail
          all_goals
            go_roundw
            case rel => exact ⟨m + 1, by go_num, by omega, hK2⟩
            case measure => simp [intOf]; omega
        · go_wp2_with fail
          go_roundw
          case rel => exact ⟨k + 1, by go_num, by omega, hK2⟩
          case measure => simp [intOf]; omega
    · go_wp2_with fail
      refine wordBound (HV.out.same hK) HS.out ?_; rintro e w1 rfl k1
      have hb := bnd_bounds (l := ls.flatten) (fun x hx => by obtain ⟨l, hl, hxl⟩ := List.mem_flatten.1 hx; exact HS.out l hl x hxl)
      have HB : Hid (∀ k : Nat, ∀ r x, ls[k]? = some r → x ∈ r → x < bnd ls.flatten) := hide fun k r x h1 h2 => bnd_lt (List.mem_flatten.2 ⟨r, List.mem_of_getElem? h1, h2⟩)
      obtain ⟨N, hN⟩ := Int.eq_ofNat_of_zero_le hb.1
      have HP : Hid (∀ i k W, Part ls i k W → W.length = N) := hide fun i k W h => by have := h.1; omega
      rw [hN] at hb HB ⊢
      obtain ⟨i0, hi0, hz0, hz1, hz2⟩ := info_parts int_info
      have hmk := run_make (P := Try.prog) w1 37 3 i0 _ Try.underlying37 hi0 hz0 .i64 .i64 N N (by omega) (by omega) (by rw [hz2]; omega) (by omega)
      rw [hz1, make_zero] at hmk
      have HST := hide (Part.start ls hN.symm)
      have HK1 := hide (hK.tr k1)
      obtain ⟨b, hbb⟩ : ∃ b, b = w1.heap.size := ⟨_, rfl⟩
      have HW2 := hide (show WordIn (w1.alloc (.cells ((List.replicate N 0).map fun y : Nat => Value.int .i64 (y : Int)).toArray 3)) b (List.replicate N 0) by rw [hbb]; exact heap_new _ _)
      have HK2 := hide (HK1.out.alloc (.cells ((List.replicate N 0).map fun y : Nat => Value.int .i64 (y : Int)).toArray 3))
      have HBW : Hid (w.heap.size ≤ b) := hide (by rw [hbb]; exact HK1.out.size)
      rw [← hbb] at hmk
      rw [Int.toNat_natCast] at hmk
      generalize w1.alloc (.cells ((List.replicate N 0).map fun y : Nat => Value.int .i64 (y : Int)).toArray 3) = w2 at HW2 HK2 hmk
      clear hN hi0 hz0 hz1 hz2 hK k1 HK1 hbb
      go_wp2_with fail
      go_loopw [41] (fun i wr => ∃ k : Nat, ∃ W, i = .int .i64 k ∧ k ≤ ls.length ∧ Hid (Part ls k 0 W) ∧ WordIn wr b W ∧ Same w wr) (fun i _ => ls.length - (intOf i).toNat)
      case atStart => exact ⟨0, _, rfl, Nat.zero_le _, HST, HW2.out, HK2.out⟩
      case round =>
        clear hk hlt
        obtain ⟨k, W, rfl, hk, hP, hW, hK⟩ := hrel
        by_cases hlt : k < ls.length
        · obtain ⟨bl, off, rfl, hbl, hcl⟩ := HC.out k hlt
          obtain ⟨u, hu, hiu⟩ := hcl k hlt
          obtain ⟨ua, uc, rfl, hd1, hd2, hdell⟩ := hiu.open
          have hck := Keeps.cell hK hu trivial
          have hrow : ls[k]? = some ls[k] := List.getElem?_eq_getElem hlt
          generalize ls[k] = row at hrow hck hd1 hdell
          have HD := hide hdell
          have HROW := hide hrow
          unfold maxLen at hd2
          clear hcl hu hiu hdell hrow
          go_wp2_with fail
          go_loopw [48] (fun i wr => ∃ m : Nat, ∃ W, i = .int .i64 m ∧ m ≤ row.length ∧ Hid (Part ls k m W) ∧ WordIn wr b W ∧ Same w wr) (fun i _ => row.length - (intOf i).toNat)
          case atStart => exact ⟨0, W, rfl, Nat.zero_le _, hP, hW, hK⟩
          case round =>
            clear hP hW hK hck
            obtain ⟨m, W, rfl, hm, hP, hW, hK⟩ := hrel
            have hlen := HP.out _ _ _ hP.out
            by_cases hlt2 : m < row.length
            · obtain ⟨rl, roff, rfl, hrl, hdl⟩ := HD.out m hlt2
              have hdk := Keeps.cell hK (hdl m hlt2) trivial
              have hx0 := (HS.out row (List.mem_of_getElem? HROW.out) row[m] (List.getElem_mem hlt2)).1
              have hx1 := HB.out k row row[m] HROW.out (List.getElem_mem hlt2)
              have HX := hide (show row[m]? = some row[m] from List.getElem?_eq_getElem hlt2)
              generalize row[m] = x at hdk hx0 hx1 HX
              obtain ⟨x, rfl⟩ := Int.eq_ofNat_of_zero_le hx0
              have hxl : x < W.length := by omega
              have hcx := hW.cell x hxl
              have HN := hide (hP.out.step (show k < 6 by omega) HROW.out HX.out hxl)
              have hy := hP.out.2.1 W[x] (List.getElem_mem hxl)
              have hor := i64_or_nat W[x] (2 ^ k) (by omega) (by have := two_le (T := k) (by omega); omega)
              have hnw := hide (WordIn.set hW x (W[x] ||| 2 ^ k))
              have hw2 := wrap_two (T := k) (by omega)
              generalize W[x] ||| 2 ^ k = z at hor HN hnw
              generalize 2 ^ k = p at hor hw2
              clear hdl
              go_wp2_with fail
              refine wp_region_ord [(0,true),(1,true),(2,true),(4,true),(5,true),(3,false),(6,false),(7,false),(8,false)] (fun _ => True) (by kernel_rfl) (by kernel_rfl) trivial ?_
              have hdr : wr.drew.cell? _ = _ := hcx.1
              have hfr : wr.drew.frozen? _ = _ := hcx.2
              iterate 5
                (first
                   | (apply ho_pass
                      case ho => rfl
                      case hw => rfl
                      go_simp)
                   | (apply ho_take
                      case ho => rfl
                      case hw => rfl
                      case hv =>
                        intro w' hS
                        (skip)
                        go_simp
                        exact rfl
                      go_simp))
              iterate 4
                (apply ho_do
                 case ho => rfl
                 case hw => rfl
                 intro K hK1
                 go_simp
                 refine hK1 (fun _ => True) _ _ trivial (fun _ _ => trivial) ?_
                 clear hK1 K
                 go_simp)
              refine ho_done ?_
              go_wp2_with fail
              go_roundw
              case rel => exact ⟨m + 1, _, by go_num, by omega, HN, by rw [hw2, hor]; exact hnw.out, (hK.setCell (fun h => absurd h.1 (by have := HBW.out; show ¬ b < w.heap.size; omega)) _).drew⟩
              case measure => simp [intOf]; omega
            · go_wp2_with fail
              go_roundw
              case rel => exact ⟨k + 1, W, by go_num, by omega, hide (hP.out.row HROW.out (by omega)), hW, hK⟩
              case measure => simp [intOf]; omega
        · go_wp2_with fail
          obtain rfl := HP.out _ _ _ hP.out
          exact HR.out _ _ b W rfl (hP.out.all (by omega)) hW HBW.out hK

end Go.Proofs.Ytbmpnfibebiaeaa
