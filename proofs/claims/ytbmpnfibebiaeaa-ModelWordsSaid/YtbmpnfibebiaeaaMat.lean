/- Rows of ints in memory; the walks of word.Bound, sibyllaw11.long. -/
import Derived.Test.YtbmpnfibebiaeaaPkA
namespace Go.Proofs.Ytbmpnfibebiaeaa
open Go.RowKit

/-- Ints, not below 0 nor above 999. -/
def Small (ls : List (List Int)) : Prop := ∀ l ∈ ls, ∀ x ∈ l, 0 ≤ x ∧ x ≤ 999

/-- How many letters. -/
def bnd (l : List Int) : Int := l.foldl (fun n x => max n (x + 1)) 0

theorem foldl_max_le (l : List Int) : ∀ (n m : Int), n ≤ m → (∀ x ∈ l, x + 1 ≤ m) → l.foldl (fun n x => max n (x + 1)) n ≤ m := by
  induction l with
  | nil => intro n m h _; exact h
  | cons x l ih =>
    intro n m h hx
    exact ih _ m (by have := hx x (by simp); show max n (x + 1) ≤ m; omega) fun y hy => hx y (by simp [hy])

theorem le_foldl_max (l : List Int) : ∀ (n : Int), n ≤ l.foldl (fun n x => max n (x + 1)) n ∧ ∀ x ∈ l, x + 1 ≤ l.foldl (fun n x => max n (x + 1)) n := by
  induction l with
  | nil => intro n; exact ⟨Int.le_refl _, by simp⟩
  | cons x l ih =>
    intro n
    have := ih (max n (x + 1))
    refine ⟨by simp only [List.foldl_cons]; omega, fun y hy => ?_⟩
    simp only [List.foldl_cons]
    rcases List.mem_cons.1 hy with rfl | hy
    · omega
    · exact this.2 y hy

theorem bnd_lt {l : List Int} {x : Int} (h : x ∈ l) : x < bnd l := by
  have := (le_foldl_max l 0).2 x h
  unfold bnd; omega

theorem bnd_bounds {l : List Int} (h : ∀ x ∈ l, 0 ≤ x ∧ x ≤ 999) : 0 ≤ bnd l ∧ bnd l ≤ 1000 :=
  ⟨(le_foldl_max l 0).1, foldl_max_le l 0 1000 (by omega) fun x hx => by have := h x hx; omega⟩

theorem bnd_snoc (l : List Int) (x : Int) : bnd (l ++ [x]) = max (bnd l) (x + 1) := by unfold bnd; rw [List.foldl_append]; rfl

/-- The numbers of the first i rows and of the next one's first k. -/
def upTo (ls : List (List Int)) (i k : Nat) : List Int := (ls.take i).flatten ++ (ls.getD i []).take k

theorem upTo_snoc {ls : List (List Int)} {i k : Nat} {r : List Int} {x : Int} (hi : ls[i]? = some r) (hk : r[k]? = some x) : upTo ls i (k + 1) = upTo ls i k ++ [x] := by
  unfold upTo
  have h1 : ls.getD i [] = r := by simp [List.getD, hi]
  have h2 := List.getElem?_eq_some_iff.1 hk
  obtain ⟨h3, rfl⟩ := h2
  rw [h1, List.take_succ_eq_append_getElem h3, List.append_assoc]

theorem upTo_row {ls : List (List Int)} {i : Nat} {r : List Int} (hi : ls[i]? = some r) {k : Nat} (hk : r.length ≤ k) : upTo ls (i + 1) 0 = upTo ls i k := by
  unfold upTo
  have h1 : ls.getD i [] = r := by simp [List.getD, hi]
  obtain ⟨h3, rfl⟩ := List.getElem?_eq_some_iff.1 hi
  rw [h1, List.take_succ_eq_append_getElem h3, List.take_of_length_le hk, List.flatten_append]
  simp only [List.flatten_cons, List.flatten_nil, List.append_nil, List.take_zero]

theorem upTo_all (ls : List (List Int)) {i : Nat} (hi : ls.length ≤ i) : upTo ls i 0 = ls.flatten := by
  unfold upTo
  rw [List.take_of_length_le hi]; simp

theorem upTo_small {ls : List (List Int)} (h : Small ls) (i k : Nat) : ∀ x ∈ upTo ls i k, 0 ≤ x ∧ x ≤ 999 := by
  intro x hx
  unfold upTo at hx
  rcases List.mem_append.1 hx with hx | hx
  · obtain ⟨l, hl, hxl⟩ := List.mem_flatten.1 hx
    exact h l (List.mem_of_mem_take hl) x hxl
  · have hx' := List.mem_of_mem_take hx
    by_cases hi : i < ls.length
    · rw [List.getD_eq_getElem?_getD, List.getElem?_eq_getElem hi] at hx'
      exact h _ (List.getElem_mem hi) x hx'
    · rw [List.getD_eq_getElem?_getD, List.getElem?_eq_none (by omega)] at hx'
      cases hx'

variable {R : Ending → World → Prop} {w : World}

set_option maxHeartbeats 1000000 in
theorem wordBound {v : Value} {ls : List (List Int)} (hv : RowsAt w v ls) (hs : Small ls) (hR : ∀ e w', e = .returned (.int .i64 (bnd ls.flatten)) → Same w w' → R e w') :
    Calls Try.prog 44 #[v] w R := by
  have HR := hide hR
  clear hR
  obtain ⟨a, c, rfl, hc1, hc2, hcell⟩ := hv.open
  have HC := hide hcell
  have HS := hide hs
  clear hcell hv hs
  unfold maxLen at hc2
  go_enter Try.func44, Try.ntmps44
  go_wp2_with fail
  go_loopw [3, 10] (fun n i wr => ∃ k : Nat, i = .int .i64 k ∧ k ≤ ls.length ∧ n = .int .i64 (bnd (upTo ls k 0)) ∧ Same w wr) (fun _ i _ => ls.length - (intOf i).toNat)
  case atStart => exact ⟨0, rfl, Nat.zero_le _, by simp [upTo, bnd], Keeps.refl _ _⟩
  case round =>
    obtain ⟨k, rfl, hk, rfl, hK⟩ := hrel
    by_cases hlt : k < ls.length
    · obtain ⟨bl, off, rfl, hbl, hcl⟩ := HC.out k hlt
      obtain ⟨u, hu, hiu⟩ := hcl k hlt
      obtain ⟨ua, uc, rfl, hd1, hd2, hdell⟩ := hiu.open
      have hck := Keeps.cell hK hu trivial
      have hrow : ls[k]? = some ls[k] := List.getElem?_eq_getElem hlt
      generalize ls[k] = row at hrow hck hd1 hdell
      have HD := hide hdell
      have HROW := hide hrow
      unfold maxLen at hd2
      clear hcl hu hiu hdell hrow
      obtain ⟨wo, rfl⟩ : ∃ wo : World, wo = wr := ⟨_, rfl⟩
      go_wp2_with fail
      go_loopw [3, 7, 16] (fun n _ i wr => ∃ m : Nat, i = .int .i64 m ∧ m ≤ row.length ∧ n = .int .i64 (bnd (upTo ls k m)) ∧ Same w wr) (fun _ _ i _ => row.length - (intOf i).toNat)
      case atStart => exact ⟨0, rfl, Nat.zero_le _, rfl, hK⟩
      case round =>
        obtain ⟨m, rfl, hm, rfl, hK2⟩ := hrel
        have hb := bnd_bounds (upTo_small HS.out k m)
        by_cases hlt2 : m < row.length
        · obtain ⟨rl, roff, rfl, hrl, hdl⟩ := HD.out m hlt2
          have hdk := Keeps.cell hK2 (hdl m hlt2) trivial
          have hx : row[m]? = some row[m] := List.getElem?_eq_getElem hlt2
          have hxs := HS.out row (List.mem_of_getElem? HROW.out) row[m] (List.getElem_mem hlt2)
          generalize row[m] = x at hx hdk hxs
          have HN := hide (show bnd (upTo ls k (m + 1)) = max (bnd (upTo ls k m)) (x + 1) by rw [upTo_snoc HROW.out hx, bnd_snoc])
          obtain ⟨hx0, hx1⟩ := hxs
          obtain ⟨hb0, hb1⟩ := hb
          clear hdl hx
          generalize bnd (upTo ls k m) = n at HN hb0 hb1
          go_wp2_with fail
          all_goals
            go_roundw
            case rel => exact ⟨m + 1, by go_num, by omega, by rw [HN.out]; congr 1; omega, hK2⟩
            case measure => simp [intOf]; omega
        · go_wp2_with fail
          go_roundw
          case rel => exact ⟨k + 1, by go_num, by omega, by rw [upTo_row HROW.out (show row.length ≤ m by omega)], hK2⟩
          case measure => simp [intOf]; omega
    · go_wp2_with fail
      exact HR.out _ _ (ret_int (by rw [upTo_all ls (by omega)])) hK

end Go.Proofs.Ytbmpnfibebiaeaa
