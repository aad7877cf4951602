/- Texts of this seat in one file, in their order: what stands between each pair of namespace and end is one of them. No condition. -/
import Derived.Test.YtgpgbkoaopfjkaaPkA
import Derived.Laws.EntriesVeiled
import Derived.Deep.Upon
import Derived.Laws.OwnMore
import Derived.Maps.AppendAt
import Derived.Laws.Cover3
import Derived.Lib.SmallJoins
import Derived.BigQuiet
import Derived.Handy

/- Automata as data; the walk of sibylref19.Is. -/
namespace Go.Proofs.Ytgpgbkoaopfjkaa
open Go.RowKit

/-- An automaton as data. -/
structure Au where
  T : Int
  acc : List Bool
  next : List (List Int)

/-- The value v reads as the automaton A. -/
def AutoAt (w : World) (v : Value) (A : Au) : Prop := ∃ va vn, v = .agg #[.int .i64 A.T, va, vn] ∧ BoolsAt w va A.acc ∧ RowsAt w vn A.next ∧ InI64 A.T

theorem AutoAt.same {w w' : World} {v : Value} {A : Au} (h : AutoAt w v A) (k : Same w w') : AutoAt w' v A := by
  obtain ⟨va, vn, e, h1, h2, h3⟩ := h
  exact ⟨va, vn, e, h1.same k, h2.same k, h3⟩

theorem AutoAt.old {w w' : World} {v : Value} {A : Au} (h : AutoAt w v A) (k : Keeps (· < w.heap.size) w w') : AutoAt w' v A := by
  obtain ⟨va, vn, e, h1, h2, h3⟩ := h
  exact ⟨va, vn, e, h1.old k, h2.old k, h3⟩

/-- A state's row may be. -/
def RowOk (T n : Nat) (l : List Int) : Prop := l.length = 2 ^ T ∧ ∀ x ∈ l, 0 ≤ x ∧ x < (n : Int)

instance (T n : Nat) (l : List Int) : Decidable (RowOk T n l) := by unfold RowOk; infer_instance

/-- An automaton that may be. -/
def AuOk (A : Au) : Prop := (0 ≤ A.T ∧ A.T ≤ 6 ∧ 1 ≤ A.acc.length ∧ A.acc.length ≤ 400 ∧ A.next.length = A.acc.length) ∧ ∀ l ∈ A.next, RowOk A.T.toNat A.acc.length l

instance (A : Au) : Decidable (AuOk A) := by unfold AuOk; infer_instance

variable {R : Ending → World → Prop} {w : World}

theorem bad_row {T n : Nat} {ls : List (List Int)} {k : Nat} (hk : k < ls.length) (h : ¬ RowOk T n ls[k]) : ¬ ∀ l ∈ ls, RowOk T n l := fun hh => h (hh _ (List.getElem_mem hk))

end Go.Proofs.Ytgpgbkoaopfjkaa

/- The walk of auto.Is. -/
namespace Go.Proofs.Ytgpgbkoaopfjkaa
open Go.RowKit

variable {R : Ending → World → Prop} {w : World}

theorem callFunc_odd (args : Array Value) (w : World) : (callFunc 77 args).run Try.prog w = .ok (.enter 77 args) w := by kernel_rfl
theorem callFunc_bad (args : Array Value) (w : World) : (callFunc 79 args).run Try.prog w = .ok (.enter 79 args) w := by kernel_rfl

def oddI (n : Nat) (x : Int) : Bool := decide (x < 0) || decide ((n : Int) ≤ x)

theorem isOdd {n nb : Nat} (x : Int) (hn : w.cell? ⟨nb, 0, none⟩ = some (.int .i64 (n : Int))) (hR : ∀ e, e = .returned (.bool (oddI n x)) → R e w) :
    Calls Try.prog 77 #[.int .i64 x, .pointer (some ⟨nb, 0, none⟩)] w R := by
  have HR := hide hR
  clear hR
  by_cases h0 : x < 0
  · go_enter Try.func77, Try.ntmps77
    go_wp2_with fail
    exact HR.out _ (ret_bool (by simp [oddI, h0]))
  · go_enter Try.func77, Try.ntmps77
    go_wp2_with fail
    exact HR.out _ (ret_bool (by simp [oddI]; omega))

/-- A row that may not be. -/
def badRow (T n : Nat) (l : List Int) : Bool := !(decide (RowOk T n l))

theorem badRow_eq {T n p : Nat} {l : List Int} (hp : 2 ^ T = p) : badRow T n l = (((l.length : Nat) : Int) != ((p : Nat) : Int) || l.any (oddI n)) := by
  subst hp
  rw [Bool.eq_iff_iff]
  unfold badRow
  rw [Bool.not_eq_true', decide_eq_false_iff_not, Bool.or_eq_true, bne_iff_ne, List.any_eq_true]
  unfold RowOk oddI
  constructor
  · intro h
    by_cases hl : l.length = 2 ^ T
    · right
      apply Classical.byContradiction
      intro hh
      refine h ⟨hl, fun x hx => ?_⟩
      have : ¬ (x < 0 ∨ (n : Int) ≤ x) := fun h3 => hh ⟨x, hx, by simpa using h3⟩
      omega
    · left; intro e; exact hl (by exact_mod_cast e)
  · rintro (h | ⟨x, hx, hb⟩) ⟨h1, h2⟩
    · exact h (by rw [h1])
    · have := h2 x hx
      simp at hb
      omega

theorem isBad {T n ab nb ob : Nat} {u : Value} {l : List Int} (h6 : T ≤ 6) (hu : IntsAt w u l) (ha : w.cell? ⟨ab, 0, none⟩ = some (.int .i64 (T : Int))) (hn : w.cell? ⟨nb, 0, none⟩ = some (.int .i64 (n : Int)))
    (ho : w.cell? ⟨ob, 0, none⟩ = some (.func (.func 77) #[] #[.pointer (some ⟨nb, 0, none⟩)]))
    (hR : ∀ e w', e = .returned (.bool (badRow T n l)) → Same w w' → R e w') :
    Calls Try.prog 79 #[u, .pointer (some ⟨ab, 0, none⟩), .pointer (some ⟨ob, 0, none⟩)] w R := by
  have HR := hide hR
  clear hR
  have hw2 := wrap_two h6
  have HU := hide hu
  obtain ⟨ua, uc, rfl, hc1, hc2, _⟩ := hu.open
  unfold maxLen at hc2
  have HE := hide (fun p hp => badRow_eq (T := T) (n := n) (p := p) (l := l) hp)
  by_cases hl : l.length = 2 ^ T
  · generalize hpp : 2 ^ T = p at hw2 hl
    have HPP := hide hpp
    clear hpp hu
    have hne : (((l.length : Nat) : Int) != ((p : Nat) : Int)) = false := by rw [hl]; simp
    clear hl
    go_enter Try.func79, Try.ntmps79
    go_wp2_with fail
    refine containsFunc (p := oddI n) callFunc_odd HU.out ?_ ?_
    · intro x _ w' R hw' hR'
      exact isOdd x (Keeps.cell hw' hn trivial) (fun e he => hR' e _ he (Keeps.refl _ _))
    rintro e w1 rfl k1
    go_wp2_with fail
    exact HR.out _ _ (ret_bool (by rw [HE.out p HPP.out, hne]; simp)) k1
  · generalize hpp : 2 ^ T = p at hw2 hl
    have HPP := hide hpp
    clear hpp hu
    have hne : (((l.length : Nat) : Int) != ((p : Nat) : Int)) = true := by rw [bne_iff_ne]; omega
    clear hl
    go_enter Try.func79, Try.ntmps79
    go_wp2_with fail
    exact HR.out _ _ (ret_bool (by rw [HE.out p HPP.out, hne]; simp)) (Keeps.refl _ _)

set_option maxHeartbeats 2000000 in
theorem autoIs {v : Value} {A : Au} (hv : AutoAt w v A) (hR : ∀ e w', e = .returned (.bool (decide (AuOk A))) → Same w w' → R e w') :
    Calls Try.prog 51 #[v] w R := by
  have HR := hide hR
  clear hR
  obtain ⟨T, acc, next⟩ := A
  obtain ⟨va, vn, rfl, hacc, hnext, hT⟩ := hv
  simp only at hacc hnext hT
  obtain ⟨aa, ac, rfl, hc1, hc2, _⟩ := hacc.open
  have HN := hide hnext
  obtain ⟨na, nc, rfl, hd1, hd2, _⟩ := hnext.open
  unfold maxLen at hc2 hd2
  unfold InI64 at hT
  have hbox := heap_new w (.cells #[.int .i64 T, .slice aa acc.length ac, .slice na next.length nc] 33)
  have c0 := cell_at hbox 0
  have c1 := cell_at hbox 1
  have c2 := cell_at hbox 2
  simp only [List.getElem?_toArray, List.getElem?_cons_zero, List.getElem?_cons_succ] at c0 c1 c2
  have hk : Same w (w.alloc (.cells #[.int .i64 T, .slice aa acc.length ac, .slice na next.length nc] 33)) := (Keeps.refl _ w).alloc _
  clear hacc hnext hbox
  by_cases h5 : next.length = acc.length
  case neg =>
    have hne : (((next.length : Nat) : Int) != ((acc.length : Nat) : Int)) = true := by rw [bne_iff_ne]; omega
    have HNO := hide h5
    clear h5
    go_enter Try.func51, Try.ntmps51
    go_wp2_with fail
    all_goals exact HR.out _ _ (ret_bool (by symm; rw [decide_eq_false_iff_not]; exact fun h => HNO.out h.1.2.2.2.2)) (hk.alloc _)
  have H5 := hide h5
  have hne : (((next.length : Nat) : Int) != ((acc.length : Nat) : Int)) = false := by rw [h5]; simp
  clear h5
  by_cases hpre : 0 ≤ T ∧ T ≤ 6 ∧ 1 ≤ acc.length ∧ acc.length ≤ 400
  · have HPRE := hide hpre
    obtain ⟨h1, h2, h3, h4⟩ := hpre
    obtain ⟨T, rfl⟩ := Int.eq_ofNat_of_zero_le h1
    have HD : Hid (AuOk ⟨(T : Int), acc, next⟩ ↔ ∀ l ∈ next, RowOk T acc.length l) := hide ⟨fun h => h.2, fun h => ⟨⟨HPRE.out.1, HPRE.out.2.1, HPRE.out.2.2.1, HPRE.out.2.2.2, H5.out⟩, h⟩⟩
    go_enter Try.func51, Try.ntmps51
    go_wp2_with fail
    have s1 : (w.alloc (.cells #[.int .i64 (T : Int), .slice aa acc.length ac, .slice na next.length nc] 33)).heap.size = w.heap.size + 1 := by simp
    have HT6 : Hid (T ≤ 6) := hide (by omega)
    generalize w.alloc (.cells #[.int .i64 (T : Int), .slice aa acc.length ac, .slice na next.length nc] 33) = w1 at c0 c1 c2 hk s1 ⊢
    have n1 := cell_new w1 #[.int .i64 (acc.length : Int)] 3 0
    have s2 : (w1.alloc (.cells #[.int .i64 (acc.length : Int)] 3)).heap.size = w.heap.size + 1 + 1 := by simp [s1]
    have d0 := cell_alloc c0 (.cells #[.int .i64 (acc.length : Int)] 3)
    have hk2 := hk.alloc (.cells #[.int .i64 (acc.length : Int)] 3)
    rw [s1] at n1
    generalize w1.alloc (.cells #[.int .i64 (acc.length : Int)] 3) = w2 at n1 s2 d0 hk2 ⊢
    have o1 := cell_new w2 #[.func (.func 77) #[] #[.pointer (some ⟨w.heap.size + 1, 0, none⟩)]] 41 0
    rw [s2] at o1
    have e0 := cell_alloc d0 (.cells #[.func (.func 77) #[] #[.pointer (some ⟨w.heap.size + 1, 0, none⟩)]] 41)
    have n2 := cell_alloc n1 (.cells #[.func (.func 77) #[] #[.pointer (some ⟨w.heap.size + 1, 0, none⟩)]] 41)
    have hk3 := hk2.alloc (.cells #[.func (.func 77) #[] #[.pointer (some ⟨w.heap.size + 1, 0, none⟩)]] 41)
    generalize w2.alloc (.cells #[.func (.func 77) #[] #[.pointer (some ⟨w.heap.size + 1, 0, none⟩)]] 41) = w3 at o1 e0 n2 hk3 ⊢
    clear c0 c1 c2 hk s1 n1 s2 d0 hk2
    have O1 := hide o1
    have E0 := hide e0
    have N2 := hide n2
    have HK := hide hk3
    clear o1 e0 n2 hk3
    refine containsFuncR (p := badRow T acc.length) callFunc_bad (HN.out.same HK.out) ?_ ?_
    · intro u l _ hu w' R hw' hR'
      exact isBad HT6.out (hu.same hw') (Keeps.cell hw' E0.out trivial) (Keeps.cell hw' N2.out trivial) (Keeps.cell hw' O1.out trivial) hR'
    rintro e w4 rfl k4
    have HB : Hid ((!(next.any (badRow T acc.length))) = decide (AuOk ⟨(T : Int), acc, next⟩)) := hide (by
      rw [Bool.eq_iff_iff, decide_eq_true_iff, HD.out, Bool.not_eq_true', List.any_eq_false]
      exact forall_congr' fun l => by unfold badRow; simp)
    go_wp2_with fail
    exact HR.out _ _ (ret_bool HB.out) (HK.out.tr k4)
  · have HNO : Hid (¬ AuOk ⟨T, acc, next⟩) := hide fun h => hpre ⟨h.1.1, h.1.2.1, h.1.2.2.1, h.1.2.2.2.1⟩
    go_enter Try.func51, Try.ntmps51
    go_wp2_with fail
    all_goals first
      | exact HR.out _ _ (ret_bool (by symm; rw [decide_eq_false_iff_not]; exact HNO.out)) (hk.alloc _)
      | (exfalso; omega)

end Go.Proofs.Ytgpgbkoaopfjkaa

/- An append of a whole slice, whatever the elements; the walk of slices.Clone over bools. -/
namespace Go.Proofs.Ytgpgbkoaopfjkaa
open Go.RowKit

variable {R : Ending → World → Prop} {w : World}

/-- 'append(s, u...)', s the call's own, elements of one cell. -/
theorem append_slice {P : Program} {t e : TypeId} {z : Value} {bytes : Nat} (ht : P.underlying t = some (.slice e)) (hi : (P.info? e).map (fun i => (i.zero, i.size, i.bytes)) = some (some z, 1, bytes)) (hzs : z.cells.size = 1) (hby : bytes ≤ 16)
    {B : Nat} {v u : Value} {l m : List Value} (hown : w.ownsRow B e 1 v l.length l) (hu : SliceAt w u m) (hone : ∀ x ∈ m, x.oneCell' = true) (hB : B ≤ w.heap.size) (hn : l.length + m.length ≤ 2199023255552) :
    ∃ v' w', (Builtin.append_ #[t, t] t #[v, u]).run P w = .ok v' w' ∧ w'.ownsRow B e 1 v' (l.length + m.length) (l ++ m) ∧ Keeps (fun b => v.ownBlock ≠ some b) w w' ∧ (v'.ownBlock = v.ownBlock ∨ v'.ownBlock = some w.heap.size) := by
  obtain ⟨i0, hi0, hz0, hz1, hz2⟩ := info_parts hi
  obtain ⟨a, c, rfl, h1, h2, h3⟩ := hu
  have hb : (l.length + m.length) * bytes ≤ 140737488355328 := Nat.le_trans (Nat.mul_le_mul hn hby) (by omega)
  rcases m with _ | ⟨x, m⟩
  · refine ⟨v, w, ?_, by simpa using hown, Keeps.refl _ _, .inl rfl⟩
    rcases hown.2 with ⟨rfl, h0⟩ | ⟨g, cap, cur, rfl, _, _, hnc, _⟩
    · cases a <;> simp [Builtin.append_, run_underlying ht, sizeOf, typeInfo, hi0, Builtin.lenOf, Builtin.firstCells, loadCells, loadCellsFrom]
    · cases a <;> simp [Builtin.append_, run_underlying ht, sizeOf, typeInfo, hi0, Builtin.lenOf, Builtin.firstCells, loadCells, loadCellsFrom, hnc, storeCells]
  · rcases h3 with h3 | ⟨b, off, cur, e', fr, rfl, h5, h6⟩
    · simp at h3
    · obtain ⟨v', w', hr, ho, hg, _, hat⟩ := run_append_own_at (P := P) w B t t e i0 z 1 bytes ht hi0 hz0 hz1 hz2 hzs (by decide) v l.length l hown ⟨b, off, none⟩ (x :: m).length c (x :: m)
        (by simp) (fun j u hj => by
          have := h6 j u hj
          unfold Addr.add
          split
          · rename_i e0; subst e0; rw [cell_at h5]; exact this
          · show w.cell? ⟨b, off + j, none⟩ = _; rw [cell_at h5]; exact this) hone (by unfold maxLen; omega) hb hB
      exact ⟨v', w', hr, ho, (Keeps.refl _ w).grown hg (fun k hk hh => hh.2 hk), hat⟩

theorem bool_info : (Try.prog.info? 4).map (fun i => (i.zero, i.size, i.bytes)) = some (some (.bool false), 1, 1) := by kernel_rfl

/-- The slice v is the call's own, and reads as the bools l. -/
def OwnBools (w : World) (B : Nat) (v : Value) (l : List Bool) : Prop := w.ownsRow B 4 1 v l.length (l.map Value.bool)

theorem slice_of_own {e : TypeId} {B n : Nat} {v : Value} {xs : List Value} (h : w.ownsRow B e 1 v n xs) (hn : n = xs.length) : SliceAt w v xs := by
  subst hn
  rcases h.2 with ⟨rfl, h0⟩ | ⟨g, cap, cur, rfl, hB, hg, q1, q2, q3, q4⟩
  · have : xs = [] := List.eq_nil_of_length_eq_zero (by omega)
    subst this
    exact ⟨none, 0, rfl, Nat.le_refl _, Nat.zero_le _, .inl rfl⟩
  · refine ⟨_, cap, rfl, by omega, q2, .inr ⟨g, 0, cur, _, _, rfl, hg, fun i x hx => ?_⟩⟩
    rw [← q4] at hx
    rw [List.getElem?_take] at hx
    split at hx
    · simpa using hx
    · cases hx

theorem OwnBools.bools {B : Nat} {v : Value} {l : List Bool} (h : OwnBools w B v l) : BoolsAt w v l := slice_of_own h (by simp)

theorem own_nil (w : World) (e : TypeId) {B : Nat} (hB : B ≤ w.heap.size) : (w.alloc (.cells #[] e)).ownsRow B e 1 (.slice (some ⟨w.heap.size, 0, none⟩) 0 0) 0 [] :=
  World.ownsRow_lit (base := B) (e := e) (size := 1) w #[] 0 hB (Nat.zero_le _) rfl

set_option maxRecDepth 10000 in
set_option maxHeartbeats 1000000 in
theorem cloneBools {v : Value} {l : List Bool} (hv : BoolsAt w v l) (h0 : 0 < l.length) (hl : l.length ≤ 1000)
    (hR : ∀ e w' u, e = .returned u → OwnBools w' w.heap.size u l → Same w w' → R e w') :
    Calls Try.prog 31 #[v] w R := by
  have HR := hide hR
  clear hR
  have HV := hide hv
  obtain ⟨a, c, rfl, hc1, hc2, hcell⟩ := hv.open
  obtain ⟨b, off, rfl, _, _⟩ := hcell 0 h0
  obtain ⟨v', w', hr, ho, hk, _⟩ := append_slice (t := 30) Try.underlying30 bool_info rfl (by decide) (own_nil w 4 (Nat.le_refl _)) (SliceAt.same HV.out ((Keeps.refl _ w).alloc _)) (by intro x hx; obtain ⟨y, _, rfl⟩ := List.mem_map.1 hx; rfl) (by simp) (by simp; omega)
  have HO := hide ho
  have HK : Hid (Same w w') := hide (((Keeps.refl _ w).alloc _).trans hk fun x hx _ => ⟨trivial, by simp [Value.ownBlock]; omega⟩)
  clear hcell hv ho hk
  unfold maxLen at hc2
  go_enter Try.func31, Try.ntmps31
  have hq : (binOp .eql 30 (.slice (some ⟨b, off, none⟩) l.length c) (.slice none 0 0)).run Try.prog w = .ok (.bool false) w := by
    simp [binOp, run_equal_slice_nil w 30 4 _ _ _ Try.underlying30]
  go_wp2_with (at_builtin; refine wpList_append_run rfl _ _ _ rfl rfl rfl hr ?_; clear hr)
  exact HR.out _ _ _ rfl (by simpa [OwnBools] using HO.out) HK.out

end Go.Proofs.Ytgpgbkoaopfjkaa

/- What an argument that reads as data gives the walks: an automaton. -/
namespace Go.Proofs.Ytgpgbkoaopfjkaa
open Go.ChangeShapes Go.WideShapes Go.ChangeAt Go.RowKit Go.Deep

set_option maxRecDepth 100000

theorem auto_of_trod {H : Type} {enc : TypeId × Value → H} {w : World} {base b0 : Nat} {held : Bool} {r : Reach} {v : Value} {d : DataW H} {p : List MemPlace}
    (hv : Value.okWide Try.prog w r b0 33 v) (h : DataW.Trod enc Try.prog w base (fun _ => true) held 33 v d p) : ∃ A, AutoAt w v A := by
  obtain ⟨c0, c1, c2, y0, y1, y2, m, rfl, rfl, rfl, h0, h1, h2⟩ := Go.Joins.open_agg3 Try.underlying33 (by kernel_rfl) (by kernel_rfl) hv h
  obtain ⟨x, e0, _, wx⟩ := DataW.trod_int Try.underlying3 h0
  obtain ⟨va, la, e1, ha⟩ := bools_of_trod Try.underlying30 Try.underlying4 (by kernel_rfl) h1
  obtain ⟨vn, ln, e2, hn⟩ := rows_of_trod Try.underlying31 Try.underlying42 Try.underlying3 (by kernel_rfl) (by kernel_rfl) h2
  simp only [List.cons.injEq, and_true] at e0 e1 e2
  subst e0; subst e1; subst e2
  exact ⟨⟨x, la, ln⟩, _, _, rfl, ha, hn, bounds_i64 wx⟩

end Go.Proofs.Ytgpgbkoaopfjkaa

/- An automaton in memory. -/
namespace Go.Proofs.Ytgpgbkoaopfjkaa
open Go.RowKit

variable {R : Ending → World → Prop} {w : World} {T : Nat} {L : List Nd}

theorem np_normal {Q : Exit → Act → World → Prop} {a : Act} {w : World} (h : Q .normal a w) : NP Q .normal a w := h

/-- The roots give the rows. -/
def RootsOk (T : Nat) (L : List Nd) (roots : List Int) (next : List (List Int)) : Prop :=
  roots.length = next.length ∧ ∀ (i : Nat) (r : Int) (l : List Int), roots[i]? = some r → next[i]? = some l → ∃ k : Nat, r = (k : Int) ∧ k < L.length ∧ ∀ c, c < 2 ^ T → val L k c = l.getD c 0

theorem RootsOk.grow {L' : List Nd} {roots : List Int} {next : List (List Int)} (h : RootsOk T L roots next) (hw : WF T L) (hw' : WF T L') (hp : L <+: L') : RootsOk T L' roots next := by
  refine ⟨h.1, fun i r l hr hl => ?_⟩
  obtain ⟨k, e, hk, hv⟩ := h.2 i r l hr hl
  exact ⟨k, e, Nat.lt_of_lt_of_le hk hp.length_le, fun c hc => (val_prefix hw hw' hp c k hk).trans (hv c hc)⟩

theorem RootsOk.snoc {roots : List Int} {next : List (List Int)} {k : Nat} {l : List Int} (h : RootsOk T L roots next) (hk : k < L.length) (hv : ∀ c, c < 2 ^ T → val L k c = l.getD c 0) : RootsOk T L (roots ++ [(k : Int)]) (next ++ [l]) := by
  refine ⟨by simp [h.1], fun i r m hr hm => ?_⟩
  by_cases hi : i < roots.length
  · rw [List.getElem?_append_left hi] at hr
    rw [List.getElem?_append_left (by rw [← h.1]; exact hi)] at hm
    exact h.2 i r m hr hm
  · have hi2 : i = roots.length := by
      have := (List.getElem?_eq_some_iff.1 hr).1
      simp at this; omega
    subst hi2
    rw [List.getElem?_append_right (Nat.le_refl _)] at hr
    rw [h.1, List.getElem?_append_right (Nat.le_refl _)] at hm
    simp at hr hm
    subst hr; subst hm
    exact ⟨k, rfl, hk, hv⟩

theorem own_not_foot {s : Nat} {e : TypeId} {z B n : Nat} {v : Value} {xs : List Value} (h : w.ownsRow B e z v n xs) (hs : StoreAt w s T L) (h1 : e ≠ 92) (h2 : e ≠ 99) : ∀ b, v.ownBlock = some b → ¬ Foot w s b := fun b hb => by
  obtain ⟨_, cur, hc⟩ := ownsRow_block h hb
  exact not_foot hs hc h1 h2

/-- The block d is a DFA: which states accept, roots, its Store; all of it from B on. -/
structure DfaIn (w : World) (B d s : Nat) (va vr : Value) (T : Nat) (acc : List Bool) (L : List Nd) (roots : List Int) : Prop where
  blk : w.heap[d]? = some (.cells #[va, vr, .pointer (some ⟨s, 0, none⟩)] 64 (0, 0))
  low : B ≤ d
  acc : OwnBools w B va acc
  roots : OwnInts w B vr roots
  store : StoreAt w s T L
  foot : ∀ x, Foot w s x → B ≤ x

variable {B d s : Nat} {va vr : Value} {acc : List Bool} {roots : List Int}

theorem DfaIn.keep {S : Nat → Prop} {w' : World} (h : DfaIn w B d s va vr T acc L roots) (k : Keeps S w w') (hs : ∀ b, B ≤ b → b < w.heap.size → S b) : DfaIn w' B d s va vr T acc L roots := by
  have hsz : w.heap[s]? = w'.heap[s]? := by
    obtain ⟨v, m, e1, _⟩ := h.store.st
    exact e1.trans (k.at e1 (hs s (h.foot s (.inl rfl)) (heap_lt e1))).symm
  refine ⟨k.at h.blk (hs d h.low (heap_lt h.blk)), h.low, ownsRow_keep h.acc k fun b hb => ?_, ownsRow_keep h.roots k fun b hb => ?_, h.store.keep k fun b hb => hs b (h.foot b hb) (foot_old h.store hb), fun x hx => h.foot x ((foot_same hsz.symm x).1 hx)⟩
  · obtain ⟨h1, cur, hc⟩ := ownsRow_block h.acc hb
    exact hs b h1 (heap_lt hc)
  · obtain ⟨h1, cur, hc⟩ := ownsRow_block h.roots hb
    exact hs b h1 (heap_lt hc)

theorem DfaIn.same {w' : World} (h : DfaIn w B d s va vr T acc L roots) (k : Same w w') : DfaIn w' B d s va vr T acc L roots := h.keep k fun _ _ _ => trivial

/-- The Store has grown. -/
theorem DfaIn.grew {w' : World} {L' : List Nd} (h : DfaIn w B d s va vr T acc L roots) (g : Grew s w w') (st : StoreAt w' s T L') (hB : B ≤ w.heap.size) : DfaIn w' B d s va vr T acc L' roots :=
  ⟨g.keeps.at h.blk (not_foot h.store h.blk (by decide) (by decide)), h.low, ownsRow_keep h.acc g.keeps (own_not_foot h.acc h.store (by decide) (by decide)), ownsRow_keep h.roots g.keeps (own_not_foot h.roots h.store (by decide) (by decide)), st, g.footB h.foot hB⟩

/-- Other roots. -/
theorem DfaIn.root {w' : World} {vr' : Value} {roots' : List Int} (h : DfaIn w B d s va vr T acc L roots) (k : Keeps (fun b => vr.ownBlock ≠ some b) w w') (ho : OwnInts w' B vr' roots') : DfaIn (w'.setCell ⟨d, 1, none⟩ vr') B d s va vr' T acc L roots' := by
  have hd : vr.ownBlock ≠ some d := fun e => by
    obtain ⟨_, cur, hc⟩ := ownsRow_block h.roots e
    rw [h.blk] at hc
    simp at hc
  have hb := k.at h.blk hd
  have ka : Keeps (fun b => vr.ownBlock ≠ some b ∧ b ≠ d) w (w'.setCell ⟨d, 1, none⟩ vr') := (k.mono (fun _ _ h => h.1)).setCell (fun hh => hh.2.2 rfl) _
  have ks : Keeps (· ≠ d) w' (w'.setCell ⟨d, 1, none⟩ vr') := (Keeps.refl (· ≠ d) w').setCell (fun hh => hh.2 rfl) _
  have hf : ∀ b, Foot w s b → vr.ownBlock ≠ some b ∧ b ≠ d := fun b hb => ⟨fun e => own_not_foot h.roots h.store (by decide) (by decide) b e hb, fun e => not_foot h.store h.blk (by decide) (by decide) (e ▸ hb)⟩
  have hsz : (w'.setCell ⟨d, 1, none⟩ vr').heap[s]? = w.heap[s]? := by
    obtain ⟨v, m, e1, _⟩ := h.store.st
    exact (ka.at e1 (hf s (.inl rfl))).trans e1.symm
  refine ⟨by rw [heap_setCell_at hb]; simp, h.low, ownsRow_keep h.acc ka fun b hb2 => ⟨fun e => ?_, ?_⟩, ownsRow_keep ho ks fun b hb2 => ?_, h.store.keep ka hf, fun x hx => h.foot x ((foot_same hsz x).1 hx)⟩
  · obtain ⟨_, c1, h1⟩ := ownsRow_block h.acc hb2
    obtain ⟨_, c2, h2⟩ := ownsRow_block h.roots e
    rw [h1] at h2; simp at h2
  · rintro rfl
    obtain ⟨_, c1, h1⟩ := ownsRow_block h.acc hb2
    rw [h.blk] at h1; simp at h1
  · rintro rfl
    obtain ⟨_, c1, h1⟩ := ownsRow_block ho hb2
    rw [hb] at h1; simp at h1

/-- The pointer to block d reads as the automaton A. -/
structure DFAAt (w : World) (B d : Nat) (A : Au) : Prop where
  ok : AuOk A
  st : ∃ va vr s L roots, DfaIn w B d s va vr A.T.toNat A.acc L roots ∧ L.length ≤ 127 * A.acc.length ∧ RootsOk A.T.toNat L roots A.next

theorem DFAAt.keep {S : Nat → Prop} {w' : World} {A : Au} (h : DFAAt w B d A) (k : Keeps S w w') (hs : ∀ b, B ≤ b → b < w.heap.size → S b) : DFAAt w' B d A := by
  obtain ⟨va, vr, s, L, roots, h1, h2⟩ := h.st
  exact ⟨h.ok, va, vr, s, L, roots, h1.keep k hs, h2⟩

theorem DFAAt.same {w' : World} {A : Au} (h : DFAAt w B d A) (k : Same w w') : DFAAt w' B d A := h.keep k fun _ _ _ => trivial

theorem DfaIn.below {B' : Nat} (h : DfaIn w B d s va vr T acc L roots) (hB : B' ≤ B) : DfaIn w B' d s va vr T acc L roots :=
  ⟨h.blk, Nat.le_trans hB h.low, ownsRow_below h.acc hB, ownsRow_below h.roots hB, h.store, fun x hx => Nat.le_trans hB (h.foot x hx)⟩

theorem DFAAt.below {B' : Nat} {A : Au} (h : DFAAt w B d A) (hB : B' ≤ B) : DFAAt w B' d A := by
  obtain ⟨va, vr, s, L, roots, h1, h2⟩ := h.st
  exact ⟨h.ok, va, vr, s, L, roots, h1.below hB, h2⟩

/-- A row that may be is one that a Store makes. -/
theorem RowOk.all {n : Nat} {l : List Int} (h : RowOk T n l) (hn : n ≤ 400) : l.all isVal = true := by
  rw [List.all_eq_true]
  intro x hx
  have := h.2 x hx
  unfold isVal
  simp; omega

theorem RowOk.bounds {n : Nat} {l : List Int} (h : RowOk T n l) (hn : n ≤ 400) : ∀ x ∈ l, InI64 x := fun x hx => by
  have := h.2 x hx
  unfold InI64; omega

end Go.Proofs.Ytgpgbkoaopfjkaa

/- The walk of auto.From. -/
namespace Go.Proofs.Ytgpgbkoaopfjkaa
open Go.RowKit

attribute [local irreducible] wpPlanZ wpPlan wpUp

variable {R : Ending → World → Prop} {w : World}

theorem autoFromNot {v : Value} {A : Au} (hv : AutoAt w v A) (hno : ¬ AuOk A) (hR : ∀ e w', e = .returned (.tuple #[.pointer none, .int .i64 1]) → Same w w' → R e w') :
    Calls Try.prog 23 #[v] w R := by
  have HR := hide hR
  clear hR
  have HV := hide hv
  obtain ⟨va, vn, rfl, hacc, hnext, hT⟩ := hv
  obtain ⟨aa, ac, rfl, _⟩ := hacc.open
  obtain ⟨na, nc, rfl, _⟩ := hnext.open
  have hk : Same w (w.alloc (.cells #[.int .i64 A.T, .slice aa A.acc.length ac, .slice na A.next.length nc] 33)) := (Keeps.refl _ w).alloc _
  clear hacc hnext hT
  go_enter Try.func23, Try.ntmps23
  go_wp2_with fail
  refine autoIs (HV.out.same hk) ?_; rintro e w1 rfl k1
  rw [show decide (AuOk A) = false by simpa using hno]
  go_wp2_with fail
  exact HR.out _ _ rfl (hk.tr k1)

set_option maxHeartbeats 4000000 in
theorem autoFrom {v : Value} {A : Au} (hv : AutoAt w v A) (hok : AuOk A) (hR : ∀ e w' d, e = .returned (.tuple #[.pointer (some ⟨d, 0, none⟩), .int .i64 0]) → DFAAt w' w.heap.size d A → Same w w' → R e w') :
    Calls Try.prog 23 #[v] w R := by
  have HR := hide hR
  clear hR
  have HV := hide hv
  have HOK := hide hok
  obtain ⟨T, acc, next⟩ := A
  obtain ⟨⟨h1, h2, h3, h4, h5⟩, hrows⟩ := hok
  obtain ⟨va, vn, rfl, hacc, hnext, hT⟩ := hv
  simp only at h1 h2 h3 h4 h5 hrows hacc hnext hT
  obtain ⟨T, rfl⟩ := Int.eq_ofNat_of_zero_le h1
  have HACC := hide hacc
  obtain ⟨aa, ac, rfl, hc1, hc2, _⟩ := hacc.open
  obtain ⟨na, nc, rfl, hd1, hd2, hcell⟩ := hnext.open
  have HC := hide hcell
  have HRO := hide hrows
  have H5 := hide h5
  have H2 : Hid (T ≤ 6) := hide (by omega)
  have H34 := hide (And.intro h3 h4)
  have hbox := heap_new w (.cells #[.int .i64 (T : Int), .slice aa acc.length ac, .slice na next.length nc] 33)
  have c0 := cell_at hbox 0
  have c1 := cell_at hbox 1
  have c2 := cell_at hbox 2
  simp only [List.getElem?_toArray, List.getElem?_cons_zero, List.getElem?_cons_succ] at c0 c1 c2
  have hk : Same w (w.alloc (.cells #[.int .i64 (T : Int), .slice aa acc.length ac, .slice na next.length nc] 33)) := (Keeps.refl _ w).alloc _
  have hdec : decide (AuOk ⟨(T : Int), acc, next⟩) = true := by simpa using HOK.out
  unfold maxLen at hc2 hd2
  obtain ⟨B, hBs⟩ : ∃ B, B = w.heap.size := ⟨_, rfl⟩
  have HBS := hide hBs
  clear hBs hacc hnext hT hcell hbox h1 h2 h3 h4 h5 hrows
  go_enter Try.func23, Try.ntmps23
  go_wp2_with fail
  refine autoIs (HV.out.same hk) ?_; rintro e w1 rfl k1
  rw [hdec]
  have d0 := Keeps.cell k1 c0 trivial
  have d1 := Keeps.cell k1 c1 trivial
  have d2 := Keeps.cell k1 c2 trivial
  have D2 := hide d2
  have HK1 := hide (hk.tr k1)
  clear c0 c1 c2 hk k1 hdec d2
  go_wp2_with fail
  refine wp_region_plan (.take 0 (.take 1 (.take 3 (.take 4 (.one 2 (.one 5 (.take 6 (.one 7 (.take 8 .done))))))))) (Same w1) (by kernel_rfl) (by kernel_rfl) (Keeps.drew (Keeps.refl (fun _ => True) w1)) ?_
  iterate 4
    (apply pl_take
     case ho => rfl
     case hw => rfl
     case hv =>
       intro w' hw'
       have q0 := Keeps.cell hw' d0 trivial
       have q1 := Keeps.cell hw' d1 trivial
       go_simp
       exact rfl
     go_simp)
  refine pl_one (up_do rfl rfl fun K hK1 => ?_)
  go_simp
  refine cloneBools (HACC.out.same (HK1.out.tr (Keeps.drew (Keeps.refl (fun _ => True) w1)))) H34.out.1 (by have := H34.out.2; omega) ?_; rintro e w2 u2 rfl o2 k2
  obtain ⟨ub, uc, rfl⟩ := ownsRow_shape o2
  refine hK1 (Same w1) _ _ ((Keeps.drew (Keeps.refl (fun _ => True) w1)).tr k2) (fun _ h => h) ?_
  clear hK1 K
  refine pl_one (up_do rfl rfl fun K hK1 => ?_)
  go_simp
  refine storeNew (T : Int) (by omega) (by have := H2.out; omega) ?_; rintro e w3 s rfl s3 k3 f3
  refine hK1 (Same w1) _ _ (((Keeps.drew (Keeps.refl (fun _ => True) w1)).tr k2).tr k3) (fun _ h => h) ?_
  clear hK1 K
  apply pl_take
  case ho => rfl
  case hw => rfl
  case hv => intro w' hw'; go_simp; exact rfl
  go_simp
  refine pl_one (up_do rfl rfl fun K hK1 => ?_)
  go_simp
  have hin : DfaIn (w3.alloc (.cells #[.slice ub acc.length uc, .slice none 0 0, .pointer (some ⟨s, 0, none⟩)] 64)) B w3.heap.size s (.slice ub acc.length uc) (.slice none 0 0) T acc [] [] := by
    have hB1 : B ≤ w1.heap.size := by rw [HBS.out]; exact HK1.out.size
    have hB2 : B ≤ w2.heap.size := Nat.le_trans hB1 k2.size
    have ka : Same w3 (w3.alloc (.cells #[.slice ub acc.length uc, .slice none 0 0, .pointer (some ⟨s, 0, none⟩)] 64)) := (Keeps.refl _ w3).alloc _
    rw [Int.toNat_natCast] at s3
    exact ⟨heap_new _ _, Nat.le_trans hB2 k3.size, ownsRow_below (ownsRow_keep o2 (k3.tr ka) fun _ _ => trivial) hB1, World.ownsRow_nil _ _ _ _, s3.same ka, fun x hx => Nat.le_trans hB2 (s3.foot ka f3 x hx)⟩
  have hk4 : Same w1 (w3.alloc (.cells #[.slice ub acc.length uc, .slice none 0 0, .pointer (some ⟨s, 0, none⟩)] 64)) := (((Keeps.drew (Keeps.refl (fun _ => True) w1)).tr k2).tr k3).alloc _
  refine hK1 (Same w1) _ _ hk4 (fun _ h => h) ?_
  clear hK1 K
  generalize w3.alloc (.cells #[.slice ub acc.length uc, .slice none 0 0, .pointer (some ⟨s, 0, none⟩)] 64) = w4 at hin hk4 ⊢
  generalize w3.heap.size = d at hin ⊢
  apply pl_take
  case ho => rfl
  case hw => rfl
  case hv => intro w' hw'; go_simp; exact rfl
  go_simp
  refine pl_done ?_
  have e2 := Keeps.cell hk4 D2.out trivial
  have HIN := hide hin
  have HK4 := hide (HK1.out.tr hk4)
  clear o2 k2 s3 k3 f3 hin hk4 d0 d1
  go_wp2_with fail
  go_loopw [21] (fun i wr => ∃ (k : Nat) (vr : Value) (L : List Nd) (roots : List Int), i = .int .i64 k ∧ k ≤ next.length ∧ Hid (DfaIn wr B d s (.slice ub acc.length uc) vr T acc L roots ∧ L.length ≤ 127 * k ∧ RootsOk T L roots (next.take k)) ∧ Same w wr) (fun i _ => next.length - (intOf i).toNat)
  case atStart => exact ⟨0, _, [], [], rfl, Nat.zero_le _, hide ⟨HIN.out, Nat.le_refl _, rfl, by simp⟩, HK4.out⟩
  case round =>
    clear e2
    obtain ⟨k, vr, L, roots, rfl, hk, hinv, hK⟩ := hrel
    by_cases hlt : k < next.length
    · obtain ⟨bl, off, rfl, hbl, hcl⟩ := HC.out k hlt
      obtain ⟨u, hu, hiu⟩ := hcl k hlt
      obtain ⟨ua, uuc, rfl, _⟩ := hiu.open
      have hck := Keeps.cell hK hu trivial
      have HROW := hide (HRO.out next[k] (List.getElem_mem hlt))
      have HT := hide (List.take_succ_eq_append_getElem hlt)
      have HIU := hide hiu
      generalize next[k] = row at hck HROW HT HIU
      obtain ⟨hin, hLlen, hro⟩ := hinv.out
      obtain ⟨ra, rc, rfl⟩ := hin.roots.shape
      have HIN := hide hin
      have HL := hide hLlen
      have HRK := hide hro
      have HKW := hide hK
      clear hcl hu hiu hinv hin hLlen hro hK
      go_wp2_with fail
      refine wp_region_planz 15 (.take 0 (.take 1 (.take 2 (.take 3 (.take 4 (.take 5 (.take 6 (.take 7 (.take 8 (.take 9 (.one 10 (.one 11 (.one 12 (.take 13 (.take 14 .last))))))))))))))) (fun w' => w'.heap[d]? = some (.cells #[.slice ub acc.length uc, .slice ra roots.length rc, .pointer (some ⟨s, 0, none⟩)] 64 (0, 0))) (by kernel_rfl) (by kernel_rfl) HIN.out.blk ?_
      iterate 10
        (first
           | (apply pz_pass
              case ho => rfl
              case hw => rfl
              go_simp)
           | (apply pz_take
              case ho => rfl
              case hw => rfl
              case hv =>
                intro w' hS
                (have q1 := cell_at hS 1; have q2 := cell_at hS 2; simp only [List.getElem?_toArray, List.getElem?_cons_zero, List.getElem?_cons_succ] at q1 q2)
                go_simp
                exact rfl
              go_simp))
      refine pz_one (up_do rfl rfl fun K hK1 => ?_)
      go_simp
      have kd : Same wr wr.drew := Keeps.drew (Keeps.refl (fun _ => True) wr)
      have hBw : B ≤ wr.heap.size := by rw [HBS.out]; exact HKW.out.size
      have hind := HIN.out.same kd
      have hiu := HIU.out.same (HKW.out.tr kd)
      have hap : Apart wr.drew s (.slice ua row.length uuc) := Apart.old hind.foot (fun b hb => by rw [HBS.out]; exact HIU.out.lt b hb) hBw
      have hTn : T ≤ 6 := H2.out
      obtain ⟨j, hmade, hval⟩ := OfA_made hind.store.wf HROW.out.1 (HROW.out.all H34.out.2)
      have hlen := OfA_len T L row hTn
      have HCAP : Hid (acc.length ≤ 400) := hide H34.out.2
      have HKN : Hid (k < acc.length) := hide (by rw [← H5.out]; exact hlt)
      refine storeOfC hind.store hiu hap (by have := HL.out; have := HCAP.out; have := HKN.out; omega) ?_; rintro e w2 rfl s2 g2
      rw [hmade.num]
      have hin2 := hind.grew g2 s2 hBw
      have hK2 : Same w w2 := (HKW.out.tr kd).trans g2.keeps fun x hx _ => ⟨trivial, fun hf => by have := hind.foot x hf; rw [HBS.out] at this; omega⟩
      have hro2 := (HRK.out.grow hind.store.wf hmade.wf hmade.pre).snoc hmade.lt hval
      have HRL : Hid (roots.length = k) := hide (by rw [HRK.out.1]; simp; omega)
      obtain ⟨g, cap1, w5, hr, hown2, hk5, hg, _⟩ := append_one (P := Try.prog) w2 42 42 3 Try.underlying42 int_info rfl hin2.roots (by rw [HBS.out]; exact hK2.size) (.int .i64 (j : Int)) rfl (by have := HRL.out; have := HCAP.out; have := HKN.out; omega) (by decide)
      have hown3 : OwnInts w5 B (.slice (some ⟨g, 0, none⟩) (roots.length + 1) cap1) (roots ++ [(j : Int)]) := by unfold OwnInts; simpa using hown2
      have hin5 := hin2.root hk5 hown3
      have hnd : (Value.slice ra roots.length rc).ownBlock ≠ some d := fun e => by
        obtain ⟨_, cur, hc⟩ := ownsRow_block hin2.roots e
        rw [hin2.blk] at hc; simp at hc
      have hb5 := hk5.at hin2.blk hnd
      have hK5 : Same w w5 := hK2.trans hk5 fun x hx _ => ⟨trivial, fun e => by
        have := (ownsRow_block hin2.roots e).1
        rw [HBS.out] at this; omega⟩
      have hK6 : Same w (w5.setCell ⟨d, 1, none⟩ (.slice (some ⟨g, 0, none⟩) (roots.length + 1) cap1)) := hK5.setCell (fun hh => by have := hin2.low; rw [HBS.out] at this; have := hh.1; simp at this; omega) _
      have z1 := cell_at hb5 1
      have z2 := free_at hb5 1
      simp only [List.getElem?_toArray, List.getElem?_cons_zero, List.getElem?_cons_succ] at z1
      have HF := hide (And.intro hin5 (And.intro hro2 hK6))
      have hS2 := hin2.blk
      refine hK1 _ _ _ hS2 (fun _ h => h) ?_
      clear hK1 K hin5 hro2 hK6 hK5 hnd hown3 hown2 hin2 hk5 hind hiu hap hval hmade
      refine pz_one (up_do rfl rfl fun K hK1 => ?_)
      go_simp
      refine hK1 _ _ _ (heap_old hS2 _) (fun _ h => h) ?_
      clear hK1 K
      refine pz_one (up_append _ _ _ rfl rfl rfl ?hs ?hx hr _ hb5 (fun _ h => h) ?_)
      case hs => rfl
      case hx => rfl
      clear hr
      go_simp
      iterate 2
        (first
           | (apply pz_pass
              case ho => rfl
              case hw => rfl
              go_simp)
           | (apply pz_take
              case ho => rfl
              case hw => rfl
              case hv =>
                intro w' hS
                (skip)
                go_simp
                exact rfl
              go_simp))
      refine pz_last rfl rfl fun K hK1 => ?_
      go_simp
      refine hK1 _ _ (np_normal ?_)
      clear hK1 K z1 z2 hb5 hS2
      go_wp2_with fail
      go_roundw
      case rel =>
        refine ⟨k + 1, _, _, _, by go_num, by omega, hide ⟨HF.out.1, ?_, ?_⟩, HF.out.2.2⟩
        · have := HL.out; omega
        · rw [HT.out]; exact HF.out.2.1
      case measure => simp [intOf]; omega
    · obtain rfl : k = next.length := by omega
      obtain ⟨hin, hLlen, hro⟩ := hinv.out
      rw [List.take_length] at hro
      have hD : DFAAt wr B d ⟨(T : Int), acc, next⟩ := ⟨HOK.out, _, _, _, L, roots, by simpa using hin, by have := H5.out; simp only; omega, by simpa using hro⟩
      have HD := hide hD
      have HKF := hide hK
      clear hinv hin hLlen hro hD hK
      go_wp2_with fail
      exact HR.out _ _ d rfl (by have := HD.out; rw [HBS.out] at this; exact this) HKF.out

end Go.Proofs.Ytgpgbkoaopfjkaa

/- The walks of auto's small functions: States, Store, Tracks, is, Root, Accepts, Step, Run. -/
namespace Go.Proofs.Ytgpgbkoaopfjkaa
open Go.RowKit

variable {R : Ending → World → Prop} {w : World} {A : Au} {B d : Nat}

/-- What lies behind the pointer, opened. -/
theorem DFAAt.open (h : DFAAt w B d A) : ∃ (aa ra : Option Addr) (ac rc s : Nat) (L : List Nd) (roots : List Int), w.cell? ⟨d, 0, none⟩ = some (.slice aa A.acc.length ac) ∧ w.cell? ⟨d, 1, none⟩ = some (.slice ra roots.length rc) ∧ w.cell? ⟨d, 2, none⟩ = some (.pointer (some ⟨s, 0, none⟩)) ∧
    BoolsAt w (.slice aa A.acc.length ac) A.acc ∧ IntsAt w (.slice ra roots.length rc) roots ∧ StoreAt w s A.T.toNat L ∧ L.length ≤ 127 * A.acc.length ∧ RootsOk A.T.toNat L roots A.next := by
  obtain ⟨va, vr, s, L, roots, hin, hl, hr⟩ := h.st
  obtain ⟨aa, ac, rfl⟩ := ownsRow_shape hin.acc
  obtain ⟨ra, rc, rfl⟩ := ownsRow_shape hin.roots
  have c0 := cell_at hin.blk 0
  have c1 := cell_at hin.blk 1
  have c2 := cell_at hin.blk 2
  simp only [List.getElem?_toArray, List.getElem?_cons_zero, List.getElem?_cons_succ] at c0 c1 c2
  refine ⟨aa, ra, ac, rc, s, L, roots, c0, c1, c2, hin.acc.bools, hin.roots.ints fun x hx => ?_, hin.store, hl, hr⟩
  obtain ⟨i, hi⟩ := List.getElem?_of_mem hx
  have hlt := (List.getElem?_eq_some_iff.1 hi).1
  rw [hr.1] at hlt
  obtain ⟨k, rfl, hk, _⟩ := hr.2 i x _ hi (List.getElem?_eq_getElem hlt)
  have := h.ok.1.2.2.2.1
  unfold InI64; omega

theorem dfaStates (h : DFAAt w B d A) (hR : ∀ e, e = .returned (.int .i64 (A.acc.length : Int)) → R e w) : Calls Try.prog 14 #[.pointer (some ⟨d, 0, none⟩)] w R := by
  have HR := hide hR
  clear hR
  obtain ⟨aa, ra, ac, rc, s, L, roots, c0, c1, c2, _⟩ := h.open
  clear h
  go_enter Try.func14, Try.ntmps14
  go_wp2_with fail
  exact HR.out _ rfl

theorem dfaStore (h : DFAAt w B d A) (hR : ∀ e s L roots va vr, e = .returned (.pointer (some ⟨s, 0, none⟩)) → DfaIn w B d s va vr A.T.toNat A.acc L roots → L.length ≤ 127 * A.acc.length → RootsOk A.T.toNat L roots A.next → R e w) : Calls Try.prog 62 #[.pointer (some ⟨d, 0, none⟩)] w R := by
  obtain ⟨va, vr, s, L, roots, hin, hl, hr⟩ := h.st
  have HR := hide (hR _ s L roots va vr rfl hin hl hr)
  clear hR
  have c2 := cell_at hin.blk 2
  simp only [List.getElem?_toArray, List.getElem?_cons_zero, List.getElem?_cons_succ] at c2
  clear h hin hl hr
  go_enter Try.func62, Try.ntmps62
  go_wp2_with fail
  exact HR.out

theorem dfaTracks (h : DFAAt w B d A) (hR : ∀ e, e = .returned (.int .i64 A.T) → R e w) : Calls Try.prog 30 #[.pointer (some ⟨d, 0, none⟩)] w R := by
  have HR := hide hR
  clear hR
  have hT : ((A.T.toNat : Nat) : Int) = A.T := Int.toNat_of_nonneg h.ok.1.1
  go_enter Try.func30, Try.ntmps30
  go_wp2_with fail
  refine dfaStore h ?_; rintro e s L roots va vr rfl hin _ _
  go_wp2_with fail
  refine storeTracks hin.store ?_; rintro e rfl
  rw [hT]
  go_wp2_with fail
  exact HR.out _ rfl

def inA (A : Au) (i : Int) : Bool := decide (0 ≤ i) && decide (i < (A.acc.length : Int))

theorem dfaIs (h : DFAAt w B d A) (i : Int) (hR : ∀ e, e = .returned (.bool (inA A i)) → R e w) : Calls Try.prog 87 #[.pointer (some ⟨d, 0, none⟩), .int .i64 i] w R := by
  have HR := hide hR
  clear hR
  by_cases h0 : 0 ≤ i
  · go_enter Try.func87, Try.ntmps87
    go_wp2_with fail
    refine dfaStates h ?_; rintro e rfl
    go_wp2_with fail
    exact HR.out _ (ret_bool (by simp [inA, h0]))
  · go_enter Try.func87, Try.ntmps87
    go_wp2_with fail
    exact HR.out _ (ret_bool (by simp [inA]; omega))

/-- The root of a state: a node that gives its row; -1: there is no such state. -/
theorem dfaRoot {s : Nat} {va vr : Value} {L : List Nd} {roots : List Int} (h : DFAAt w B d A) (hin : DfaIn w B d s va vr A.T.toNat A.acc L roots) (hlen : L.length ≤ 127 * A.acc.length) (hro : RootsOk A.T.toNat L roots A.next) (i : Int)
    (hR : ∀ e, e = .returned (.int .i64 (if inA A i then roots.getD i.toNat 0 else -1)) → R e w) : Calls Try.prog 68 #[.pointer (some ⟨d, 0, none⟩), .int .i64 i] w R := by
  have HR := hide hR
  clear hR
  cases hi : inA A i with
  | false =>
    rw [hi] at HR
    go_enter Try.func68, Try.ntmps68
    go_wp2_with fail
    refine dfaIs h i ?_; rintro e rfl
    rw [hi]
    go_wp2_with fail
    exact HR.out _ rfl
  | true =>
    rw [hi] at HR
    have hi2 : 0 ≤ i ∧ i < (A.acc.length : Int) := by simpa [inA] using hi
    obtain ⟨k, rfl⟩ := Int.eq_ofNat_of_zero_le hi2.1
    have hkl : k < roots.length := by rw [hro.1, h.ok.1.2.2.2.2]; omega
    obtain ⟨ra, rc, rfl⟩ := ownsRow_shape hin.roots
    have c1 := cell_at hin.blk 1
    simp only [List.getElem?_toArray, List.getElem?_cons_zero, List.getElem?_cons_succ] at c1
    have hints : IntsAt w (.slice ra roots.length rc) roots := hin.roots.ints fun x hx => by
      obtain ⟨i, hi⟩ := List.getElem?_of_mem hx
      have hlt := (List.getElem?_eq_some_iff.1 hi).1
      rw [hro.1] at hlt
      obtain ⟨k, rfl, hk, _⟩ := hro.2 i x _ hi (List.getElem?_eq_getElem hlt)
      have := h.ok.1.2.2.2.1
      unfold InI64; omega
    obtain ⟨ra', rc', e1, hc1, hc2, hcell⟩ := hints.open
    simp only [Value.slice.injEq] at e1
    obtain ⟨rfl, _, rfl⟩ := e1
    obtain ⟨b, off, rfl, _, hcl⟩ := hcell k hkl
    have hck := hcl k hkl
    have he : roots.getD k 0 = roots[k] := by simp [List.getD, List.getElem?_eq_getElem hkl]
    rw [Int.toNat_natCast, he] at HR
    unfold maxLen at hc2
    generalize roots[k] = r at hck HR
    have H := hide h
    clear h hcell hcl hints hro hin he hi2
    go_enter Try.func68, Try.ntmps68
    go_wp2_with fail
    refine dfaIs H.out k ?_; rintro e rfl
    rw [hi]
    clear hi
    go_wp2_with fail
    exact HR.out _ (by simp)

/-- Whether a state accepts. -/
def accA (A : Au) (i : Int) : Bool := inA A i && A.acc.getD i.toNat false

theorem dfaAccepts (h : DFAAt w B d A) (i : Int) (hR : ∀ e, e = .returned (.bool (accA A i)) → R e w) : Calls Try.prog 55 #[.pointer (some ⟨d, 0, none⟩), .int .i64 i] w R := by
  have HR := hide hR
  clear hR
  cases hi : inA A i with
  | false =>
    go_enter Try.func55, Try.ntmps55
    go_wp2_with fail
    refine dfaIs h i ?_; rintro e rfl
    rw [hi]
    go_wp2_with fail
    exact HR.out _ (ret_bool (by simp [accA, hi]))
  | true =>
    have hi2 : 0 ≤ i ∧ i < (A.acc.length : Int) := by simpa [inA] using hi
    obtain ⟨k, rfl⟩ := Int.eq_ofNat_of_zero_le hi2.1
    have hkl : k < A.acc.length := by omega
    obtain ⟨aa, ra, ac, rc, s, L, roots, c0, c1, c2, hb, _⟩ := h.open
    obtain ⟨aa', ac', e1, hc1, hc2, hcell⟩ := hb.open
    simp only [Value.slice.injEq] at e1
    obtain ⟨rfl, _, rfl⟩ := e1
    obtain ⟨b, off, rfl, _, hcl⟩ := hcell k hkl
    have hck := hcl k hkl
    have he : accA A (k : Int) = A.acc[k] := by simp [accA, hi, List.getD, List.getElem?_eq_getElem hkl]
    rw [he] at HR
    unfold maxLen at hc2
    generalize A.acc[k] = r at hck HR
    have H := hide h
    clear h hcell hcl hb he hi2
    go_enter Try.func55, Try.ntmps55
    go_wp2_with fail
    refine dfaIs H.out k ?_; rintro e rfl
    rw [hi]
    clear hi
    go_wp2_with fail
    exact HR.out _ rfl

/-- The next state; -1: none. -/
def stepA (A : Au) (i c : Int) : Int := if inA A i = true ∧ 0 ≤ c ∧ c < 2 ^ A.T.toNat then (A.next.getD i.toNat []).getD c.toNat 0 else -1

theorem dfaStep (h : DFAAt w B d A) (i c : Int) (hR : ∀ e w', e = .returned (.int .i64 (stepA A i c)) → Same w w' → R e w') : Calls Try.prog 34 #[.pointer (some ⟨d, 0, none⟩), .int .i64 i, .int .i64 c] w R := by
  have HR := hide hR
  clear hR
  go_enter Try.func34, Try.ntmps34
  go_wp2_with fail
  refine dfaStore h ?_; rintro e s L roots va vr rfl hin hlen hro
  go_wp2_with fail
  refine dfaRoot h hin hlen hro i ?_; rintro e rfl
  have hat : atA A.T.toNat L (if inA A i then roots.getD i.toNat 0 else -1) c = stepA A i c := by
    unfold stepA
    by_cases hi : inA A i = true
    · rw [if_pos hi]
      have hi2 : 0 ≤ i ∧ i < (A.acc.length : Int) := by simpa [inA] using hi
      obtain ⟨k, rfl⟩ := Int.eq_ofNat_of_zero_le hi2.1
      have hkn : k < A.next.length := by rw [h.ok.1.2.2.2.2]; omega
      have hkr : k < roots.length := by rw [hro.1]; exact hkn
      obtain ⟨j, e, hj, hv⟩ := hro.2 k _ _ (List.getElem?_eq_getElem hkr) (List.getElem?_eq_getElem hkn)
      simp only [Int.toNat_natCast, List.getD, List.getElem?_eq_getElem hkr, List.getElem?_eq_getElem hkn, Option.getD_some] at *
      rw [e]
      unfold atA
      by_cases hc : 0 ≤ c ∧ c < 2 ^ A.T.toNat
      · rw [if_pos ⟨by omega, by omega, hc.1, hc.2⟩, if_pos ⟨hi, hc.1, hc.2⟩]
        obtain ⟨m, rfl⟩ := Int.eq_ofNat_of_zero_le hc.1
        simp only [Int.toNat_natCast]
        exact hv m (by exact_mod_cast hc.2)
      · rw [if_neg (fun hh => hc ⟨hh.2.2.1, hh.2.2.2⟩), if_neg (fun hh => hc hh.2)]
    · rw [if_neg hi, if_neg (fun hh => hi hh.1)]
      unfold atA
      rw [if_neg (by omega)]
  have HAT := hide hat
  have HST := hide hin.store
  clear hat hin hlen hro
  generalize (if inA A i then roots.getD i.toNat 0 else -1) = r at HAT ⊢
  go_wp2_with fail
  refine storeAtC HST.out r c ?_; rintro e w1 rfl k1
  rw [HAT.out]
  go_wp2_with fail
  exact HR.out _ _ rfl k1

end Go.Proofs.Ytgpgbkoaopfjkaa

/- The walks of Run, To. -/
namespace Go.Proofs.Ytgpgbkoaopfjkaa
open Go.RowKit

attribute [local irreducible] wpPlanZ wpPlan wpUp

variable {R : Ending → World → Prop} {w : World} {A : Au} {B d : Nat}

/-- Where a word leads; -1: nowhere. -/
def runA (A : Au) (l : List Int) : Int := l.foldl (stepA A) 0

theorem step_none (A : Au) {s : Int} (h : s < 0) (c : Int) : stepA A s c = -1 := by
  unfold stepA
  rw [if_neg]
  rintro ⟨h1, _⟩
  simp [inA] at h1
  omega

theorem run_none (A : Au) {s : Int} (h : s < 0) : ∀ l : List Int, l ≠ [] → l.foldl (stepA A) s = -1
  | [], h0 => absurd rfl h0
  | c :: l, _ => by
    rw [List.foldl_cons, step_none A h]
    by_cases hl : l = []
    · subst hl; rfl
    · exact run_none A (by decide) l hl

theorem step_in (h : AuOk A) {s c : Int} (hc : inA A s = true ∧ 0 ≤ c ∧ c < 2 ^ A.T.toNat) : inA A (stepA A s c) = true := by
  unfold stepA
  rw [if_pos hc]
  have hi2 : 0 ≤ s ∧ s < (A.acc.length : Int) := by simpa [inA] using hc.1
  obtain ⟨k, rfl⟩ := Int.eq_ofNat_of_zero_le hi2.1
  obtain ⟨m, rfl⟩ := Int.eq_ofNat_of_zero_le hc.2.1
  have hkn : k < A.next.length := by rw [h.1.2.2.2.2]; omega
  have hr := h.2 _ (List.getElem_mem hkn)
  have hm : m < (A.next[k]).length := by rw [hr.1]; exact_mod_cast hc.2.2
  have := hr.2 _ (List.getElem_mem hm)
  simp only [Int.toNat_natCast, List.getD, List.getElem?_eq_getElem hkn, Option.getD_some, List.getElem?_eq_getElem hm]
  simp [inA]; omega

theorem step_neg (h : AuOk A) {s c : Int} (hn : stepA A s c < 0) : stepA A s c = -1 := by
  by_cases hc : inA A s = true ∧ 0 ≤ c ∧ c < 2 ^ A.T.toNat
  · have := step_in h hc
    simp [inA] at this
    omega
  · unfold stepA; rw [if_neg hc]

theorem step_pos (h : AuOk A) {s c : Int} (hn : 0 ≤ stepA A s c) : inA A (stepA A s c) = true := by
  by_cases hc : inA A s = true ∧ 0 ≤ c ∧ c < 2 ^ A.T.toNat
  · exact step_in h hc
  · unfold stepA at hn; rw [if_neg hc] at hn; omega

/-- Where a walk stops, it has stopped. -/
theorem run_stop (ha : AuOk A) {l : List Int} {k : Nat} (hk : k < l.length) (h : stepA A (runA A (l.take k)) l[k] < 0) : runA A l = -1 := by
  have e : l = (l.take k ++ [l[k]]) ++ l.drop (k + 1) := by
    rw [← List.take_succ_eq_append_getElem hk, List.take_append_drop]
  have h2 : runA A (l.take k ++ [l[k]]) = stepA A (runA A (l.take k)) l[k] := by
    unfold runA; rw [List.foldl_append]; rfl
  have h3 : runA A l = (l.drop (k + 1)).foldl (stepA A) (runA A (l.take k ++ [l[k]])) := by
    conv => lhs; rw [e]
    unfold runA; rw [List.foldl_append]
  rw [h3, h2]
  by_cases hd : l.drop (k + 1) = []
  · rw [hd, List.foldl_nil]; exact step_neg ha h
  · exact run_none A h _ hd

theorem run_snoc {l : List Int} {k : Nat} (hk : k < l.length) : runA A (l.take (k + 1)) = stepA A (runA A (l.take k)) l[k] := by
  rw [List.take_succ_eq_append_getElem hk]
  unfold runA; rw [List.foldl_append]; rfl

theorem acc_none : accA A (-1) = false := by simp [accA, inA]

set_option maxHeartbeats 1000000 in
theorem dfaRun {v : Value} {l : List Int} (h : DFAAt w B d A) (hv : IntsAt w v l) (hR : ∀ e w', e = .returned (.tuple #[.int .i64 (runA A l), .bool (accA A (runA A l))]) → Same w w' → R e w') :
    Calls Try.prog 16 #[.pointer (some ⟨d, 0, none⟩), v] w R := by
  have HR := hide hR
  clear hR
  have H := hide h
  have HOK := hide h.ok
  have h1n : 0 < A.acc.length := h.ok.1.2.2.1
  obtain ⟨va, vc, rfl, hc1, hc2, hcell⟩ := hv.open
  have HC := hide hcell
  unfold maxLen at hc2
  obtain ⟨aa, ra, ac, rc, s, L, roots, c0, _, _, hb, _⟩ := h.open
  have C0 := hide c0
  obtain ⟨aa', ac', e1, hd1, hd2, hacell⟩ := hb.open
  simp only [Value.slice.injEq] at e1
  obtain ⟨rfl, _, rfl⟩ := e1
  have HA := hide hacell
  unfold maxLen at hd2
  clear h hcell hv c0 hb hacell
  go_enter Try.func16, Try.ntmps16
  go_wp2_with fail
  go_loopw [4, 12] (fun u i wr => ∃ k : Nat, i = .int .i64 k ∧ k ≤ l.length ∧ u = .int .i64 (runA A (l.take k)) ∧ Hid (inA A (runA A (l.take k)) = true) ∧ Same w wr) (fun _ i _ => l.length - (intOf i).toNat)
  case atStart => exact ⟨0, rfl, Nat.zero_le _, rfl, hide (by simp [runA, inA]; omega), Keeps.refl _ _⟩
  case round =>
    obtain ⟨k, rfl, hk, rfl, hin, hK⟩ := hrel
    by_cases hlt : k < l.length
    · obtain ⟨bl, off, rfl, hbl, hcl⟩ := HC.out k hlt
      have hck := Keeps.cell hK (hcl k hlt) trivial
      have HSN := hide (run_snoc (A := A) hlt)
      have HSP := hide (fun hh => run_stop HOK.out hlt hh)
      generalize l[k] = c at hck HSN HSP
      generalize runA A (l.take k) = st at hin HSN HSP ⊢
      clear hcl
      go_wp2_with fail
      refine dfaStep (H.out.same hK) st c ?_; rintro e w1 rfl k1
      have HNX := hide (fun hh => step_pos HOK.out (s := st) (c := c) hh)
      generalize stepA A st c = nx at HSN HSP HNX ⊢
      have HK1 := hide (hK.tr k1)
      clear hK k1 hck
      by_cases hn : nx < 0
      · have HE := hide (HSP.out hn)
        have HR2 := hide (show ∀ e w', e = .returned (.tuple #[.int .i64 (-1), .bool false]) → Same w w' → R e w' from fun e w' he hk => HR.out e w' (by rw [HE.out, acc_none]; exact he) hk)
        go_wp2_with fail
        exact HR2.out _ _ rfl HK1.out
      · have HN := hide (HNX.out (by omega))
        go_wp2_with fail
        go_roundw
        case rel => exact ⟨k + 1, by go_num, by omega, by rw [HSN.out], hide (by rw [HSN.out]; exact HN.out), HK1.out⟩
        case measure => simp [intOf]; omega
    · obtain rfl : k = l.length := by omega
      rw [List.take_length] at hin ⊢
      have hi2 : 0 ≤ runA A l ∧ runA A l < (A.acc.length : Int) := by simpa [inA] using hin.out
      have HAE := hide (show accA A (runA A l) = A.acc.getD (runA A l).toNat false by simp [accA, hin.out])
      have c0 := Keeps.cell hK C0.out trivial
      generalize runA A l = st at HR hi2 HAE ⊢
      obtain ⟨m, rfl⟩ := Int.eq_ofNat_of_zero_le hi2.1
      have hml : m < A.acc.length := by omega
      obtain ⟨b2, o2, rfl, _, hcl2⟩ := HA.out m hml
      have hak := Keeps.cell hK (hcl2 m hml) trivial
      have HE : Hid (accA A (m : Int) = A.acc[m]) := hide (by rw [HAE.out, Int.toNat_natCast]; simp [List.getD, List.getElem?_eq_getElem hml])
      generalize A.acc[m] = bb at hak HE
      clear hcl2 hi2
      go_wp2_with fail
      go_quiet (fail)
      go_wp2_with fail
      exact HR.out _ _ (by rw [HE.out]; rfl) (hK.drewN _)

end Go.Proofs.Ytgpgbkoaopfjkaa

/- The walks of sibyllaw19.may, of, one, known, sibylref19.Run. -/
namespace Go.Proofs.Ytgpgbkoaopfjkaa
open Go.RowKit

variable {R : Ending → World → Prop} {w : World} {A : Au}

/-- A struct in a cell row of its own. -/
theorem AutoAt.box {v : Value} (h : AutoAt w v A) : ∃ va vn, v = .agg #[.int .i64 A.T, va, vn] ∧ va.oneCell' = true ∧ vn.oneCell' = true := by
  obtain ⟨va, vn, e, h1, h2, h3⟩ := h
  obtain ⟨a, c, e1, _⟩ := h1.open
  obtain ⟨a2, c2, e2, _⟩ := h2.open
  exact ⟨va, vn, e, by rw [e1]; rfl, by rw [e2]; rfl⟩

def mayB (A : Au) : Bool := decide (A.acc.length ≤ 40 ∧ A.next.length ≤ 40 ∧ AuOk A)

/-- No automaton at all. -/
def noAu : Au := ⟨0, [], []⟩
theorem noAu_at (w : World) : AutoAt w (.agg #[.int .i64 0, .slice none 0 0, .slice none 0 0]) noAu :=
  ⟨_, _, rfl, ⟨none, 0, rfl, Nat.le_refl _, Nat.zero_le _, .inl rfl⟩, ⟨[], ⟨none, 0, rfl, Nat.le_refl _, Nat.zero_le _, .inl rfl⟩, rfl, by simp⟩, by simp [noAu, InI64]⟩
theorem noAu_not : ¬ AuOk noAu := fun h => by have := h.1.2.2.1; simp [noAu] at this

/-- One state, that accepts. -/
def oneAu : Au := ⟨0, [true], [[0]]⟩
theorem oneAu_ok : AuOk oneAu := by decide

end Go.Proofs.Ytgpgbkoaopfjkaa

/- The walk of sibylref19.Run. -/
namespace Go.Proofs.Ytgpgbkoaopfjkaa
open Go.RowKit

variable {R : Ending → World → Prop} {w : World}

/-- '1 << uint(T)', as a drawn region leaves it. -/
theorem shl_u64 {T : Nat} (h6 : T ≤ 6) : IntKind.i64.wrap (2 ^ min (IntKind.u64.wrap (T : Int)).toNat 64) = ((2 ^ T : Nat) : Int) := by
  have : T = 0 ∨ T = 1 ∨ T = 2 ∨ T = 3 ∨ T = 4 ∨ T = 5 ∨ T = 6 := by omega
  rcases this with rfl | rfl | rfl | rfl | rfl | rfl | rfl <;> decide

end Go.Proofs.Ytgpgbkoaopfjkaa

/- The walk of sibylref19.Same, over two automata that are one. -/
namespace Go.Proofs.Ytgpgbkoaopfjkaa
open Go.RowKit

attribute [local irreducible] wpQuiet

variable {R : Ending → World → Prop} {w : World} {A : Au}

set_option maxRecDepth 10000 in
set_option maxHeartbeats 4000000 in
theorem refSameA {v u : Value} (hA : AutoAt w v A) (hB : AutoAt w u A) (hR : ∀ e w', e = .returned (.bool true) → Same w w' → R e w') :
    Calls Try.prog 12 #[v, u] w R := by
  have HR := hide hR
  clear hR
  obtain ⟨va, vn, rfl, hacc, hnext, hT⟩ := hA
  obtain ⟨ua, un, rfl, hacc2, hnext2, _⟩ := hB
  obtain ⟨aa, ac, rfl, hc1, hc2, hacell⟩ := hacc.open
  obtain ⟨na, nc, rfl, hd1, hd2, hcell⟩ := hnext.open
  obtain ⟨ba, bc, rfl, he1, he2, hbcell⟩ := hacc2.open
  obtain ⟨ma, mc, rfl, hf1, hf2, hmcell⟩ := hnext2.open
  unfold maxLen at hc2 hd2 he2 hf2
  have HAC := hide hacell
  have HBC := hide hbcell
  have HC := hide hcell
  have HM := hide hmcell
  have h1 := heap_new w (.cells #[.int .i64 A.T, .slice aa A.acc.length ac, .slice na A.next.length nc] 33)
  have e1 : (w.alloc (.cells #[.int .i64 A.T, .slice aa A.acc.length ac, .slice na A.next.length nc] 33)).heap.size = w.heap.size + 1 := by simp
  have k1 : Same w (w.alloc (.cells #[.int .i64 A.T, .slice aa A.acc.length ac, .slice na A.next.length nc] 33)) := (Keeps.refl _ w).alloc _
  have h2 := heap_new (w.alloc (.cells #[.int .i64 A.T, .slice aa A.acc.length ac, .slice na A.next.length nc] 33)) (.cells #[.int .i64 A.T, .slice ba A.acc.length bc, .slice ma A.next.length mc] 33)
  rw [e1] at h2
  have h3 := heap_old h1 (.cells #[.int .i64 A.T, .slice ba A.acc.length bc, .slice ma A.next.length mc] 33)
  have k2 := k1.alloc (.cells #[.int .i64 A.T, .slice ba A.acc.length bc, .slice ma A.next.length mc] 33)
  have c0 := cell_at h3 0
  have c1 := cell_at h3 1
  have c2 := cell_at h3 2
  have d0 := cell_at h2 0
  have d1 := cell_at h2 1
  have d2 := cell_at h2 2
  simp only [List.getElem?_toArray, List.getElem?_cons_zero, List.getElem?_cons_succ] at c0 c1 c2 d0 d1 d2
  clear hacc hnext hT hacc2 hnext2 hacell hcell hbcell hmcell h1 e1 k1 h2 h3
  go_enter Try.func12, Try.ntmps12
  go_wp2_with fail
  generalize (w.alloc (.cells #[.int .i64 A.T, .slice aa A.acc.length ac, .slice na A.next.length nc] 33)).alloc (.cells #[.int .i64 A.T, .slice ba A.acc.length bc, .slice ma A.next.length mc] 33) = w1 at c0 c1 c2 d0 d1 d2 k2 ⊢
  have C1 := hide c1
  have C2 := hide c2
  have D1 := hide d1
  have D2 := hide d2
  have HK := hide k2
  clear c0 c1 c2 d0 d1 d2 k2
  go_loopw [5] (fun i wr => ∃ k : Nat, i = .int .i64 k ∧ k ≤ A.acc.length ∧ Same w1 wr) (fun i _ => A.acc.length - (intOf i).toNat)
  case atStart => exact ⟨0, rfl, Nat.zero_le _, Keeps.refl _ _⟩
  case round =>
    obtain ⟨k, rfl, hk, hK⟩ := hrel
    have c1 := Keeps.cell hK C1.out trivial
    have d1 := Keeps.cell hK D1.out trivial
    by_cases hlt : k < A.acc.length
    · obtain ⟨xa, xo, rfl, _, hx⟩ := HAC.out k hlt
      obtain ⟨ya, yo, rfl, _, hy⟩ := HBC.out k hlt
      have p1 := Keeps.cell (HK.out.tr hK) (hx k hlt) trivial
      have p2 := Keeps.cell (HK.out.tr hK) (hy k hlt) trivial
      generalize A.acc[k] = b at p1 p2
      clear hx hy
      have HK2 := hide hK
      clear hK
      go_wp2_with fail
      refine wp_region_same (by kernel_rfl) (by kernel_rfl) ?_
      iterate 11
        (apply wpQuiet_step
         intro K hK
         first
           | (apply quiet_skip
              case hw => rfl
              go_simp
              refine hK _ ?_; clear hK K)
           | (apply quiet_do
              case hw => rfl
              case h =>
                intro w' hw'
                (have z1 := Keeps.cell hw' c1 trivial; have z2 := Keeps.cell hw' d1 trivial; have z3 := Keeps.cell hw' p1 trivial; have z4 := Keeps.cell hw' p2 trivial)
                go_simp
                first | exact rfl | (fail)
              go_simp
              refine hK _ ?_; clear hK K))
      apply wpQuiet_nil
      intro w2 k2
      have HK3 := hide (HK2.out.tr k2)
      clear k2 c1 d1 p1 p2
      go_wp2_with fail
      go_roundw
      case rel => exact ⟨k + 1, by go_num, by omega, HK3.out⟩
      case measure => simp [intOf]; omega
    · have HK2 := hide hK
      clear hK
      go_wp2_with fail
      go_loopw [6] (fun i wr => ∃ k : Nat, i = .int .i64 k ∧ k ≤ A.next.length ∧ Same w1 wr) (fun i _ => A.next.length - (intOf i).toNat)
      case atStart => exact ⟨0, rfl, Nat.zero_le _, HK2.out⟩
      case round =>
        clear c1 d1
        obtain ⟨m, rfl, hm, hK⟩ := hrel
        have c2 := Keeps.cell hK C2.out trivial
        have d2 := Keeps.cell hK D2.out trivial
        by_cases hlt2 : m < A.next.length
        · obtain ⟨xa, xo, rfl, _, hx⟩ := HC.out m hlt2
          obtain ⟨ya, yo, rfl, _, hy⟩ := HM.out m hlt2
          obtain ⟨u1, hu1, hi1⟩ := hx m hlt2
          obtain ⟨u2, hu2, hi2⟩ := hy m hlt2
          have p1 := Keeps.cell (HK.out.tr hK) hu1 trivial
          have p2 := Keeps.cell (HK.out.tr hK) hu2 trivial
          have I1 := hide (hi1.same (HK.out.tr hK))
          have I2 := hide (hi2.same (HK.out.tr hK))
          obtain ⟨sa1, sc1, rfl, _⟩ := hi1.open
          obtain ⟨sa2, sc2, rfl, _⟩ := hi2.open
          clear hx hy hu1 hu2 hi1 hi2
          generalize A.next[m] = row at p1 p2 I1 I2
          have HK2 := hide hK
          clear hK
          go_wp2_with fail
          refine wp_region_same (by kernel_rfl) (by kernel_rfl) ?_
          iterate 12
            (apply wpQuiet_step
             intro K hK
             first
               | (apply quiet_skip
                  case hw => rfl
                  go_simp
                  refine hK _ ?_; clear hK K)
               | (apply quiet_do
                  case hw => rfl
                  case h =>
                    intro w' hw'
                    (have z1 := Keeps.cell hw' c2 trivial; have z2 := Keeps.cell hw' d2 trivial; have z3 := Keeps.cell hw' p1 trivial; have z4 := Keeps.cell hw' p2 trivial)
                    go_simp
                    first | exact rfl | (exact sameInts (I1.out.same hw') (I2.out.same hw') (fun e w'' he hk => ⟨he, hw'.tr hk⟩))
                  go_simp
                  refine hK _ ?_; clear hK K))
          apply wpQuiet_nil
          intro w2 k2
          have HK3 := hide (HK2.out.tr k2)
          clear k2 c2 d2 p1 p2
          go_wp2_with fail
          go_roundw
          case rel => exact ⟨m + 1, by go_num, by omega, HK3.out⟩
          case measure => simp [intOf]; omega
        · go_wp2_with fail
          exact HR.out _ _ rfl (HK.out.tr hK)

end Go.Proofs.Ytgpgbkoaopfjkaa

/- The walk of AutoRuns. -/
namespace Go.Proofs.Ytgpgbkoaopfjkaa
open Go.RowKit

variable {R : Ending → World → Prop} {w : World}

theorem mayB_ok {A : Au} (h : mayB A = true) : A.acc.length ≤ 40 ∧ A.next.length ≤ 40 ∧ AuOk A := by
  unfold mayB at h
  exact of_decide_eq_true h

end Go.Proofs.Ytgpgbkoaopfjkaa

/- The walk of AutoShared. -/
namespace Go.Proofs.Ytgpgbkoaopfjkaa
open Go.RowKit

attribute [local irreducible] wpQuiet

variable {R : Ending → World → Prop} {w : World} {T : Nat} {L : List Nd}

/-- Two states that go alike have one node. -/
theorem roots_iff {roots : List Int} {next : List (List Int)} (hw : WF T L) (hro : RootsOk T L roots next) (hl : ∀ l ∈ next, l.length = 2 ^ T) {i k : Nat} {a b : Int} {l m : List Int}
    (ha : roots[i]? = some a) (hb : roots[k]? = some b) (hli : next[i]? = some l) (hlk : next[k]? = some m) : a = b ↔ l = m := by
  obtain ⟨p, rfl, hp, hvp⟩ := hro.2 i a l ha hli
  obtain ⟨q, rfl, hq, hvq⟩ := hro.2 k b m hb hlk
  have l1 := hl l (List.mem_of_getElem? hli)
  have l2 := hl m (List.mem_of_getElem? hlk)
  constructor
  · intro e
    obtain rfl : p = q := by exact_mod_cast e
    refine row_ext (by omega) fun x hx => ?_
    rw [← hvp x (by omega), ← hvq x (by omega)]
  · rintro rfl
    rw [canon_row hw hp hq fun c hc => by rw [hvp c hc, hvq c hc]]

/-- The root of a state that there is. -/
theorem dfaRootN {A : Au} {B d s : Nat} {va vr : Value} {roots : List Int} (h : DFAAt w B d A) (hin : DfaIn w B d s va vr A.T.toNat A.acc L roots) (hlen : L.length ≤ 127 * A.acc.length) (hro : RootsOk A.T.toNat L roots A.next) {i : Nat} {r : Int} (hr : roots[i]? = some r)
    (hR : ∀ e, e = .returned (.int .i64 r) → R e w) : Calls Try.prog 68 #[.pointer (some ⟨d, 0, none⟩), .int .i64 i] w R := by
  refine dfaRoot h hin hlen hro i fun e he => hR e ?_
  have hi := (List.getElem?_eq_some_iff.1 hr).1
  rw [hro.1, h.ok.1.2.2.2.2] at hi
  rw [he, if_pos (by simp [inA, hi])]
  simp [List.getD, hr]

end Go.Proofs.Ytgpgbkoaopfjkaa

/- The walk of AutoSteps. -/
namespace Go.Proofs.Ytgpgbkoaopfjkaa
open Go.RowKit

attribute [local irreducible] wpQuiet wpPlan wpPlanZ wpUp

variable {R : Ending → World → Prop} {w : World} {T : Nat} {L : List Nd}

theorem dfaStoreN {B d s : Nat} {va vr : Value} {acc : List Bool} {roots : List Int} (hin : DfaIn w B d s va vr T acc L roots)
    (hR : ∀ e, e = .returned (.pointer (some ⟨s, 0, none⟩)) → R e w) : Calls Try.prog 62 #[.pointer (some ⟨d, 0, none⟩)] w R := by
  have HR := hide (hR _ rfl)
  clear hR
  have c2 := cell_at hin.blk 2
  simp only [List.getElem?_toArray, List.getElem?_cons_zero, List.getElem?_cons_succ] at c2
  clear hin
  go_enter Try.func62, Try.ntmps62
  go_wp2_with fail
  exact HR.out

/-- A state's row is what its node gives. -/
theorem rowA_root {next : List (List Int)} {roots : List Int} (hro : RootsOk T L roots next) (hl : ∀ l ∈ next, l.length = 2 ^ T) {i : Nat} {r : Int} {l : List Int} (hr : roots[i]? = some r) (hli : next[i]? = some l) : rowA T L r = l := by
  obtain ⟨p, rfl, hp, hvp⟩ := hro.2 i r l hr hli
  have l1 := hl l (List.mem_of_getElem? hli)
  unfold rowA
  rw [if_pos ⟨by omega, by omega⟩, Int.toNat_natCast]
  refine row_ext (by simp [l1]) fun x hx => ?_
  simp only [List.length_map, List.length_range] at hx
  rw [← hvp x hx]
  simp [List.getD, hx]

theorem step_out {A : Au} {s c : Int} (h : ¬ (0 ≤ s ∧ s < (A.acc.length : Int))) : stepA A s c = -1 := by
  unfold stepA
  rw [if_neg]
  rintro ⟨h1, _⟩
  exact h (by simpa [inA] using h1)

theorem step_off {A : Au} {s c : Int} (h : ¬ (0 ≤ c ∧ c < 2 ^ A.T.toNat)) : stepA A s c = -1 := by
  unfold stepA
  rw [if_neg (fun hh => h hh.2)]

end Go.Proofs.Ytgpgbkoaopfjkaa

/- The walk of DFA.To. -/
namespace Go.Proofs.Ytgpgbkoaopfjkaa
open Go.RowKit

attribute [local irreducible] wpQuiet wpPlan wpPlanZ wpUp

variable {R : Ending → World → Prop} {w : World} {A : Au} {B d : Nat}

theorem OwnMat.keepT {S : Nat → Prop} {w' : World} {v : Value} {rows : List (List Int)} (h : OwnMat w B v rows) (k : Keeps S w w') (hs : ∀ b cur e, w.heap[b]? = some (.cells cur e (0, 0)) → (e = 42 ∨ e = 3) → B ≤ b → S b) : OwnMat w' B v rows := by
  obtain ⟨vs, h1, h2, h3⟩ := h
  refine ⟨vs, ownsRow_keep h1 k fun b hb => ?_, h2, fun i u l hu hl => (h3 i u l hu hl).keep k fun b hb => ?_⟩
  · obtain ⟨hB, cur, hc⟩ := ownsRow_block h1 hb
    exact hs b cur _ hc (.inl rfl) hB
  · obtain ⟨hB, cur, hc⟩ := ownsRow_block (h3 i u l hu hl) hb
    exact hs b cur _ hc (.inr rfl) hB

/-- The value v is an automaton, its rows the call's own (from B on). -/
def OwnAuto (w : World) (B : Nat) (v : Value) (A : Au) : Prop := ∃ va vn, v = .agg #[.int .i64 A.T, va, vn] ∧ OwnBools w B va A.acc ∧ OwnMat w B vn A.next

theorem AuOk.bounds (h : AuOk A) : InI64 A.T ∧ ∀ l ∈ A.next, ∀ x ∈ l, InI64 x :=
  ⟨by have := h.1; unfold InI64; omega, fun l hl => (h.2 l hl).bounds h.1.2.2.2.1⟩

theorem OwnAuto.auto {v : Value} (h : OwnAuto w B v A) (hok : AuOk A) : AutoAt w v A := by
  obtain ⟨va, vn, e, h1, h2⟩ := h
  exact ⟨va, vn, e, h1.bools, h2.rows hok.bounds.2, hok.bounds.1⟩

theorem OwnAuto.same {w' : World} {v : Value} (h : OwnAuto w B v A) (k : Same w w') : OwnAuto w' B v A := by
  obtain ⟨va, vn, e, h1, h2⟩ := h
  exact ⟨va, vn, e, ownsRow_keep h1 k fun _ _ => trivial, h2.same k⟩

theorem OwnAuto.below {B' : Nat} {v : Value} (h : OwnAuto w B v A) (hB : B' ≤ B) : OwnAuto w B' v A := by
  obtain ⟨va, vn, e, h1, h2⟩ := h
  exact ⟨va, vn, e, ownsRow_below h1 hB, h2.below hB⟩

/-- On the way: the variable's block x, the rows so far; all of it from B on. -/
structure ToIn (w : World) (B x : Nat) (T : Int) (u vn : Value) (acc : List Bool) (rows : List (List Int)) : Prop where
  blk : w.heap[x]? = some (.cells #[.int .i64 T, u, vn] 33 (0, 0))
  low : B ≤ x
  acc : OwnBools w B u acc
  mat : OwnMat w B vn rows

variable {x : Nat} {T : Int} {u vn : Value} {acc : List Bool} {rows : List (List Int)}

theorem ToIn.same {w' : World} (h : ToIn w B x T u vn acc rows) (k : Same w w') : ToIn w' B x T u vn acc rows :=
  ⟨k.at h.blk trivial, h.low, ownsRow_keep h.acc k fun _ _ => trivial, h.mat.same k⟩

/-- A row more. -/
theorem ToIn.step {w' : World} {vn' : Value} {rows' : List (List Int)} (h : ToIn w B x T u vn acc rows) (k : Keeps (fun b => vn.ownBlock ≠ some b) w w') (hm : OwnMat w' B vn' rows') : ToIn (w'.setCell ⟨x, 2, none⟩ vn') B x T u vn' acc rows' := by
  have hx : vn.ownBlock ≠ some x := fun e => by
    obtain ⟨vs, h1, _⟩ := h.mat
    obtain ⟨_, cur, hc⟩ := ownsRow_block h1 e
    rw [h.blk] at hc
    simp at hc
  have hb := k.at h.blk hx
  have ks : Keeps (· ≠ x) w' (w'.setCell ⟨x, 2, none⟩ vn') := (Keeps.refl (· ≠ x) w').setCell (fun hh => hh.2 rfl) _
  have ha : OwnBools w' B u acc := ownsRow_keep h.acc k fun b hb e => by
    obtain ⟨vs, h1, _⟩ := h.mat
    obtain ⟨_, c1, h3⟩ := ownsRow_block h1 e
    obtain ⟨_, c2, h4⟩ := ownsRow_block h.acc hb
    rw [h3] at h4; simp at h4
  refine ⟨by rw [heap_setCell_at hb]; simp, h.low, ownsRow_keep ha ks fun b hb2 => ?_, hm.keepT ks fun b cur e hc he _ => ?_⟩
  · rintro rfl
    obtain ⟨_, c1, h1⟩ := ownsRow_block ha hb2
    rw [hb] at h1; simp at h1
  · rintro rfl
    rw [hb] at hc
    simp only [Option.some.injEq, Obj.cells.injEq] at hc
    obtain ⟨_, rfl, _⟩ := hc
    rcases he with he | he <;> exact absurd he (by decide)

theorem roots_bounds {T : Nat} {L : List Nd} {roots : List Int} {next : List (List Int)} (hro : RootsOk T L roots next) (hl : L.length ≤ 1000000) : ∀ x ∈ roots, InI64 x := fun x hx => by
  obtain ⟨i, hi⟩ := List.getElem?_of_mem hx
  have hlt := (List.getElem?_eq_some_iff.1 hi).1
  rw [hro.1] at hlt
  obtain ⟨k, rfl, hk, _⟩ := hro.2 i x _ hi (List.getElem?_eq_getElem hlt)
  unfold InI64; omega

/-- A struct of three cells, stored. -/
theorem set3 {x : Nat} {a b c t0 t1 t2 : Value} {ty : TypeId} (h : w.heap[x]? = some (.cells #[t0, t1, t2] ty (0, 0))) :
    (((w.setCell ⟨x, 0, none⟩ a).setCell ⟨x, 1, none⟩ b).setCell ⟨x, 2, none⟩ c).heap[x]? = some (.cells #[a, b, c] ty (0, 0)) ∧ Keeps (· ≠ x) w (((w.setCell ⟨x, 0, none⟩ a).setCell ⟨x, 1, none⟩ b).setCell ⟨x, 2, none⟩ c) := by
  refine ⟨?_, (((Keeps.refl (· ≠ x) w).setCell (fun hh => hh.2 rfl) _).setCell (fun hh => hh.2 rfl) _).setCell (fun hh => hh.2 rfl) _⟩
  rw [heap_setCell_at (heap_setCell_at (heap_setCell_at h 0 a) 1 b) 2 c]
  rfl

/-- The variable's block, stored whole. -/
theorem ToIn.store {t0 t1 t2 : Value} (h : w.heap[x]? = some (.cells #[t0, t1, t2] 33 (0, 0))) (hx : B ≤ x) (hu : OwnBools w B u acc) :
    ToIn (((w.setCell ⟨x, 0, none⟩ (.int .i64 T)).setCell ⟨x, 1, none⟩ u).setCell ⟨x, 2, none⟩ (.slice none 0 0)) B x T u (.slice none 0 0) acc [] := by
  obtain ⟨h1, h2⟩ := set3 (a := .int .i64 T) (b := u) (c := .slice none 0 0) h
  refine ⟨h1, hx, ownsRow_keep hu h2 fun b hb => ?_, OwnMat.nil _ _⟩
  rintro rfl
  obtain ⟨_, c1, h3⟩ := ownsRow_block hu hb
  rw [h] at h3; simp at h3

set_option maxRecDepth 10000 in
set_option maxHeartbeats 4000000 in
theorem dfaTo (h : DFAAt w B d A) (hR : ∀ e w' v, e = .returned v → OwnAuto w' w.heap.size v A → Same w w' → R e w') :
    Calls Try.prog 13 #[.pointer (some ⟨d, 0, none⟩)] w R := by
  have HR := hide hR
  clear hR
  have hok := h.ok
  have H := hide h
  have HOK := hide hok
  obtain ⟨dva, dvr, s, L, roots, hin, hLl, hro⟩ := h.st
  obtain ⟨aa, ac, rfl⟩ := ownsRow_shape hin.acc
  obtain ⟨ra, rc, rfl⟩ := ownsRow_shape hin.roots
  have d0 := cell_at hin.blk 0
  have d1 := cell_at hin.blk 1
  have d2 := cell_at hin.blk 2
  simp only [List.getElem?_toArray, List.getElem?_cons_zero, List.getElem?_cons_succ] at d0 d1 d2
  have HAB := hide hin.acc.bools
  have HIN := hide hin
  have HRO := hide hro
  obtain ⟨_, _, eqr, hr1, hr2, hrcell⟩ := (hin.roots.ints (roots_bounds hro (by have := hok.1.2.2.2.1; omega))).open
  simp only [Value.slice.injEq] at eqr
  obtain ⟨rfl, _, rfl⟩ := eqr
  unfold maxLen at hr2
  have HRC := hide hrcell
  have HROW := hide (fun (i : Nat) (r : Int) (l : List Int) => rowA_root (i := i) (r := r) (l := l) hro (fun l hl => (hok.2 l hl).1))
  have HNL : Hid (A.next.length = roots.length) := hide hro.1.symm
  clear hrcell
  have H14 := hide (And.intro hok.1.2.2.1 hok.1.2.2.2.1)
  have hkr : Same w (w.alloc (.cells #[.int .i64 0, .slice none 0 0, .slice none 0 0] 33)) := (Keeps.refl _ w).alloc _
  have hbr := heap_new w (.cells #[.int .i64 0, .slice none 0 0, .slice none 0 0] 33)
  have D0 := hide d0
  have D1 := hide d1
  have D2 := hide d2
  clear h hok hin hLl hro d0 d1 d2
  go_enter Try.func13, Try.ntmps13
  go_wp2_with fail
  generalize w.alloc (.cells #[.int .i64 0, .slice none 0 0, .slice none 0 0] 33) = w1 at hkr hbr ⊢
  have HKR := hide hkr
  have HBR := hide hbr
  obtain ⟨W0, hW0⟩ : ∃ W0, W0 = w1.heap.size := ⟨_, rfl⟩
  have HW0 := hide hW0
  clear hkr hbr hW0
  refine wp_region_planz 9 (.take 0 (.take 2 (.take 3 (.take 4 (.take 5 (.two 1 8 (.two 6 8 (.take 7 (.one 8 .last)) (.one 6 (.take 7 .last))) (.one 1 (.one 6 (.take 7 .last))))))))) (Same w1) (by kernel_rfl) (by kernel_rfl) (Keeps.drew (Keeps.refl (fun _ => True) w1)) ?_
  iterate 5
    (first
       | (apply pz_pass
          case ho => rfl
          case hw => rfl
          go_simp)
       | (apply pz_take
          case ho => rfl
          case hw => rfl
          case hv =>
            intro w' hS
            (have q0 := Keeps.cell (HKR.out.tr hS) D0.out trivial)
            go_simp
            exact rfl
          go_simp))
  rename_i K0 hK0
  have CONT : ∀ (x : Nat) (ub : Option Addr) (uc : Nat) (wx : World), ToIn wx W0 x A.T (.slice ub A.acc.length uc) (.slice none 0 0) A.acc [] → Same w1 wx →
      K0 { tmps := #[.pointer (some ⟨d, 0, none⟩), undef, .pointer (some ⟨w.heap.size, 0, none⟩), .pointer (some ⟨x, 0, none⟩), undef, undef, .pointer (some ⟨d, 0, none⟩), .bool false, undef, .pointer (some ⟨d, 0, none⟩), .int .i64 A.T,
        .pointer (some ⟨d, 0, none⟩), .pointer (some ⟨d, 0, none⟩), .pointer (some ⟨d, 0, none⟩), .slice aa A.acc.length ac, .slice ub A.acc.length uc, .agg #[.int .i64 A.T, .slice ub A.acc.length uc, .slice none 0 0],
        undef, undef, undef, undef, undef, undef, undef, undef, undef, undef, undef, undef, undef, undef, undef, undef, undef, undef, undef, undef, undef, undef], defers := [] } wx := by
    intro x ub uc wx hto hkx
    have e1 := Keeps.cell (HKR.out.tr hkx) D1.out trivial
    have HTO := hide hto
    have HKX := hide hkx
    clear hto hkx
    go_wp2_with fail
    go_loopw [22] (fun i wr => ∃ (k : Nat) (vn : Value), i = .int .i64 k ∧ k ≤ roots.length ∧ Hid (ToIn wr W0 x A.T (.slice ub A.acc.length uc) vn A.acc (A.next.take k)) ∧ Same w1 wr) (fun i _ => roots.length - (intOf i).toNat)
    case atStart => exact ⟨0, _, rfl, Nat.zero_le _, hide (by simpa using HTO.out), HKX.out⟩
    case round =>
      clear e1
      obtain ⟨k, vn, rfl, hk, hto, hK⟩ := hrel
      by_cases hlt : k < roots.length
      · obtain ⟨rb, roff, rfl, _, hrcl⟩ := HRC.out k hlt
        have p1 := Keeps.cell (HKR.out.tr hK) (hrcl k hlt) trivial
        have hkn : k < A.next.length := by rw [HNL.out]; exact hlt
        have HRA := hide (HROW.out k _ _ (List.getElem?_eq_getElem hlt) (List.getElem?_eq_getElem hkn))
        have HTK := hide (List.take_succ_eq_append_getElem hkn)
        have HRL : Hid ((A.next.take k).length + 1 ≤ 1000000) := hide (by have := H14.out.2; have := HOK.out.1.2.2.2.2; simp; omega)
        generalize roots[k] = r1 at p1 HRA
        generalize A.next[k] = row at HRA HTK
        generalize A.next.take k = rows at hto HTK HRL
        obtain ⟨ma, mc, rfl⟩ := hto.mat.shape
        have d2 := Keeps.cell (HKR.out.tr hK) D2.out trivial
        have HTO2 := hide hto
        have HKW := hide hK
        clear hrcl hto hK
        go_wp2_with fail
        refine wp_region_planz 11 (.take 0 (.take 1 (.take 2 (.take 3 (.take 4 (.take 5 (.take 6 (.one 7 (.one 8 (.one 9 (.take 10 .last))))))))))) (fun w' => w'.heap[x]? = some (.cells #[.int .i64 A.T, .slice ub A.acc.length uc, .slice ma rows.length mc] 33 (0, 0)) ∧ w'.cell? ⟨d, 2, none⟩ = some (.pointer (some ⟨s, 0, none⟩))) (by kernel_rfl) (by kernel_rfl) ⟨HTO2.out.blk, d2⟩ ?_
        iterate 7
          (first
             | (apply pz_pass
                case ho => rfl
                case hw => rfl
                go_simp)
             | (apply pz_take
                case ho => rfl
                case hw => rfl
                case hv =>
                  intro w' hS
                  (have q2 := cell_at hS.1 2; have q3 := hS.2; simp only [List.getElem?_toArray, List.getElem?_cons_zero, List.getElem?_cons_succ] at q2)
                  go_simp
                  exact rfl
                go_simp))
        have kd : Same wr wr.drew := Keeps.drew (Keeps.refl (fun _ => True) wr)
        have hBw : W0 ≤ wr.heap.size := by rw [HW0.out]; exact HKW.out.size
        refine pz_one (up_do rfl rfl fun K hK1 => ?_)
        go_simp
        refine storeRow (HIN.out.store.same ((HKR.out.tr HKW.out).tr kd)) r1 ?_; rintro e w3 u3 rfl o3 k3
        rw [HRA.out] at o3
        obtain ⟨sa, sc, rfl⟩ := o3.shape
        have kk := kd.tr k3
        have hto3 := HTO2.out.same kk
        have d3 := Keeps.cell kk d2 trivial
        refine hK1 _ _ _ ⟨hto3.blk, d3⟩ (fun _ h => h) ?_
        clear hK1 K
        refine pz_one (up_do rfl rfl fun K hK1 => ?_)
        go_simp
        refine hK1 _ _ _ ⟨heap_old hto3.blk _, cell_alloc d3 _⟩ (fun _ h => h) ?_
        clear hK1 K
        obtain ⟨g, cap, w5, hr, hmat5, hk5, hk5b, _, _⟩ := hto3.mat.push (Nat.le_trans hBw kk.size) (ownsRow_below o3 (Nat.le_trans hBw kd.size)) HRL.out
        have hmx : (Value.slice ma rows.length mc).ownBlock ≠ some x := fun e => by
          obtain ⟨vs, h1, _⟩ := hto3.mat
          obtain ⟨_, cur, hc⟩ := ownsRow_block h1 e
          rw [hto3.blk] at hc; simp at hc
        have hb5 := hk5.at hto3.blk hmx
        have d5 : w5.cell? ⟨d, 2, none⟩ = some (.pointer (some ⟨s, 0, none⟩)) := Keeps.cell (((HKR.out.tr HKW.out).tr kk).trans hk5b (S'' := fun _ => True) fun y hy _ => ⟨trivial, by rw [HW0.out]; exact Nat.lt_of_lt_of_le hy HKR.out.size⟩) D2.out trivial
        refine pz_one (up_append _ _ _ rfl rfl rfl ?hs ?hx hr _ ⟨hb5, d5⟩ (fun _ h => h) ?_)
        case hs => rfl
        case hx => rfl
        clear hr
        go_simp
        iterate 1
          (first
             | (apply pz_pass
                case ho => rfl
                case hw => rfl
                go_simp)
             | (apply pz_take
                case ho => rfl
                case hw => rfl
                case hv =>
                  intro w' hS
                  (skip)
                  go_simp
                  exact rfl
                go_simp))
        have z1 := cell_at hb5 2
        have z2 := free_at hb5 2
        simp only [List.getElem?_toArray, List.getElem?_cons_zero, List.getElem?_cons_succ] at z1
        have hto6 := hto3.step hk5 hmat5
        have hK6 : Same w1 (w5.setCell ⟨x, 2, none⟩ (.slice (some ⟨g, 0, none⟩) (rows.length + 1) cap)) := by
          refine ((HKW.out.tr kk).trans hk5 fun y hy _ => ⟨trivial, fun e => ?_⟩).setCell (fun hh => ?_) _
          · obtain ⟨vs, h1, _⟩ := hto3.mat
            have := (ownsRow_block h1 e).1
            rw [HW0.out] at this; omega
          · have h1 := hto3.low
            have h2 : x < w1.heap.size := hh.1
            rw [HW0.out] at h1; omega
        have HF := hide (And.intro hto6 hK6)
        clear hto6 hK6 hto3 d3 kk kd o3 k3 hmat5 hk5 hk5b hmx d5 d2
        refine pz_last rfl rfl fun K hK => ?_
        go_simp
        refine hK _ _ (np_normal ?_)
        clear hK K z1 z2 hb5
        go_wp2_with fail
        go_roundw
        case rel => exact ⟨k + 1, _, by go_num, by omega, hide (by rw [HTK.out]; exact HF.out.1), HF.out.2⟩
        case measure => simp [intOf]; omega
      · obtain rfl : k = roots.length := by omega
        have hto2 := hto.out
        rw [List.take_of_length_le (by rw [HNL.out]; exact Nat.le_refl _)] at hto2
        obtain ⟨ma, mc, rfl⟩ := hto2.mat.shape
        have x0 := cell_at hto2.blk 0
        have x1 := cell_at hto2.blk 1
        have x2 := cell_at hto2.blk 2
        have hbr := hK.at HBR.out trivial
        have r0 := cell_at hbr 0
        have r1 := cell_at hbr 1
        have r2 := cell_at hbr 2
        simp only [List.getElem?_toArray, List.getElem?_cons_zero, List.getElem?_cons_succ] at x0 x1 x2 r0 r1 r2
        have f0 := free_at hbr 0
        have f1 := free_at hbr 1
        have f2 := free_at hbr 2
        clear hto
        go_wp2_with fail
        have h3 := set3 (a := .int .i64 A.T) (b := .slice ub A.acc.length uc) (c := .slice ma A.next.length mc) hbr
        have hob := ownsRow_keep hto2.acc h3.2 fun b hb => by
          rintro rfl
          obtain ⟨_, c1, h4⟩ := ownsRow_block hto2.acc hb
          rw [hbr] at h4; simp at h4
        have hom := hto2.mat.keepT h3.2 fun b cur e hc he _ => by
          rintro rfl
          rw [hbr] at hc
          simp only [Option.some.injEq, Obj.cells.injEq] at hc
          obtain ⟨_, rfl, _⟩ := hc
          rcases he with he | he <;> exact absurd he (by decide)
        have hkf : Same w (((wr.setCell ⟨w.heap.size, 0, none⟩ (.int .i64 A.T)).setCell ⟨w.heap.size, 1, none⟩ (.slice ub A.acc.length uc)).setCell ⟨w.heap.size, 2, none⟩ (.slice ma A.next.length mc)) :=
          (((HKR.out.tr hK).setCell (fun hh => Nat.lt_irrefl _ hh.1) _).setCell (fun hh => Nat.lt_irrefl _ hh.1) _).setCell (fun hh => Nat.lt_irrefl _ hh.1) _
        have hfin : OwnAuto (((wr.setCell ⟨w.heap.size, 0, none⟩ (.int .i64 A.T)).setCell ⟨w.heap.size, 1, none⟩ (.slice ub A.acc.length uc)).setCell ⟨w.heap.size, 2, none⟩ (.slice ma A.next.length mc)) w.heap.size (.agg #[.int .i64 A.T, .slice ub A.acc.length uc, .slice ma A.next.length mc]) A :=
          ⟨_, _, rfl, ownsRow_below hob (by rw [HW0.out]; exact HKR.out.size), hom.below (by rw [HW0.out]; exact HKR.out.size)⟩
        have hb3 := h3.1
        generalize ((wr.setCell ⟨w.heap.size, 0, none⟩ (.int .i64 A.T)).setCell ⟨w.heap.size, 1, none⟩ (.slice ub A.acc.length uc)).setCell ⟨w.heap.size, 2, none⟩ (.slice ma A.next.length mc) = wf at hb3 hkf hfin ⊢
        have y0 := cell_at hb3 0
        have y1 := cell_at hb3 1
        have y2 := cell_at hb3 2
        simp only [List.getElem?_toArray, List.getElem?_cons_zero, List.getElem?_cons_succ] at y0 y1 y2
        refine bodyPost_ret (v := .agg #[.int .i64 A.T, .slice ub A.acc.length uc, .slice ma A.next.length mc]) (by simp [results, Try.results13, go_sem, y0, y1, y2]) rfl ?_
        exact HR.out _ _ _ rfl hfin hkf
  have CONT := hide CONT
  have kd : Same w1 w1.drew := Keeps.drew (Keeps.refl (fun _ => True) w1)
  have HD := hide (H.out.same (HKR.out.tr kd))
  have HAB1 := hide (HAB.out.same (HKR.out.tr kd))
  have hB1 : W0 ≤ w1.heap.size := by rw [HW0.out]; exact Nat.le_refl _
  refine pz_two ?_ ?_
  · refine up_do rfl rfl fun K hK1 => ?_
    go_simp
    refine dfaTracks HD.out ?_; rintro e rfl
    refine hK1 (Same w1) _ _ kd (fun _ h => h) ?_
    clear hK1 K
    refine pz_two ?_ ?_
    · refine up_do rfl rfl fun K hK1 => ?_
      go_simp
      refine cloneBools HAB1.out H14.out.1 (by have := H14.out.2; omega) ?_; rintro e w2 u2 rfl o2 k2
      obtain ⟨ub, uc, rfl⟩ := ownsRow_shape o2
      refine hK1 (Same w1) _ _ (kd.tr k2) (fun _ h => h) ?_
      clear hK1 K
      iterate 1
        (first
           | (apply pz_pass
              case ho => rfl
              case hw => rfl
              go_simp)
           | (apply pz_take
              case ho => rfl
              case hw => rfl
              case hv =>
                intro w' hS
                (skip)
                go_simp
                exact rfl
              go_simp))
      refine pz_one (up_do rfl rfl fun K hK1 => ?_)
      go_simp
      refine hK1 (Same w1) _ _ ((kd.tr k2).alloc _) (fun _ h => h) ?_
      clear hK1 K
      refine pz_last rfl rfl fun K hK => ?_
      go_simp
      have hto : ToIn (w2.alloc (.cells #[.int .i64 A.T, .slice ub A.acc.length uc, .slice none 0 0] 33)) W0 w2.heap.size A.T (.slice ub A.acc.length uc) (.slice none 0 0) A.acc [] :=
        ⟨heap_new _ _, Nat.le_trans hB1 k2.size, ownsRow_below (ownsRow_keep o2 ((Keeps.refl (fun _ => True) w2).alloc _) fun _ _ => trivial) hB1, OwnMat.nil _ _⟩
      exact hK _ _ (np_normal (CONT.out _ ub uc _ hto ((kd.tr k2).alloc _)))
    · refine up_do rfl rfl fun K hK1 => ?_
      go_simp
      have hx : (w1.drew.alloc (.cells #[.int .i64 0, .slice none 0 0, .slice none 0 0] 33)).heap[w1.heap.size]? = some (.cells #[.int .i64 0, .slice none 0 0, .slice none 0 0] 33 (0, 0)) := heap_new w1.drew _
      have kx := kd.alloc (.cells #[.int .i64 0, .slice none 0 0, .slice none 0 0] 33)
      refine hK1 (fun w' => Same w1 w' ∧ w'.heap[w1.heap.size]? = some (.cells #[.int .i64 0, .slice none 0 0, .slice none 0 0] 33 (0, 0))) _ _ ⟨kx, hx⟩ (fun _ h => h.1) ?_
      clear hK1 K
      refine pz_one (up_do rfl rfl fun K hK1 => ?_)
      go_simp
      refine cloneBools (HAB.out.same (HKR.out.tr kx)) H14.out.1 (by have := H14.out.2; omega) ?_; rintro e w2 u2 rfl o2 k2
      obtain ⟨ub, uc, rfl⟩ := ownsRow_shape o2
      have hx2 := k2.at hx trivial
      refine hK1 _ _ _ ⟨kx.tr k2, hx2⟩ (fun _ h => h) ?_
      clear hK1 K
      iterate 1
        (first
           | (apply pz_pass
              case ho => rfl
              case hw => rfl
              go_simp)
           | (apply pz_take
              case ho => rfl
              case hw => rfl
              case hv =>
                intro w' hS
                (skip)
                go_simp
                exact rfl
              go_simp))
      have z0 := cell_at hx2 0
      have z1 := cell_at hx2 1
      have z2 := cell_at hx2 2
      simp only [List.getElem?_toArray, List.getElem?_cons_zero, List.getElem?_cons_succ] at z0 z1 z2
      have f0 := free_at hx2 0
      have f1 := free_at hx2 1
      have f2 := free_at hx2 2
      refine pz_last rfl rfl fun K hK => ?_
      go_simp
      have hto : ToIn (((w2.setCell ⟨w1.heap.size, 0, none⟩ (.int .i64 A.T)).setCell ⟨w1.heap.size, 1, none⟩ (.slice ub A.acc.length uc)).setCell ⟨w1.heap.size, 2, none⟩ (.slice none 0 0)) W0 w1.heap.size A.T (.slice ub A.acc.length uc) (.slice none 0 0) A.acc [] :=
        ToIn.store hx2 hB1 (ownsRow_below o2 (Nat.le_trans hB1 kx.size))
      have hkx : Same w1 (((w2.setCell ⟨w1.heap.size, 0, none⟩ (.int .i64 A.T)).setCell ⟨w1.heap.size, 1, none⟩ (.slice ub A.acc.length uc)).setCell ⟨w1.heap.size, 2, none⟩ (.slice none 0 0)) :=
        (((kx.tr k2).setCell (fun hh => Nat.lt_irrefl _ hh.1) _).setCell (fun hh => Nat.lt_irrefl _ hh.1) _).setCell (fun hh => Nat.lt_irrefl _ hh.1) _
      exact hK _ _ (np_normal (CONT.out _ ub uc _ hto hkx))
  · refine up_do rfl rfl fun K hK1 => ?_
    go_simp
    have hx : (w1.drew.alloc (.cells #[.int .i64 0, .slice none 0 0, .slice none 0 0] 33)).heap[w1.heap.size]? = some (.cells #[.int .i64 0, .slice none 0 0, .slice none 0 0] 33 (0, 0)) := heap_new w1.drew _
    have kx := kd.alloc (.cells #[.int .i64 0, .slice none 0 0, .slice none 0 0] 33)
    refine hK1 (fun w' => Same w1 w' ∧ w'.heap[w1.heap.size]? = some (.cells #[.int .i64 0, .slice none 0 0, .slice none 0 0] 33 (0, 0))) _ _ ⟨kx, hx⟩ (fun _ h => h.1) ?_
    clear hK1 K
    refine pz_one (up_do rfl rfl fun K hK1 => ?_)
    go_simp
    refine dfaTracks (H.out.same (HKR.out.tr kx)) ?_; rintro e rfl
    refine hK1 _ _ _ ⟨kx, hx⟩ (fun _ h => h) ?_
    clear hK1 K
    refine pz_one (up_do rfl rfl fun K hK1 => ?_)
    go_simp
    refine cloneBools (HAB.out.same (HKR.out.tr kx)) H14.out.1 (by have := H14.out.2; omega) ?_; rintro e w2 u2 rfl o2 k2
    obtain ⟨ub, uc, rfl⟩ := ownsRow_shape o2
    have hx2 := k2.at hx trivial
    refine hK1 _ _ _ ⟨kx.tr k2, hx2⟩ (fun _ h => h) ?_
    clear hK1 K
    iterate 1
      (first
         | (apply pz_pass
            case ho => rfl
            case hw => rfl
            go_simp)
         | (apply pz_take
            case ho => rfl
            case hw => rfl
            case hv =>
              intro w' hS
              (skip)
              go_simp
              exact rfl
            go_simp))
    have z0 := cell_at hx2 0
    have z1 := cell_at hx2 1
    have z2 := cell_at hx2 2
    simp only [List.getElem?_toArray, List.getElem?_cons_zero, List.getElem?_cons_succ] at z0 z1 z2
    have f0 := free_at hx2 0
    have f1 := free_at hx2 1
    have f2 := free_at hx2 2
    refine pz_last rfl rfl fun K hK => ?_
    go_simp
    have hto : ToIn (((w2.setCell ⟨w1.heap.size, 0, none⟩ (.int .i64 A.T)).setCell ⟨w1.heap.size, 1, none⟩ (.slice ub A.acc.length uc)).setCell ⟨w1.heap.size, 2, none⟩ (.slice none 0 0)) W0 w1.heap.size A.T (.slice ub A.acc.length uc) (.slice none 0 0) A.acc [] :=
      ToIn.store hx2 hB1 (ownsRow_below o2 (Nat.le_trans hB1 kx.size))
    have hkx : Same w1 (((w2.setCell ⟨w1.heap.size, 0, none⟩ (.int .i64 A.T)).setCell ⟨w1.heap.size, 1, none⟩ (.slice ub A.acc.length uc)).setCell ⟨w1.heap.size, 2, none⟩ (.slice none 0 0)) :=
      (((kx.tr k2).setCell (fun hh => Nat.lt_irrefl _ hh.1) _).setCell (fun hh => Nat.lt_irrefl _ hh.1) _).setCell (fun hh => Nat.lt_irrefl _ hh.1) _
    exact hK _ _ (np_normal (CONT.out _ ub uc _ hto hkx))

end Go.Proofs.Ytgpgbkoaopfjkaa

/- Rows of ints in a block; the walk of track.turned. -/
namespace Go.Proofs.Ytgpgbkoaopfjkaa
open Go.RowKit

attribute [local irreducible] wpQuiet wpPlan wpPlanZ wpUp

variable {R : Ending → World → Prop} {w : World} {A : Au} {B d x : Nat} {T : Int} {u vn : Value} {acc : List Bool} {rows : List (List Int)}

/-- The block b holds the ints. -/
def RowIn (w : World) (b : Nat) (l : List Int) : Prop := w.heap[b]? = some (.cells (l.map (Value.int .i64)).toArray 3 (0, 0))

theorem RowIn.set {b : Nat} {l : List Int} (h : RowIn w b l) (k : Nat) (y : Int) : RowIn (w.setCell ⟨b, k, none⟩ (.int .i64 y)) b (l.set k y) := by
  unfold RowIn at *
  rw [heap_setCell_at h]
  simp [List.map_set]

theorem make_ints {n : Nat} : madeCells (Value.cells (.int .i64 0)) (n * 1) = ((List.replicate n (0 : Int)).map (Value.int .i64)).toArray := by
  apply Array.ext
  · simp [size_madeCells]
  · intro i h1 h2
    simp [madeCells, Value.cells, Nat.mod_one]

theorem RowIn.own {b : Nat} {l : List Int} (h : RowIn w b l) (hB : B ≤ b) {n : Nat} (hn : n = l.length) (hm : n ≤ maxLen) : OwnInts w B (.slice (some ⟨b, 0, none⟩) n n) l := by
  subst hn
  refine ⟨by simp, .inr ⟨b, l.length, _, rfl, hB, h, Nat.le_refl _, hm, by simp, ?_⟩⟩
  exact List.take_of_length_le (by simp)

/-- An element in place. -/
theorem own_set {e : TypeId} {g n c k : Nat} {xs : List Value} {y : Value} (h : w.ownsRow B e 1 (.slice (some ⟨g, 0, none⟩) n c) n xs) (_ : k < n) : (w.setCell ⟨g, k, none⟩ y).ownsRow B e 1 (.slice (some ⟨g, 0, none⟩) n c) n (xs.set k y) := by
  rcases h with ⟨h1, ⟨h0, _⟩ | ⟨g', cap, cur, e1, hB, hg, q1, q2, q3, q4⟩⟩
  · cases h0
  · simp only [Value.slice.injEq, Option.some.injEq, Addr.mk.injEq, and_true] at e1
    obtain ⟨rfl, _, rfl⟩ := e1
    refine ⟨by simpa using h1, .inr ⟨g, c, _, rfl, hB, heap_setCell_at hg k y, q1, q2, by simpa using q3, ?_⟩⟩
    rw [← q4]
    simp [List.take_set]

theorem own_shape_pos {e : TypeId} {z n : Nat} {v : Value} {xs : List Value} (h : w.ownsRow B e z v n xs) (h0 : 0 < n) : ∃ g c, v = .slice (some ⟨g, 0, none⟩) n c := by
  rcases h.2 with ⟨_, h1⟩ | ⟨g', cap', cur, e, _⟩
  · omega
  · exact ⟨_, _, e⟩

/-- An element, read. -/
theorem OwnMat.elem {g n c k : Nat} {l : List Int} (h : OwnMat w B (.slice (some ⟨g, 0, none⟩) n c) rows) (hk : rows[k]? = some l) : ∃ s cc, w.cell? ⟨g, k, none⟩ = some (.slice s l.length cc) ∧ w.frozen? ⟨g, k, none⟩ = false ∧ OwnInts w B (.slice s l.length cc) l := by
  obtain ⟨vs, h1, h2, h3⟩ := h
  have hlt := (List.getElem?_eq_some_iff.1 hk).1
  obtain ⟨u, hu⟩ : ∃ u, vs[k]? = some u := ⟨_, List.getElem?_eq_getElem (by omega)⟩
  have ho := h3 k u l hu hk
  obtain ⟨s, cc, rfl⟩ := ho.shape
  rcases h1 with ⟨_, ⟨h0, _⟩ | ⟨g', cap, cur, e1, hB, hg, q1, q2, q3, q4⟩⟩
  · cases h0
  · simp only [Value.slice.injEq, Option.some.injEq, Addr.mk.injEq, and_true] at e1
    obtain ⟨rfl, _, rfl⟩ := e1
    refine ⟨s, cc, ?_, free_at hg _, ho⟩
    rw [cell_at hg]
    rw [← q4, List.getElem?_take] at hu
    split at hu
    · simpa using hu
    · cases hu

theorem ToIn.old {w' : World} (h : ToIn w B x T u vn acc rows) (k : Keeps (· < w.heap.size) w w') : ToIn w' B x T u vn acc rows := by
  refine ⟨k.at h.blk (heap_lt h.blk), h.low, ownsRow_keep h.acc k fun b hb => ?_, h.mat.keep k fun b cur e hc _ => heap_lt hc⟩
  obtain ⟨_, cur, hc⟩ := ownsRow_block h.acc hb
  exact heap_lt hc

/-- A row in place. -/
theorem ToIn.put {g n c k : Nat} {u' : Value} {l' : List Int} (h : ToIn w B x T u (.slice (some ⟨g, 0, none⟩) n c) acc rows) (hk : k < rows.length) (hu : OwnInts w B u' l') : ToIn (w.setCell ⟨g, k, none⟩ u') B x T u (.slice (some ⟨g, 0, none⟩) n c) acc (rows.set k l') := by
  obtain ⟨vs, h1, h2, h3⟩ := h.mat
  obtain ⟨hBg, cur, hc⟩ := ownsRow_block h1 (g := g) (by simp [Value.ownBlock])
  have ks : Keeps (· ≠ g) w (w.setCell ⟨g, k, none⟩ u') := (Keeps.refl (· ≠ g) w).setCell (fun hh => hh.2 rfl) _
  have hgx : x ≠ g := by rintro rfl; rw [h.blk] at hc; simp at hc
  have hn : n = rows.length := by
    obtain ⟨s, c', e⟩ := ownsRow_shape h1
    simp only [Value.slice.injEq] at e
    exact e.2.1
  subst hn
  have hint : ∀ {z : Value} {m : List Int}, OwnInts w B z m → OwnInts (w.setCell ⟨g, k, none⟩ u') B z m := fun hh => hh.keep ks fun b hb => by
    rintro rfl
    exact hh.ne_block hc (by decide) hb
  refine ⟨ks.at h.blk hgx, h.low, ownsRow_keep h.acc ks fun b hb => ?_, vs.set k u', by simpa using own_set h1 hk, by simpa using h2, fun i z m hz hm => ?_⟩
  · rintro rfl
    obtain ⟨_, c1, h4⟩ := ownsRow_block h.acc hb
    rw [hc] at h4; simp at h4
  · by_cases e : k = i
    · subst e
      rw [List.getElem?_set_self (by rw [h2]; exact hk)] at hz
      rw [List.getElem?_set_self hk] at hm
      obtain rfl := Option.some.inj hz
      obtain rfl := Option.some.inj hm
      exact hint hu
    · rw [List.getElem?_set_ne e] at hz hm
      exact hint (h3 i z m hz hm)

/-- A row by other letters. -/
def turnRow (p : Nat) (g : Nat → Nat) (l : List Int) : List Int := (List.range p).map fun c => l.getD (g c) 0

/-- An automaton by other letters. -/
def turnAu (A : Au) (T' : Nat) (g : Nat → Nat) : Au := ⟨T', A.acc, A.next.map (turnRow (2 ^ T') g)⟩

theorem turnAu_ok (h : AuOk A) {T' : Nat} {g : Nat → Nat} (h6 : T' ≤ 6) (hg : ∀ c, c < 2 ^ T' → g c < 2 ^ A.T.toNat) : AuOk (turnAu A T' g) := by
  refine ⟨⟨by simp [turnAu], by simp [turnAu]; omega, h.1.2.2.1, h.1.2.2.2.1, by simpa [turnAu] using h.1.2.2.2.2⟩, fun l hl => ?_⟩
  obtain ⟨r, hr, rfl⟩ := List.mem_map.1 hl
  have hro := h.2 r hr
  refine ⟨by simp [turnAu, turnRow], fun y hy => ?_⟩
  unfold turnRow at hy
  obtain ⟨c, hc, rfl⟩ := List.mem_map.1 hy
  rw [List.mem_range] at hc
  have hlt : g c < r.length := by rw [hro.1]; exact hg c hc
  simp only [List.getD, List.getElem?_eq_getElem hlt, Option.getD_some]
  exact hro.2 _ (List.getElem_mem hlt)

theorem row_part (p m : Nat) (f : Nat → Int) (h : m < p) : ((List.range m).map f ++ List.replicate (p - m) (0 : Int)).set m (f m) = (List.range (m + 1)).map f ++ List.replicate (p - (m + 1)) 0 := by
  rw [show p - m = (p - (m + 1)) + 1 by omega, List.replicate_succ, List.range_succ, List.map_append]
  rw [List.set_append_right _ _ (by simp)]
  simp

theorem rows_part (f : List Int → List Int) (ls : List (List Int)) (k : Nat) (hk : k < ls.length) : ((ls.take k).map f ++ ls.drop k).set k (f ls[k]) = (ls.take (k + 1)).map f ++ ls.drop (k + 1) := by
  have hlen : ((ls.take k).map f).length = k := by simp; omega
  rw [List.set_append_right _ _ (by omega), hlen, Nat.sub_self, List.drop_eq_getElem_cons hk, List.set_cons_zero, List.take_succ_eq_append_getElem hk, List.map_append, List.append_assoc]
  rfl

/-- The function value answers g, for each letter. -/
def AnswersG (F : Nat) (caps : Array Value) (g : Nat → Nat) (p : Nat) (w : World) : Prop :=
  ∀ c, c < p → ∀ w' R, Same w w' → (∀ e w'', e = .returned (.int .i64 (g c : Int)) → Same w' w'' → R e w'') → Calls Try.prog F (#[.int .i64 (c : Int)] ++ caps) w' R

end Go.Proofs.Ytgpgbkoaopfjkaa
