/- The state of sibylref24.Min's search, and what it becomes step by step. -/
import Derived.Test.YtgpgbkoaopfjkaaMinRef3
import Derived.Test.YtgpgbkoaopfjkaaMin5
namespace Go.Proofs.Ytgpgbkoaopfjkaa
open Go.RowKit

attribute [local irreducible] wpQuiet wpPlan wpPlanZ wpUp

variable {R : Ending → World → Prop} {w : World} {A : Au} {B d : Nat}

/-- The numbers of the classes listed; -1: none. -/
def numsI (n : Nat) (K : List Nat) : List Int := (List.range n).map fun c => if c ∈ K then ((K.idxOf c : Nat) : Int) else -1

theorem numsI_length (n : Nat) (K : List Nat) : (numsI n K).length = n := by simp [numsI]
theorem numsI_get {n c : Nat} {K : List Nat} (h : c < n) : (numsI n K)[c]? = some (if c ∈ K then ((K.idxOf c : Nat) : Int) else -1) := by
  simp [numsI, h]
theorem numsI_set {n c : Nat} {K : List Nat} (hc : c ∉ K) : (numsI n K).set c (K.length : Int) = numsI n (K ++ [c]) := by
  apply List.ext_getElem
  · simp [numsI]
  · intro i h1 h2
    rw [List.getElem_set]
    simp only [numsI, List.getElem_map, List.getElem_range]
    by_cases e : c = i
    · subst e
      rw [if_pos rfl, if_pos (by simp), List.idxOf_append, if_neg hc]
      simp
    · rw [if_neg e]
      by_cases hi : i ∈ K
      · rw [if_pos hi, if_pos (by simp [hi]), List.idxOf_append, if_pos hi]
      · rw [if_neg hi, if_neg (by simp [hi]; exact fun h => e h.symm)]

/-- The first k made -1. -/
def negL (n k : Nat) : List Int := (List.range n).map fun i => if i < k then -1 else 0
theorem negL_length (n k : Nat) : (negL n k).length = n := by simp [negL]
theorem negL_zero (n : Nat) : negL n 0 = List.replicate n 0 := by
  apply List.ext_getElem
  · simp [negL]
  · intro i h1 h2; simp [negL]
theorem negL_all (n : Nat) : negL n n = numsI n [] := by
  apply List.ext_getElem
  · simp [negL, numsI]
  · intro i h1 h2
    have : i < n := by simpa [negL] using h1
    simp [negL, numsI, this]
theorem negL_set (n k : Nat) : (negL n k).set k (-1) = negL n (k + 1) := by
  apply List.ext_getElem
  · simp [negL]
  · intro i h1 h2
    rw [List.getElem_set]
    simp only [negL, List.getElem_map, List.getElem_range]
    by_cases e : k = i
    · subst e; simp
    · rw [if_neg e]
      have : (i < k) ↔ (i < k + 1) := by omega
      simp only [this]

theorem RowIn.keepN {S : Nat → Prop} {w' : World} {b : Nat} {l : List Int} (h : RowIn w b l) (k : Keeps S w w') (hs : S b) : RowIn w' b l := k.at h hs

structure MrSt (W n m x : Nat) (w3 wr : World) (vl vr ua vn : Value) (T : Int) (K : List Nat) (l r : List Int) (acc : List Bool) (rows : List (List Int)) : Prop where
  num : RowIn wr m (numsI n K)
  lown : OwnInts wr W vl l
  rown : OwnInts wr W vr r
  lr : ∀ b, vr.ownBlock = some b → vl.ownBlock ≠ some b
  blk : wr.heap[x]? = some (.cells #[.int .i64 T, ua, vn] 33 (0, 0))
  accs : OwnBools wr W ua acc
  mat : ∃ vs : List Value, wr.ownsRow W 42 1 vn rows.length vs ∧ vs.length = rows.length ∧ ∀ (i : Nat) (u : Value) (q : List Int), vs[i]? = some u → rows[i]? = some q → OwnInts wr W u q ∧ ∀ b, u.ownBlock = some b → vl.ownBlock ≠ some b ∧ vr.ownBlock ≠ some b
  keep : Same w3 wr
  low : w3.heap.size ≤ m ∧ w3.heap.size ≤ x ∧ m < W ∧ x < W ∧ W ≤ wr.heap.size

variable {W n m x : Nat} {w3 wr : World} {vl vr ua vn : Value} {T : Int} {K : List Nat} {l r : List Int} {acc : List Bool} {rows : List (List Int)}

theorem MrSt.same {wr' : World} (h : MrSt W n m x w3 wr vl vr ua vn T K l r acc rows) (k : Same wr wr') : MrSt W n m x w3 wr' vl vr ua vn T K l r acc rows := by
  obtain ⟨vs, h1, h2, h3⟩ := h.mat
  have hz := k.size
  exact ⟨h.num.keep1 k, h.lown.same k, h.rown.same k, h.lr, k.at h.blk trivial, ownsRow_keep h.accs k fun _ _ => trivial, ⟨vs, ownsRow_keep h1 k fun _ _ => trivial, h2, fun i u q hu hq => ⟨(h3 i u q hu hq).1.same k, (h3 i u q hu hq).2⟩⟩, h.keep.tr k, by have := h.low; omega⟩

theorem MrSt.nown {e : TypeId} {z q : Nat} {v : Value} {xs : List Value} (h : MrSt W n m x w3 wr vl vr ua vn T K l r acc rows) (ho : wr.ownsRow W e z v q xs) : v.ownBlock ≠ some m := fun hb => by
  have := (ownsRow_block ho hb).1; have := h.low; omega

/-- A number more in the list. -/
theorem MrSt.pushL (h : MrSt W n m x w3 wr vl vr ua vn T K l r acc rows) (y : Int) (hl : l.length ≤ 1000) :
    ∃ g cap w', (Builtin.append_ #[42, 42] 42 #[vl, .slice (some ⟨wr.heap.size, 0, none⟩) 1 1]).run Try.prog (wr.alloc (.cells #[.int .i64 y] 3)) = .ok (.slice (some ⟨g, 0, none⟩) (l.length + 1) cap) w' ∧
      MrSt W n m x w3 w' (.slice (some ⟨g, 0, none⟩) (l.length + 1) cap) vr ua vn T K (l ++ [y]) r acc rows := by
  obtain ⟨g, cap, w', hr, own2, k2, hg, _⟩ := append_one (P := Try.prog) wr 42 42 3 Try.underlying42 int_info rfl h.lown h.low.2.2.2.2 (.int .i64 y) rfl (by omega) (by decide)
  obtain ⟨vs, h1, h2, h3⟩ := h.mat
  have hz := k2.size
  have fresh : ∀ {u : Value} {q : List Int}, OwnInts wr W u q → (∀ b, u.ownBlock = some b → vl.ownBlock ≠ some b) → ∀ b, u.ownBlock = some b → (Value.slice (some ⟨g, 0, none⟩) (l.length + 1) cap).ownBlock ≠ some b := fun ho hn b hb e => by
    simp [Value.ownBlock] at e
    subst e
    rcases hg with hg | hg
    · exact hn _ hb hg
    · have := (ho.low hb).2; omega
  refine ⟨g, cap, w', hr, h.num.keepN k2 (h.nown h.lown), ?_, h.rown.keep k2 fun b hb => h.lr b hb, fresh h.rown h.lr, k2.at h.blk (own_ne_blk h.lown h.blk (by decide)), ownsRow_keep h.accs k2 fun b hb e => own_ne h.accs h.lown (by decide) b hb e,
    ⟨vs, ownsRow_keep h1 k2 fun b hb e => own_ne h1 h.lown (by decide) b hb e, h2, fun i u q hu hq => ?_⟩, h.keep.trans k2 fun b hb _ => ⟨trivial, fun e => ?_⟩, by have := h.low; omega⟩
  · unfold OwnInts; simpa using own2
  · obtain ⟨n1, n2⟩ := h3 i u q hu hq
    exact ⟨n1.keep k2 fun b hb => (n2 b hb).1, fun b hb => ⟨fresh n1 (fun b hb => (n2 b hb).1) b hb, (n2 b hb).2⟩⟩
  · have := (h.lown.low e).1; have := h.low; omega

/-- A number more in the row. -/
theorem MrSt.pushR (h : MrSt W n m x w3 wr vl vr ua vn T K l r acc rows) (y : Int) (hl : r.length ≤ 1000) :
    ∃ g cap w', (Builtin.append_ #[42, 42] 42 #[vr, .slice (some ⟨wr.heap.size, 0, none⟩) 1 1]).run Try.prog (wr.alloc (.cells #[.int .i64 y] 3)) = .ok (.slice (some ⟨g, 0, none⟩) (r.length + 1) cap) w' ∧
      MrSt W n m x w3 w' vl (.slice (some ⟨g, 0, none⟩) (r.length + 1) cap) ua vn T K l (r ++ [y]) acc rows := by
  obtain ⟨g, cap, w', hr, own2, k2, hg, _⟩ := append_one (P := Try.prog) wr 42 42 3 Try.underlying42 int_info rfl h.rown h.low.2.2.2.2 (.int .i64 y) rfl (by omega) (by decide)
  obtain ⟨vs, h1, h2, h3⟩ := h.mat
  have hz := k2.size
  have fresh : ∀ {u : Value} {q : List Int}, OwnInts wr W u q → (∀ b, u.ownBlock = some b → vr.ownBlock ≠ some b) → ∀ b, u.ownBlock = some b → (Value.slice (some ⟨g, 0, none⟩) (r.length + 1) cap).ownBlock ≠ some b := fun ho hn b hb e => by
    simp [Value.ownBlock] at e
    subst e
    rcases hg with hg | hg
    · exact hn _ hb hg
    · have := (ho.low hb).2; omega
  have lr' : ∀ b, vl.ownBlock = some b → vr.ownBlock ≠ some b := fun b hb e => h.lr b e hb
  refine ⟨g, cap, w', hr, h.num.keepN k2 (h.nown h.rown), h.lown.keep k2 fun b hb => lr' b hb, ?_, fun b hb e => fresh h.lown lr' b e hb, k2.at h.blk (own_ne_blk h.rown h.blk (by decide)), ownsRow_keep h.accs k2 fun b hb e => own_ne h.accs h.rown (by decide) b hb e,
    ⟨vs, ownsRow_keep h1 k2 fun b hb e => own_ne h1 h.rown (by decide) b hb e, h2, fun i u q hu hq => ?_⟩, h.keep.trans k2 fun b hb _ => ⟨trivial, fun e => ?_⟩, by have := h.low; omega⟩
  · unfold OwnInts; simpa using own2
  · obtain ⟨n1, n2⟩ := h3 i u q hu hq
    exact ⟨n1.keep k2 fun b hb => (n2 b hb).2, fun b hb => ⟨(n2 b hb).1, fresh n1 (fun b hb => (n2 b hb).2) b hb⟩⟩
  · have := (h.rown.low e).1; have := h.low; omega

/-- A class more has a number. -/
theorem MrSt.put (h : MrSt W n m x w3 wr vl vr ua vn T K l r acc rows) {c : Nat} (hc : c ∉ K) {z : Int} (hz : z = (K.length : Int)) :
    MrSt W n m x w3 (wr.setCell ⟨m, c, none⟩ (.int .i64 z)) vl vr ua vn T (K ++ [c]) l r acc rows ∧ Keeps (· ≠ m) wr (wr.setCell ⟨m, c, none⟩ (.int .i64 z)) := by
  subst hz
  have k4 : Keeps (· ≠ m) wr (wr.setCell ⟨m, c, none⟩ (.int .i64 (K.length : Int))) := (Keeps.refl (· ≠ m) wr).setCell (fun hh => hh.2 rfl) _
  have nm : ∀ {e : TypeId} {z q : Nat} {v : Value} {xs : List Value}, wr.ownsRow W e z v q xs → ∀ b, v.ownBlock = some b → b ≠ m := fun ho b hb e => by subst e; exact h.nown ho hb
  obtain ⟨vs, h1, h2, h3⟩ := h.mat
  have hz := k4.size
  refine ⟨⟨?_, h.lown.keep k4 (nm h.lown), h.rown.keep k4 (nm h.rown), h.lr, k4.at h.blk (fun e => ?_), ownsRow_keep h.accs k4 (nm h.accs), ⟨vs, ownsRow_keep h1 k4 (nm h1), h2, fun i u q hu hq => ⟨(h3 i u q hu hq).1.keep k4 (nm (h3 i u q hu hq).1), (h3 i u q hu hq).2⟩⟩, h.keep.trans k4 fun b hb _ => ⟨trivial, fun e => ?_⟩, by have := h.low; omega⟩, k4⟩
  · have := h.num.set c (K.length : Int)
    rw [numsI_set hc] at this
    exact this
  · have hb := h.blk
    have hm := h.num
    unfold RowIn at hm
    subst e; rw [hm] at hb
    simp only [Option.some.injEq, Obj.cells.injEq] at hb
    exact absurd hb.2.1 (by decide)
  · have := h.low; omega

/-- The row goes to the automaton. -/
theorem MrSt.outNext (h : MrSt W n m x w3 wr vl vr ua vn T K l r acc rows) (hl : rows.length ≤ 1000) :
    ∃ g cap w5, (Builtin.append_ #[31, 31] 31 #[vn, .slice (some ⟨wr.heap.size, 0, none⟩) 1 1]).run Try.prog (wr.alloc (.cells #[vr] 42)) = .ok (.slice (some ⟨g, 0, none⟩) (rows.length + 1) cap) w5 ∧
      w5.heap[x]? = some (.cells #[.int .i64 T, ua, vn] 33 (0, 0)) ∧
      MrSt W n m x w3 (w5.setCell ⟨x, 2, none⟩ (.slice (some ⟨g, 0, none⟩) (rows.length + 1) cap)) vl (.slice none 0 0) ua (.slice (some ⟨g, 0, none⟩) (rows.length + 1) cap) T K l [] acc (rows ++ [r]) := by
  obtain ⟨vs, h1, h2, h3⟩ := h.mat
  have hone : vr.oneCell' = true := by
    obtain ⟨a, c, rfl⟩ := h.rown.shape; rfl
  obtain ⟨g, cap, w5, q1, q2, k5, q4, q5⟩ := append_wide (P := Try.prog) wr 31 31 42 Try.underlying31 ints_info rfl h1 h.low.2.2.2.2 vr hone (by omega) (by decide)
  have hb5 := k5.at h.blk (own_ne_blk h1 h.blk (by decide))
  have ki : ∀ {u : Value} {q : List Int}, OwnInts wr W u q → OwnInts (w5.setCell ⟨x, 2, none⟩ (.slice (some ⟨g, 0, none⟩) (rows.length + 1) cap)) W u q := fun ho => by
    have h5 : OwnInts w5 W _ _ := ho.keep k5 fun b hb e => own_ne h1 ho (by decide) b e hb
    exact MnSt.cellKeep h5 (own_ne_blk h5 hb5 (by decide))
  have m5 : RowIn w5 m (numsI n K) := h.num.keepN k5 (h.nown h1)
  have kx : Keeps (· ≠ x) w5 (w5.setCell ⟨x, 2, none⟩ (.slice (some ⟨g, 0, none⟩) (rows.length + 1) cap)) := (Keeps.refl (· ≠ x) w5).setCell (fun hh => hh.2 rfl) _
  have a5 : w5.ownsRow W 4 1 ua acc.length (acc.map Value.bool) := ownsRow_keep h.accs k5 fun b hb e => own_ne h.accs h1 (by decide) b hb e
  have mne : m ≠ x := fun e => by
    unfold RowIn at m5
    subst e; rw [m5] at hb5
    simp only [Option.some.injEq, Obj.cells.injEq] at hb5
    exact absurd hb5.2.1 (by decide)
  have hz := k5.size
  have hz2 := kx.size
  refine ⟨g, cap, w5, q1, hb5, m5.keepN kx mne, ki h.lown, World.ownsRow_nil _ _ _ _, fun b hb => by simp [Value.ownBlock] at hb, ?_, MnSt.cellKeep a5 (own_ne_blk a5 hb5 (by decide)), ⟨vs ++ [vr], by simpa using MnSt.cellKeep q2 (own_ne_blk q2 hb5 (by decide)), by simp [h2], fun i u q hu hq => ?_⟩, ?_, by have := h.low; omega⟩
  · rw [heap_setCell_at hb5]; simp
  · by_cases hi : i < rows.length
    · rw [List.getElem?_append_left (by omega)] at hu
      rw [List.getElem?_append_left hi] at hq
      obtain ⟨n1, n2⟩ := h3 i u q hu hq
      exact ⟨ki n1, fun b hb => ⟨(n2 b hb).1, by simp [Value.ownBlock]⟩⟩
    · have hi2 : i = rows.length := by
        have := (List.getElem?_eq_some_iff.1 hq).1
        simp at this; omega
      subst hi2
      rw [List.getElem?_append_right (by omega)] at hu hq
      simp [h2] at hu hq
      subst hu; subst hq
      exact ⟨ki h.rown, fun b hb => ⟨h.lr b hb, by simp [Value.ownBlock]⟩⟩
  · refine (h.keep.trans k5 fun b hb _ => ⟨trivial, fun e => ?_⟩).setCell (fun hh => ?_) _
    · have := (ownsRow_block h1 e).1; have := h.low; omega
    · have := hh.1; have := h.low; simp at *; omega

/-- Whether a state accepts goes to the automaton. -/
theorem MrSt.outAcc (h : MrSt W n m x w3 wr vl vr ua vn T K l r acc rows) (y : Bool) (hl : acc.length ≤ 1000) :
    ∃ g cap w5, (Builtin.append_ #[30, 30] 30 #[ua, .slice (some ⟨wr.heap.size, 0, none⟩) 1 1]).run Try.prog (wr.alloc (.cells #[.bool y] 4)) = .ok (.slice (some ⟨g, 0, none⟩) (acc.length + 1) cap) w5 ∧
      w5.heap[x]? = some (.cells #[.int .i64 T, ua, vn] 33 (0, 0)) ∧ Keeps (fun b => ua.ownBlock ≠ some b) wr w5 ∧
      MrSt W n m x w3 (w5.setCell ⟨x, 1, none⟩ (.slice (some ⟨g, 0, none⟩) (acc.length + 1) cap)) vl vr (.slice (some ⟨g, 0, none⟩) (acc.length + 1) cap) vn T K l r (acc ++ [y]) rows := by
  obtain ⟨vs, h1, h2, h3⟩ := h.mat
  obtain ⟨g, cap, w5, q1, q2, k5, q4, q5⟩ := append_wide (P := Try.prog) wr 30 30 4 Try.underlying30 bool_info rfl h.accs h.low.2.2.2.2 (.bool y) rfl (by omega) (by decide)
  have hb5 := k5.at h.blk (own_ne_blk h.accs h.blk (by decide))
  have ki : ∀ {u : Value} {q : List Int}, OwnInts wr W u q → OwnInts (w5.setCell ⟨x, 1, none⟩ (.slice (some ⟨g, 0, none⟩) (acc.length + 1) cap)) W u q := fun ho => by
    have h5 : OwnInts w5 W _ _ := ho.keep k5 fun b hb e => own_ne h.accs ho (by decide) b e hb
    exact MnSt.cellKeep h5 (own_ne_blk h5 hb5 (by decide))
  have m5 : RowIn w5 m (numsI n K) := h.num.keepN k5 (h.nown h.accs)
  have kx : Keeps (· ≠ x) w5 (w5.setCell ⟨x, 1, none⟩ (.slice (some ⟨g, 0, none⟩) (acc.length + 1) cap)) := (Keeps.refl (· ≠ x) w5).setCell (fun hh => hh.2 rfl) _
  have n5 : w5.ownsRow W 42 1 vn rows.length vs := ownsRow_keep h1 k5 fun b hb e => own_ne h1 h.accs (by decide) b hb e
  have mne : m ≠ x := fun e => by
    unfold RowIn at m5
    subst e; rw [m5] at hb5
    simp only [Option.some.injEq, Obj.cells.injEq] at hb5
    exact absurd hb5.2.1 (by decide)
  have hz := k5.size
  have hz2 := kx.size
  refine ⟨g, cap, w5, q1, hb5, k5, m5.keepN kx mne, ki h.lown, ki h.rown, h.lr, ?_, ?_, ⟨vs, MnSt.cellKeep n5 (own_ne_blk n5 hb5 (by decide)), h2, fun i u q hu hq => ⟨ki (h3 i u q hu hq).1, (h3 i u q hu hq).2⟩⟩, ?_, by have := h.low; omega⟩
  · rw [heap_setCell_at hb5]; simp
  · have := MnSt.cellKeep (i := 1) (y := .slice (some ⟨g, 0, none⟩) (acc.length + 1) cap) q2 (own_ne_blk q2 hb5 (by decide))
    unfold OwnBools
    simpa using this
  · refine (h.keep.trans k5 fun b hb _ => ⟨trivial, fun e => ?_⟩).setCell (fun hh => ?_) _
    · have := (ownsRow_block h.accs e).1; have := h.low; omega
    · have := hh.1; have := h.low; simp at *; omega

theorem MrSt.own {b : Nat} {wr' : World} (h : MrSt W n m x w3 wr vl vr ua vn A.T K l r A.acc A.next) (k : Keeps (· ≠ b) wr wr') (hb : b < W) : OwnAuto wr' W (.agg #[.int .i64 A.T, ua, vn]) A := by
  obtain ⟨vs, h1, h2, h3⟩ := h.mat
  have nb : ∀ {e : TypeId} {z q : Nat} {v : Value} {xs : List Value}, wr.ownsRow W e z v q xs → ∀ c, v.ownBlock = some c → c ≠ b := fun ho c hc e => by have := (ownsRow_block ho hc).1; omega
  exact ⟨ua, vn, rfl, ownsRow_keep h.accs k (nb h.accs), vs, ownsRow_keep h1 k (nb h1), h2, fun i u q hu hq => (h3 i u q hu hq).1.keep k (nb (h3 i u q hu hq).1)⟩

theorem MrSt.auto {b : Nat} {wr' : World} (h : MrSt W n m x w3 wr vl vr ua vn A.T K l r A.acc A.next) (hok : AuOk A) (k : Keeps (· ≠ b) wr wr') (hb : b < W) : AutoAt wr' (.agg #[.int .i64 A.T, ua, vn]) A := by
  obtain ⟨vs, h1, h2, h3⟩ := h.mat
  have nb : ∀ {e : TypeId} {z q : Nat} {v : Value} {xs : List Value}, wr.ownsRow W e z v q xs → ∀ c, v.ownBlock = some c → c ≠ b := fun ho c hc e => by have := (ownsRow_block ho hc).1; omega
  have ha : OwnBools wr' W ua A.acc := ownsRow_keep h.accs k (nb h.accs)
  exact ⟨ua, vn, rfl, OwnBools.bools ha, OwnMat.rows ⟨vs, ownsRow_keep h1 k (nb h1), h2, fun i u q hu hq => (h3 i u q hu hq).1.keep k (nb (h3 i u q hu hq).1)⟩ hok.bounds.2, hok.bounds.1⟩

end Go.Proofs.Ytgpgbkoaopfjkaa
