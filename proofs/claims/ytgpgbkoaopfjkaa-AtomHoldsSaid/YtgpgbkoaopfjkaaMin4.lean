/- The state of minim.Min's search, and what it becomes step by step. -/
import Derived.Test.YtgpgbkoaopfjkaaMin3
namespace Go.Proofs.Ytgpgbkoaopfjkaa
open Go.RowKit

attribute [local irreducible] wpQuiet wpPlan wpPlanZ wpUp

variable {R : Ending → World → Prop} {w : World} {A : Au} {B d : Nat}

/-- Slices of the call's own, of unlike elements, lie apart. -/
theorem own_ne {e e' : TypeId} {z z' n n' B' : Nat} {v v' : Value} {xs xs' : List Value} (h : w.ownsRow B e z v n xs) (h' : w.ownsRow B' e' z' v' n' xs') (hne : e ≠ e') : ∀ b, v.ownBlock = some b → v'.ownBlock ≠ some b := fun b hb hb' => by
  obtain ⟨_, c, h1⟩ := ownsRow_block h hb
  obtain ⟨_, c', h2⟩ := ownsRow_block h' hb'
  rw [h1] at h2
  simp only [Option.some.injEq, Obj.cells.injEq] at h2
  exact hne h2.2.1

theorem own_ne_blk {e t : TypeId} {z n x : Nat} {v : Value} {xs : List Value} {cs : Array Value} (h : w.ownsRow B e z v n xs) (hx : w.heap[x]? = some (.cells cs t (0, 0))) (hne : e ≠ t) : v.ownBlock ≠ some x := fun hb => by
  obtain ⟨_, c, h1⟩ := ownsRow_block h hb
  rw [hx] at h1
  simp only [Option.some.injEq, Obj.cells.injEq] at h1
  exact hne h1.2.1.symm

theorem own_ne_map {e : TypeId} {z n m : Nat} {v : Value} {xs : List Value} {K : List (Int × Value)} (h : w.ownsRow B e z v n xs) (hm : MapAt (Value.int .i64) w m K) : v.ownBlock ≠ some m := fun hb => by
  obtain ⟨_, c, h1⟩ := ownsRow_block h hb
  obtain ⟨es, clk, h2, _⟩ := hm
  rw [h2] at h1; cases h1

structure MnSt (W m x : Nat) (w3 wr : World) (vl vr ua vn : Value) (T : Int) (K l r : List Int) (acc : List Bool) (rows : List (List Int)) : Prop where
  map : MapAt (Value.int .i64) wr m (numI K)
  lown : OwnInts wr W vl l
  rown : OwnInts wr W vr r
  lr : ∀ b, vr.ownBlock = some b → vl.ownBlock ≠ some b
  blk : wr.heap[x]? = some (.cells #[.int .i64 T, ua, vn] 33 (0, 0))
  accs : OwnBools wr W ua acc
  mat : ∃ vs : List Value, wr.ownsRow W 42 1 vn rows.length vs ∧ vs.length = rows.length ∧ ∀ (i : Nat) (u : Value) (q : List Int), vs[i]? = some u → rows[i]? = some q → OwnInts wr W u q ∧ ∀ b, u.ownBlock = some b → vl.ownBlock ≠ some b ∧ vr.ownBlock ≠ some b
  keep : Same w3 wr
  low : W = w3.heap.size ∧ W ≤ m ∧ W ≤ x

variable {W m x : Nat} {w3 wr : World} {vl vr ua vn : Value} {T : Int} {K l r : List Int} {acc : List Bool} {rows : List (List Int)}

theorem MnSt.same {wr' : World} (h : MnSt W m x w3 wr vl vr ua vn T K l r acc rows) (k : Same wr wr') : MnSt W m x w3 wr' vl vr ua vn T K l r acc rows := by
  obtain ⟨vs, h1, h2, h3⟩ := h.mat
  exact ⟨h.map.keep k trivial, h.lown.same k, h.rown.same k, h.lr, k.at h.blk trivial, ownsRow_keep h.accs k fun _ _ => trivial, ⟨vs, ownsRow_keep h1 k fun _ _ => trivial, h2, fun i u q hu hq => ⟨(h3 i u q hu hq).1.same k, (h3 i u q hu hq).2⟩⟩, h.keep.tr k, h.low⟩

theorem MnSt.size (h : MnSt W m x w3 wr vl vr ua vn T K l r acc rows) : W ≤ wr.heap.size := by have := h.low.1; have := h.keep.size; omega

/-- A number more in the list. -/
theorem MnSt.pushL (h : MnSt W m x w3 wr vl vr ua vn T K l r acc rows) (y : Int) (hl : l.length ≤ 1000) :
    ∃ g cap w', (Builtin.append_ #[42, 42] 42 #[vl, .slice (some ⟨wr.heap.size, 0, none⟩) 1 1]).run Try.prog (wr.alloc (.cells #[.int .i64 y] 3)) = .ok (.slice (some ⟨g, 0, none⟩) (l.length + 1) cap) w' ∧
      MnSt W m x w3 w' (.slice (some ⟨g, 0, none⟩) (l.length + 1) cap) vr ua vn T K (l ++ [y]) r acc rows := by
  obtain ⟨g, cap, w', hr, own2, k2, hg, _⟩ := append_one (P := Try.prog) wr 42 42 3 Try.underlying42 int_info rfl h.lown h.size (.int .i64 y) rfl (by omega) (by decide)
  obtain ⟨vs, h1, h2, h3⟩ := h.mat
  have fresh : ∀ {u : Value} {q : List Int}, OwnInts wr W u q → (∀ b, u.ownBlock = some b → vl.ownBlock ≠ some b) → ∀ b, u.ownBlock = some b → (Value.slice (some ⟨g, 0, none⟩) (l.length + 1) cap).ownBlock ≠ some b := fun ho hn b hb e => by
    simp [Value.ownBlock] at e
    subst e
    rcases hg with hg | hg
    · exact hn _ hb hg
    · have := (ho.low hb).2; omega
  refine ⟨g, cap, w', hr, h.map.keep k2 (own_ne_map h.lown h.map), ?_, h.rown.keep k2 fun b hb => h.lr b hb, fresh h.rown h.lr, k2.at h.blk (own_ne_blk h.lown h.blk (by decide)), ownsRow_keep h.accs k2 fun b hb e => own_ne h.accs h.lown (by decide) b hb e,
    ⟨vs, ownsRow_keep h1 k2 fun b hb e => own_ne h1 h.lown (by decide) b hb e, h2, fun i u q hu hq => ?_⟩, h.keep.trans k2 fun b hb _ => ⟨trivial, fun e => ?_⟩, h.low⟩
  · unfold OwnInts; simpa using own2
  · obtain ⟨n1, n2⟩ := h3 i u q hu hq
    exact ⟨n1.keep k2 fun b hb => (n2 b hb).1, fun b hb => ⟨fresh n1 (fun b hb => (n2 b hb).1) b hb, (n2 b hb).2⟩⟩
  · have := (h.lown.low e).1; have := h.low.1; omega

/-- A number more in the row. -/
theorem MnSt.pushR (h : MnSt W m x w3 wr vl vr ua vn T K l r acc rows) (y : Int) (hl : r.length ≤ 1000) :
    ∃ g cap w', (Builtin.append_ #[42, 42] 42 #[vr, .slice (some ⟨wr.heap.size, 0, none⟩) 1 1]).run Try.prog (wr.alloc (.cells #[.int .i64 y] 3)) = .ok (.slice (some ⟨g, 0, none⟩) (r.length + 1) cap) w' ∧
      MnSt W m x w3 w' vl (.slice (some ⟨g, 0, none⟩) (r.length + 1) cap) ua vn T K l (r ++ [y]) acc rows := by
  obtain ⟨g, cap, w', hr, own2, k2, hg, _⟩ := append_one (P := Try.prog) wr 42 42 3 Try.underlying42 int_info rfl h.rown h.size (.int .i64 y) rfl (by omega) (by decide)
  obtain ⟨vs, h1, h2, h3⟩ := h.mat
  have fresh : ∀ {u : Value} {q : List Int}, OwnInts wr W u q → (∀ b, u.ownBlock = some b → vr.ownBlock ≠ some b) → ∀ b, u.ownBlock = some b → (Value.slice (some ⟨g, 0, none⟩) (r.length + 1) cap).ownBlock ≠ some b := fun ho hn b hb e => by
    simp [Value.ownBlock] at e
    subst e
    rcases hg with hg | hg
    · exact hn _ hb hg
    · have := (ho.low hb).2; omega
  have lr' : ∀ b, vl.ownBlock = some b → vr.ownBlock ≠ some b := fun b hb e => h.lr b e hb
  refine ⟨g, cap, w', hr, h.map.keep k2 (own_ne_map h.rown h.map), h.lown.keep k2 fun b hb => lr' b hb, ?_, fun b hb e => fresh h.lown lr' b e hb, k2.at h.blk (own_ne_blk h.rown h.blk (by decide)), ownsRow_keep h.accs k2 fun b hb e => own_ne h.accs h.rown (by decide) b hb e,
    ⟨vs, ownsRow_keep h1 k2 fun b hb e => own_ne h1 h.rown (by decide) b hb e, h2, fun i u q hu hq => ?_⟩, h.keep.trans k2 fun b hb _ => ⟨trivial, fun e => ?_⟩, h.low⟩
  · unfold OwnInts; simpa using own2
  · obtain ⟨n1, n2⟩ := h3 i u q hu hq
    exact ⟨n1.keep k2 fun b hb => (n2 b hb).2, fun b hb => ⟨(n2 b hb).1, fresh n1 (fun b hb => (n2 b hb).2) b hb⟩⟩
  · have := (h.rown.low e).1; have := h.low.1; omega

/-- A key more. -/
theorem MnSt.put (h : MnSt W m x w3 wr vl vr ua vn T K l r acc rows) {t : Int} (ht : t ∉ K) {z : Int} (hz : z = (K.length : Int)) :
    ∃ w', (Instr.mapUpdate 75 (.map (some m)) (.int .i64 t) (.int .i64 z)).run Try.prog wr = .ok () w' ∧ MnSt W m x w3 w' vl vr ua vn T (K ++ [t]) l r acc rows ∧ Keeps (· ≠ m) wr w' := by
  subst hz
  obtain ⟨w', hr, m4, k4⟩ := run_update_new keysI Try.underlying75 h.map t (.int .i64 (K.length : Int)) (by rw [lookup_numI, if_neg ht])
  rw [← numI_snoc] at m4
  have nm : ∀ {e : TypeId} {z n : Nat} {v : Value} {xs : List Value}, wr.ownsRow W e z v n xs → ∀ b, v.ownBlock = some b → b ≠ m := fun ho b hb e => by subst e; exact own_ne_map ho h.map hb
  obtain ⟨vs, h1, h2, h3⟩ := h.mat
  refine ⟨w', hr, ⟨m4, h.lown.keep k4 (nm h.lown), h.rown.keep k4 (nm h.rown), h.lr, k4.at h.blk (fun e => ?_), ownsRow_keep h.accs k4 (nm h.accs), ⟨vs, ownsRow_keep h1 k4 (nm h1), h2, fun i u q hu hq => ⟨(h3 i u q hu hq).1.keep k4 (nm (h3 i u q hu hq).1), (h3 i u q hu hq).2⟩⟩, h.keep.trans k4 fun b hb _ => ⟨trivial, fun e => ?_⟩, h.low⟩, k4⟩
  · obtain ⟨es, clk, hm, _⟩ := h.map
    have hb := h.blk
    subst e; rw [hm] at hb; cases hb
  · have := h.low; omega

theorem MnSt.look (h : MnSt W m x w3 wr vl vr ua vn T K l r acc rows) (t : Int) :
    (Instr.lookup 75 (.map (some m)) (.int .i64 t) true).run Try.prog wr = .ok (.tuple #[if t ∈ K then .int .i64 ((K.idxOf t : Nat) : Int) else .int .i64 0, .bool (decide (t ∈ K))]) wr := by
  have := run_lookup_at keysI Try.underlying75 (int_zero wr) h.map t
  rw [lookup_numI] at this
  rw [this]
  by_cases hx : t ∈ K <;> simp [hx]

/-- The struct's cell. -/
theorem MnSt.cellKeep {w5 : World} {i : Nat} {y : Value} {e : TypeId} {z n : Nat} {v : Value} {xs : List Value} (ho : w5.ownsRow B e z v n xs) (hx : v.ownBlock ≠ some x) : (w5.setCell ⟨x, i, none⟩ y).ownsRow B e z v n xs :=
  ownsRow_keep ho ((Keeps.refl (· ≠ x) w5).setCell (fun hh => hh.2 rfl) _) fun b hb => by rintro rfl; exact hx hb

/-- The row goes to the automaton. -/
theorem MnSt.outNext (h : MnSt W m x w3 wr vl vr ua vn T K l r acc rows) (hl : rows.length ≤ 1000) :
    ∃ g cap w5, (Builtin.append_ #[31, 31] 31 #[vn, .slice (some ⟨wr.heap.size, 0, none⟩) 1 1]).run Try.prog (wr.alloc (.cells #[vr] 42)) = .ok (.slice (some ⟨g, 0, none⟩) (rows.length + 1) cap) w5 ∧
      w5.heap[x]? = some (.cells #[.int .i64 T, ua, vn] 33 (0, 0)) ∧
      MnSt W m x w3 (w5.setCell ⟨x, 2, none⟩ (.slice (some ⟨g, 0, none⟩) (rows.length + 1) cap)) vl (.slice none 0 0) ua (.slice (some ⟨g, 0, none⟩) (rows.length + 1) cap) T K l [] acc (rows ++ [r]) := by
  obtain ⟨vs, h1, h2, h3⟩ := h.mat
  have hone : vr.oneCell' = true := by
    obtain ⟨a, c, rfl⟩ := h.rown.shape; rfl
  obtain ⟨g, cap, w5, q1, q2, k5, q4, q5⟩ := append_wide (P := Try.prog) wr 31 31 42 Try.underlying31 ints_info rfl h1 h.size vr hone (by omega) (by decide)
  have hb5 := k5.at h.blk (own_ne_blk h1 h.blk (by decide))
  have ki : ∀ {u : Value} {q : List Int}, OwnInts wr W u q → OwnInts (w5.setCell ⟨x, 2, none⟩ (.slice (some ⟨g, 0, none⟩) (rows.length + 1) cap)) W u q := fun ho => by
    have h5 : OwnInts w5 W _ _ := ho.keep k5 fun b hb e => own_ne h1 ho (by decide) b e hb
    exact MnSt.cellKeep h5 (own_ne_blk h5 hb5 (by decide))
  have m5 : MapAt (Value.int .i64) w5 m (numI K) := h.map.keep k5 (own_ne_map h1 h.map)
  have kx : Keeps (· ≠ x) w5 (w5.setCell ⟨x, 2, none⟩ (.slice (some ⟨g, 0, none⟩) (rows.length + 1) cap)) := (Keeps.refl (· ≠ x) w5).setCell (fun hh => hh.2 rfl) _
  have a5 : w5.ownsRow W 4 1 ua acc.length (acc.map Value.bool) := ownsRow_keep h.accs k5 fun b hb e => own_ne h.accs h1 (by decide) b hb e
  have mne : m ≠ x := fun e => by
    obtain ⟨es, clk, hm, _⟩ := m5
    subst e; rw [hm] at hb5; cases hb5
  refine ⟨g, cap, w5, q1, hb5, m5.keep kx mne, ki h.lown, World.ownsRow_nil _ _ _ _, fun b hb => by simp [Value.ownBlock] at hb, ?_, MnSt.cellKeep a5 (own_ne_blk a5 hb5 (by decide)), ⟨vs ++ [vr], by simpa using MnSt.cellKeep q2 (own_ne_blk q2 hb5 (by decide)), by simp [h2], fun i u q hu hq => ?_⟩, ?_, h.low⟩
  · rw [heap_setCell_at hb5]; simp
  · by_cases hi : i < rows.length
    · rw [List.getElem?_append_left (by omega)] at hu
      rw [List.getElem?_append_left hi] at hq
      obtain ⟨n1, n2⟩ := h3 i u q hu hq
      exact ⟨ki n1, fun b hb => ⟨(n2 b hb).1, by simp [Value.ownBlock]⟩⟩
    · have hi2 : i = rows.length := by
        have := (List.getElem?_eq_some_iff.1 hq).1
        simp at this; omega
      subst hi2
      rw [List.getElem?_append_right (by omega)] at hu hq
      simp [h2] at hu hq
      subst hu; subst hq
      exact ⟨ki h.rown, fun b hb => ⟨h.lr b hb, by simp [Value.ownBlock]⟩⟩
  · refine (h.keep.trans k5 fun b hb _ => ⟨trivial, fun e => ?_⟩).setCell (fun hh => ?_) _
    · have := (ownsRow_block h1 e).1; have := h.low.1; omega
    · have := hh.1; have := h.low; simp at *; omega

/-- Whether a state accepts goes to the automaton. -/
theorem MnSt.outAcc (h : MnSt W m x w3 wr vl vr ua vn T K l r acc rows) (y : Bool) (hl : acc.length ≤ 1000) :
    ∃ g cap w5, (Builtin.append_ #[30, 30] 30 #[ua, .slice (some ⟨wr.heap.size, 0, none⟩) 1 1]).run Try.prog (wr.alloc (.cells #[.bool y] 4)) = .ok (.slice (some ⟨g, 0, none⟩) (acc.length + 1) cap) w5 ∧
      w5.heap[x]? = some (.cells #[.int .i64 T, ua, vn] 33 (0, 0)) ∧ Keeps (fun b => ua.ownBlock ≠ some b) wr w5 ∧
      MnSt W m x w3 (w5.setCell ⟨x, 1, none⟩ (.slice (some ⟨g, 0, none⟩) (acc.length + 1) cap)) vl vr (.slice (some ⟨g, 0, none⟩) (acc.length + 1) cap) vn T K l r (acc ++ [y]) rows := by
  obtain ⟨vs, h1, h2, h3⟩ := h.mat
  obtain ⟨g, cap, w5, q1, q2, k5, q4, q5⟩ := append_wide (P := Try.prog) wr 30 30 4 Try.underlying30 bool_info rfl h.accs h.size (.bool y) rfl (by omega) (by decide)
  have hb5 := k5.at h.blk (own_ne_blk h.accs h.blk (by decide))
  have ki : ∀ {u : Value} {q : List Int}, OwnInts wr W u q → OwnInts (w5.setCell ⟨x, 1, none⟩ (.slice (some ⟨g, 0, none⟩) (acc.length + 1) cap)) W u q := fun ho => by
    have h5 : OwnInts w5 W _ _ := ho.keep k5 fun b hb e => own_ne h.accs ho (by decide) b e hb
    exact MnSt.cellKeep h5 (own_ne_blk h5 hb5 (by decide))
  have m5 : MapAt (Value.int .i64) w5 m (numI K) := h.map.keep k5 (own_ne_map h.accs h.map)
  have kx : Keeps (· ≠ x) w5 (w5.setCell ⟨x, 1, none⟩ (.slice (some ⟨g, 0, none⟩) (acc.length + 1) cap)) := (Keeps.refl (· ≠ x) w5).setCell (fun hh => hh.2 rfl) _
  have n5 : w5.ownsRow W 42 1 vn rows.length vs := ownsRow_keep h1 k5 fun b hb e => own_ne h1 h.accs (by decide) b hb e
  have mne : m ≠ x := fun e => by
    obtain ⟨es, clk, hm, _⟩ := m5
    subst e; rw [hm] at hb5; cases hb5
  refine ⟨g, cap, w5, q1, hb5, k5, m5.keep kx mne, ki h.lown, ki h.rown, h.lr, ?_, ?_, ⟨vs, MnSt.cellKeep n5 (own_ne_blk n5 hb5 (by decide)), h2, fun i u q hu hq => ⟨ki (h3 i u q hu hq).1, (h3 i u q hu hq).2⟩⟩, ?_, h.low⟩
  · rw [heap_setCell_at hb5]; simp
  · have := MnSt.cellKeep (i := 1) (y := .slice (some ⟨g, 0, none⟩) (acc.length + 1) cap) q2 (own_ne_blk q2 hb5 (by decide))
    unfold OwnBools
    simpa using this
  · refine (h.keep.trans k5 fun b hb _ => ⟨trivial, fun e => ?_⟩).setCell (fun hh => ?_) _
    · have := (ownsRow_block h.accs e).1; have := h.low.1; omega
    · have := hh.1; have := h.low; simp at *; omega

end Go.Proofs.Ytgpgbkoaopfjkaa
