/- What sibylref24's walks need beside the plain law. -/
import Derived.Test.YtohhjdadhdibfaaPkB
import Derived.Test.YtohhjdadhdibfaaMinLaw
import Derived.Test.YtohhjdadhdibfaaPkA
namespace Go.Proofs.Ytohhjdadhdibfaa
open Go.RowKit

variable {R : Ending → World → Prop} {w : World} {A : Au} {B d x : Nat}

theorem clsK_lt (A : Au) (k : Nat) : ∀ x ∈ clsK A k, x < A.acc.length := fun x hx => by
  have hnn := (nub_cls A k)
  rw [← hnn.2] at hx
  have h3 := numb_lt _ hx
  rw [hnn.1] at h3
  exact Nat.lt_of_lt_of_le h3 (cnt_le A k)

theorem wrap_nat {z : Nat} (h : z ≤ 1099511627776) : wrap64 (z : Int) = (z : Int) ∧ IntKind.i64.wrap (z : Int) = (z : Int) := by
  have h1 : wrap64 (z : Int) = (z : Int) := IntWalk.wrap64_in _ ⟨by omega, by omega⟩
  exact ⟨h1, by rw [IntKind.wrap_i64]; omega⟩

theorem mul_nat {a b q : Nat} (h : q = a * b) (hb : q ≤ 1099511627776) : wrap64 ((a : Int) * (b : Int)) = (q : Int) ∧ IntKind.i64.wrap ((a : Int) * (b : Int)) = (q : Int) := by
  rw [← Int.natCast_mul, ← h]
  exact wrap_nat hb

theorem add_nat {a b q : Nat} (h : q = a + b) (hb : q ≤ 1099511627776) : wrap64 ((a : Int) + (b : Int)) = (q : Int) ∧ IntKind.i64.wrap ((a : Int) + (b : Int)) = (q : Int) := by
  rw [← Int.natCast_add, ← h]
  exact wrap_nat hb

theorem nat_in {z : Nat} (h : z ≤ 1099511627776) : InI64 (z : Int) := by unfold InI64; omega

theorem nat_ints {l : List Nat} (h : ∀ x ∈ l, x ≤ 1000000) : ∀ x ∈ l.map Int.ofNat, InI64 x := fun x hx => by
  obtain ⟨y, hy, rfl⟩ := List.mem_map.1 hx
  have := h y hy
  unfold InI64; simp only [Int.ofNat_eq_natCast]; omega

theorem accA_ac1 {k : Nat} (hs : k < A.acc.length) : accA A (k : Int) = ac A k := by
  unfold accA ac inA
  simp only [Int.toNat_natCast]
  rw [show (decide ((0 : Int) ≤ (k : Int)) && decide ((k : Int) < (A.acc.length : Int))) = true by simp; exact hs]
  rfl

theorem own_ne {e e' : TypeId} {z z' n n' B' : Nat} {v v' : Value} {xs xs' : List Value} (h : w.ownsRow B e z v n xs) (h' : w.ownsRow B' e' z' v' n' xs') (hne : e ≠ e') : ∀ b, v.ownBlock = some b → v'.ownBlock ≠ some b := fun b hb hb' => by
  obtain ⟨_, c, h1⟩ := ownsRow_block h hb
  obtain ⟨_, c', h2⟩ := ownsRow_block h' hb'
  rw [h1] at h2
  simp only [Option.some.injEq, Obj.cells.injEq] at h2
  exact hne h2.2.1

theorem own_ne_blk {e t : TypeId} {z n x : Nat} {v : Value} {xs : List Value} {cs : Array Value} (h : w.ownsRow B e z v n xs) (hx : w.heap[x]? = some (.cells cs t (0, 0))) (hne : e ≠ t) : v.ownBlock ≠ some x := fun hb => by
  obtain ⟨_, c, h1⟩ := ownsRow_block h hb
  rw [hx] at h1
  simp only [Option.some.injEq, Obj.cells.injEq] at h1
  exact hne h1.2.1.symm

theorem MnSt.cellKeep {w5 : World} {i : Nat} {y : Value} {e : TypeId} {z n : Nat} {v : Value} {xs : List Value} (ho : w5.ownsRow B e z v n xs) (hx : v.ownBlock ≠ some x) : (w5.setCell ⟨x, i, none⟩ y).ownsRow B e z v n xs :=
  ownsRow_keep ho ((Keeps.refl (· ≠ x) w5).setCell (fun hh => hh.2 rfl) _) fun b hb => by rintro rfl; exact hx hb

def keyS (A : Au) (s : Nat) : Nat := (stab A).getD s 0

def keysL (A : Au) (l : List Nat) : List Int := l.map fun s => (keyS A s : Int)

theorem keysL_eq (A : Au) (l : List Nat) : keysL A l = (l.map (keyS A)).map Int.ofNat := by simp [keysL]

theorem keysL_snoc (A : Au) (l : List Nat) (t : Nat) : keysL A (l ++ [t]) = keysL A l ++ [(keyS A t : Int)] := by simp [keysL]

theorem keysL_len (A : Au) (l : List Nat) : (keysL A l).length = l.length := by simp [keysL]

theorem mem_keysL {l : List Nat} {t : Nat} : ((keyS A t : Nat) : Int) ∈ keysL A l ↔ keyS A t ∈ l.map (keyS A) := by
  rw [keysL_eq, List.mem_map]
  constructor
  · rintro ⟨y, hy, e⟩; rwa [show keyS A t = y by simp only [Int.ofNat_eq_natCast] at e; omega]
  · intro h; exact ⟨_, h, rfl⟩

theorem idx_keysL {l : List Nat} {t : Nat} : (keysL A l).idxOf ((keyS A t : Nat) : Int) = (l.map (keyS A)).idxOf (keyS A t) := by
  rw [keysL_eq]
  exact idxOf_map Int.ofNat fun y _ e => by simp only [Int.ofNat_eq_natCast] at e; omega

theorem rowRun_take (l : List Nat) (ts : List Nat) (j : Nat) : (rowRun (keyS A) l (ts.take j)).1 <+: (rowRun (keyS A) l ts).1 := by
  conv => rhs; rw [← List.take_append_drop j ts]
  unfold rowRun
  rw [List.foldl_append]
  exact fold_pre _ _ _

theorem bfs_key (A : Au) (k : Nat) : bfs (rowN A) (keyS A) 0 k = bfs (rowN A) (fun s => (stab A).getD s 0) 0 k := rfl

theorem bfs_next {k s : Nat} {l : List Nat} {outs : List (List Nat)} (hb : bfs (rowN A) (keyS A) 0 k = (l, outs)) (ho : outs.length = k) (hs : l[k]? = some s) :
    bfs (rowN A) (keyS A) 0 (k + 1) = ((rowRun (keyS A) l (rowN A s)).1, outs ++ [(rowRun (keyS A) l (rowN A s)).2]) := by
  show bfsStep (rowN A) (keyS A) (bfs (rowN A) (keyS A) 0 k) = _
  rw [hb]
  unfold bfsStep
  simp only [ho, hs]

theorem rowRun_yes {l ts : List Nat} {t : Nat} (h : keyS A t ∈ (rowRun (keyS A) l ts).1.map (keyS A)) : rowRun (keyS A) l (ts ++ [t]) = ((rowRun (keyS A) l ts).1, (rowRun (keyS A) l ts).2 ++ [((rowRun (keyS A) l ts).1.map (keyS A)).idxOf (keyS A t)]) := by
  rw [rowRun_snoc]; unfold rowStep; rw [if_pos h]

theorem rowRun_no {l ts : List Nat} {t : Nat} (h : keyS A t ∉ (rowRun (keyS A) l ts).1.map (keyS A)) : rowRun (keyS A) l (ts ++ [t]) = ((rowRun (keyS A) l ts).1 ++ [t], (rowRun (keyS A) l ts).2 ++ [(rowRun (keyS A) l ts).1.length]) := by
  rw [rowRun_snoc]; unfold rowStep; rw [if_neg h, List.idxOf_eq_length h, List.length_map]

theorem stab_len (A : Au) : (stab A).length = A.acc.length := clsK_length A _

end Go.Proofs.Ytohhjdadhdibfaa
