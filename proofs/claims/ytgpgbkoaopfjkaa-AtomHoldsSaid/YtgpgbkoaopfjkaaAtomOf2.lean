/- The walk of atom.Of: the building of the automaton, letter by letter. -/
import Derived.Test.YtgpgbkoaopfjkaaAtomOf1
import Derived.Test.YtgpgbkoaopfjkaaCoreIs
import Derived.Test.YtgpgbkoaopfjkaaMin5
import Derived.Test.YtgpgbkoaopfjkaaPkB
namespace Go.Proofs.Ytgpgbkoaopfjkaa
open Go.RowKit

attribute [local irreducible] wpQuiet wpPlan wpPlanZ wpUp

variable {R : Ending → World → Prop} {w : World} {B x : Nat} {T : Int} {u vn : Value} {acc : List Bool} {rows : List (List Int)}

theorem next_le {o : AOp} {N s t : Nat} {a b c : Bool} (hs : s < lastO o N + 1) (h : nextO o N s a b c = some t) : t ≤ lastO o N := by
  cases o <;> simp only [nextO, lastO] at h hs ⊢ <;> (repeat' split at h) <;> simp at h <;> omega

theorem nxO_lt (o : AOp) (N A B C s l : Nat) : nxO o N A B C s l < lastO o N + 2 := by
  unfold nxO
  split
  · rename_i hs
    cases h : nextO o N s (l.testBit A) (l.testBit B) (l.testBit C) with
    | none => simp
    | some t => have := next_le hs h; simp; omega
  · omega

theorem last_le (o : AOp) {N : Nat} (hN : N ≤ 20) : lastO o N ≤ 21 := by cases o <;> simp only [lastO] <;> omega

theorem machAu_ok {o : AOp} {N A B C n : Nat} (hN : N ≤ 20) (hn : n ≤ 6) : AuOk (machAu o N A B C n) := by
  have := last_le o hN
  refine ⟨⟨by simp [machAu], by simp [machAu]; omega, by simp [machAu], by simp [machAu]; omega, by simp [machAu]⟩, fun l hl => ?_⟩
  obtain ⟨s, hs, rfl⟩ := List.mem_map.1 hl
  refine ⟨by simp [machAu], fun y hy => ?_⟩
  obtain ⟨l, _, rfl⟩ := List.mem_map.1 hy
  have := nxO_lt o N A B C s l
  simp [machAu]; omega

/-- A flag more. -/
theorem ToIn.stepA {w' : World} {u' : Value} {acc' : List Bool} (h : ToIn w B x T u vn acc rows) (k : Keeps (fun b => u.ownBlock ≠ some b) w w') (ha : OwnBools w' B u' acc') : ToIn (w'.setCell ⟨x, 1, none⟩ u') B x T u' vn acc' rows := by
  have hx : u.ownBlock ≠ some x := fun e => by
    obtain ⟨_, cur, hc⟩ := ownsRow_block h.acc e
    rw [h.blk] at hc
    simp at hc
  have hb := k.at h.blk hx
  have ks : Keeps (· ≠ x) w' (w'.setCell ⟨x, 1, none⟩ u') := (Keeps.refl (· ≠ x) w').setCell (fun hh => hh.2 rfl) _
  have hm : OwnMat w' B vn rows := h.mat.keepT k fun b cur e hc he hB hu => by
    obtain ⟨_, c2, h4⟩ := ownsRow_block h.acc hu
    rw [hc] at h4
    simp only [Option.some.injEq, Obj.cells.injEq] at h4
    obtain ⟨_, rfl, _⟩ := h4
    rcases he with he | he <;> exact absurd he (by decide)
  refine ⟨by rw [heap_setCell_at hb]; simp, h.low, ownsRow_keep ha ks fun b hb2 => ?_, hm.keepT ks fun b cur e hc he _ => ?_⟩
  · rintro rfl
    obtain ⟨_, c1, h1⟩ := ownsRow_block ha hb2
    rw [hb] at h1; simp at h1
  · rintro rfl
    rw [hb] at hc
    simp only [Option.some.injEq, Obj.cells.injEq] at hc
    obtain ⟨_, rfl, _⟩ := hc
    rcases he with he | he <;> exact absurd he (by decide)

/-- The struct as a value reads as an automaton. -/
theorem ToIn.auto {A : Au} (h : ToIn w B x T u vn acc rows) (hT : A.T = T) (ha : A.acc = acc) (hr : A.next = rows) (hb : InI64 T) (hi : ∀ l ∈ rows, ∀ y ∈ l, InI64 y) : AutoAt w (.agg #[.int .i64 T, u, vn]) A := by
  subst hT; subst ha; subst hr
  exact ⟨u, vn, rfl, h.acc.bools, h.mat.rows hi, hb⟩

set_option maxHeartbeats 1000000 in
theorem bitFn {p l v : Nat} (hp : w.cell? ⟨p, 0, none⟩ = some (.int .i64 (l : Int))) (hl : l < 64) (hv : v ≤ 6) (hR : ∀ e w', e = .returned (.bool (l.testBit v)) → Same w w' → R e w') :
    Calls Try.prog 22 #[.int .i64 (v : Int), .pointer (some ⟨p, 0, none⟩)] w R := by
  have HR := hide hR
  clear hR
  have hbt := bit_test l v (by omega)
  go_enter Try.func22, Try.ntmps22
  go_wp2_with fail
  exact HR.out _ _ rfl (Keeps.refl _ _)

theorem callFunc_bit (args : Array Value) (w : World) : (callFunc 22 args).run Try.prog w = .ok (.enter 22 args) w := by kernel_rfl

end Go.Proofs.Ytgpgbkoaopfjkaa
