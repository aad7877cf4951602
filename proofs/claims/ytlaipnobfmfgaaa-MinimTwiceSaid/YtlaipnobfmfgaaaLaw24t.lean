/- The walk of sibyllaw24.MinimTwice. -/
import Derived.Test.YtlaipnobfmfgaaaLaw24
import Derived.Test.YtlaipnobfmfgaaaEq
import Derived.Test.YtlaipnobfmfgaaaRefSame24
import Derived.Test.YtlaipnobfmfgaaaTwice
namespace Go.Proofs.Ytlaipnobfmfgaaa
open Go.RowKit

attribute [local irreducible] wpQuiet wpPlan wpPlanZ wpUp

variable {R : Ending → World → Prop} {w : World} {A : Au}

theorem appendB {B : Nat} {v u : Value} {l m : List Bool} (hown : OwnBools w B v l) (hu : BoolsAt w u m) (hB : B ≤ w.heap.size) (hn : l.length + m.length ≤ 1000) :
    ∃ ub uc w', (Builtin.append_ #[22, 22] 22 #[v, u]).run Try.prog w = .ok (.slice ub (l ++ m).length uc) w' ∧ OwnBools w' B (.slice ub (l ++ m).length uc) (l ++ m) ∧ Keeps (fun b => v.ownBlock ≠ some b) w w' ∧ Keeps (· < B) w w' := by
  obtain ⟨v', w', hr, ho, hk, _⟩ := append_slice (t := 22) (l := l.map Value.bool) (m := m.map Value.bool) Try.underlying22 bool_info rfl (by decide) (by rw [List.length_map]; exact hown) hu (by intro x hx; obtain ⟨y, _, rfl⟩ := List.mem_map.1 hx; rfl) hB (by simp; omega)
  have ho2 : OwnBools w' B v' (l ++ m) := by unfold OwnBools; simpa using ho
  obtain ⟨ub, uc, rfl⟩ := ownsRow_shape ho2
  exact ⟨ub, uc, w', hr, ho2, hk, hk.mono fun x _ hx e => by have := (ownsRow_block hown e).1; omega⟩

/-- What follows, once for all orders. -/
theorem cut6 {K0 : Act → World → Prop} {P : Nat → Option Addr → Nat → Nat → Option Addr → Nat → World → Prop} (F : Nat → Option Addr → Nat → Nat → Option Addr → Nat → Act) {G : Prop} (h : (∀ x ub uc g ub2 uc2 wx, P x ub uc g ub2 uc2 wx → K0 (F x ub uc g ub2 uc2) wx) → G) (c : ∀ x ub uc g ub2 uc2 wx, P x ub uc g ub2 uc2 wx → K0 (F x ub uc g ub2 uc2) wx) : G := h c

set_option maxRecDepth 10000 in
set_option maxHeartbeats 8000000 in
theorem minimTwiceWalk (va : Value) (A : Au) (vt : Value) (turn : List Bool) (w : World) (hA : AutoAt w va A) (ht : BoolsAt w vt turn) :
    Calls Try.prog 6 #[va, vt] w fun e w' => e = .returned (.bool true) ∧ Below w.heap.size w w' := by
  refine law_of fun R HR => ?_
  have HA := hide hA
  have HT := hide ht
  obtain ⟨xa, xn, rfl, hacc, hnext, _⟩ := hA
  have HACC := hide hacc
  have HROWS := hide hnext
  obtain ⟨aa, ac', rfl, _, hac2, _⟩ := hacc.open
  obtain ⟨na, nc, rfl, _⟩ := hnext.open
  obtain ⟨ta, tc, rfl, ht1, ht2, htcell⟩ := ht.open
  have HTC := hide htcell
  unfold maxLen at hac2 ht2
  have hA1 := heap_new w (.cells #[.int .i64 A.T, .slice aa A.acc.length ac', .slice na A.next.length nc] 25)
  have kA : Same w (w.alloc (.cells #[.int .i64 A.T, .slice aa A.acc.length ac', .slice na A.next.length nc] 25)) := (Keeps.refl _ w).alloc _
  clear ht htcell
  go_enter Try.func6, Try.ntmps6
  have q0 := cell_at hA1 0; have q1 := cell_at hA1 1; have q2 := cell_at hA1 2; simp only [List.getElem?_toArray, List.getElem?_cons_zero, List.getElem?_cons_succ] at q0 q1 q2
  go_wp2_with fail
  generalize w.alloc (.cells #[.int .i64 A.T, .slice aa A.acc.length ac', .slice na A.next.length nc] 25) = wb at hA1 kA q0 q1 q2 ⊢
  have BXA := hide hA1
  have HKB := hide kA
  clear hA1 kA hacc hnext
  refine may24 (HA.out.same HKB.out) ?_; rintro e w1 rfl k1
  have hS := k1.at BXA.out trivial
  have HK1 := hide (HKB.out.tr k1)
  clear q0 q1 q2
  have q0 := cell_at hS 0; have q1 := cell_at hS 1; have q2 := cell_at hS 2; simp only [List.getElem?_toArray, List.getElem?_cons_zero, List.getElem?_cons_succ] at q0 q1 q2
  have BX1 := hide hS
  clear hS k1
  cases hmA : mayB A with
  | false =>
    go_wp2_with fail
    exact HR.out _ _ rfl (HK1.out.mono fun _ _ _ => trivial)
  | true =>
  have HOK := hide (show AuOk A by unfold mayB at hmA; exact (of_decide_eq_true hmA).2.2)
  clear hmA
  by_cases h20 : A.acc.length ≤ 20
  case neg =>
    have h21 : 20 < A.acc.length := by omega
    clear h20
    go_wp2_with fail
    exact HR.out _ _ rfl (HK1.out.mono fun _ _ _ => trivial)
  obtain ⟨D, hD⟩ : ∃ D, D = A.acc ++ A.acc := ⟨_, rfl⟩
  have HD := hide hD
  have hDl : D.length = 2 * A.acc.length := by rw [hD]; simp; omega
  have HDL := hide hDl
  clear hD hDl
  go_wp2_with fail
  rename_i K0 hK0
  have kd : Same w1 w1.drew := Keeps.drew (Keeps.refl (fun _ => True) w1)
  refine wp_region_planz 11 (.take 0 (.take 1 (.take 3 (.take 4 (.take 6 (.take 7 (.two 2 10 (.two 5 10 (.two 8 10 (.take 9 (.one 10 .last)) (.one 8 (.take 9 .last))) (.one 5 (.one 8 (.take 9 .last)))) (.one 2 (.one 5 (.one 8 (.take 9 .last)))))))))))  (Same w1) (by kernel_rfl) (by kernel_rfl) kd ?_
  iterate 6
    (first
       | (apply pz_pass
          case ho => rfl
          case hw => rfl
          go_simp)
       | (apply pz_take
          case ho => rfl
          case hw => rfl
          case hv =>
            intro w' hS
            (have z0 := Keeps.cell hS q0 trivial; have z1 := Keeps.cell hS q1 trivial)
            go_simp
            exact rfl
          go_simp))
  obtain ⟨B0, hB0⟩ : ∃ B0, B0 = w1.heap.size := ⟨_, rfl⟩
  have HB0 := hide hB0
  apply cut6 (K0 := K0) (P := fun x _ _ _ ub2 uc2 wx => ToIn wx B0 x A.T (.slice ub2 D.length uc2) (.slice none 0 0) D [] ∧ Same w1 wx)
  case h =>
    intro CONT
    have CONT := hide CONT
    refine pz_two ?_ ?_
    · refine up_do rfl rfl fun K hK1 => ?_
      go_simp
      have ho1 : OwnBools ((w1.alloc (.cells #[] 4)).drew) B0 (.slice (some ⟨w1.heap.size, 0, none⟩) 0 0) [] := ownsRow_keep (own_nil w1 4 (by rw [hB0]; exact Nat.le_refl _)) (Keeps.drew (Keeps.refl (fun _ => True) _)) fun _ _ => trivial
      have k1 : Same w1 (w1.alloc (.cells #[] 4)).drew := ((Keeps.refl _ w1).alloc _).drew
      generalize (w1.alloc (.cells #[] 4)).drew = v1 at ho1 k1 ⊢
      refine hK1 (Same w1) _ _ k1 (fun _ h => h) ?_
      clear hK1 K
      refine pz_two ?_ ?_
      · obtain ⟨ub, uc, v2, hr, ho2, kk2, kb2⟩ := appendB ho1 (HACC.out.same (HK1.out.tr k1)) (by rw [hB0]; exact k1.size) (by first | omega | (simp; omega))
        have k2 : Same w1 v2 := k1.trans kb2 fun y hy _ => ⟨trivial, by rw [hB0]; exact hy⟩
        rw [List.nil_append] at hr ho2
        refine up_append _ _ _ rfl rfl rfl ?hs ?hx hr (Same w1) k2 (fun _ h => h) ?_
        case hs => rfl
        case hx => rfl
        clear hr kb2
        go_simp
        refine pz_two ?_ ?_
        · obtain ⟨ub2, uc2, v3, hr, ho3, kk3, kb3⟩ := appendB ho2 (HACC.out.same (HK1.out.tr k2)) (by rw [hB0]; exact k2.size) (by first | omega | (simp; omega))
          have k3 : Same w1 v3 := k2.trans kb3 fun y hy _ => ⟨trivial, by rw [hB0]; exact hy⟩
          rw [← HD.out] at hr ho3
          refine up_append _ _ _ rfl rfl rfl ?hs ?hx hr (Same w1) k3 (fun _ h => h) ?_
          case hs => rfl
          case hx => rfl
          clear hr kb3
          go_simp
          iterate 1
            (first
               | (apply pz_pass
                  case ho => rfl
                  case hw => rfl
                  go_simp)
               | (apply pz_take
                  case ho => rfl
                  case hw => rfl
                  case hv =>
                    intro w' hS
                    (skip)
                    go_simp
                    exact rfl
                  go_simp))
          refine pz_one (up_do rfl rfl fun K hK1 => ?_)
          go_simp
          refine hK1 (Same w1) _ _ (k3.alloc _) (fun _ h => h) ?_
          clear hK1 K
          refine pz_last rfl rfl fun K hK => ?_
          go_simp
          have hto : ToIn (v3.alloc (.cells #[.int .i64 A.T, .slice ub2 D.length uc2, .slice none 0 0] 25)) B0 v3.heap.size A.T (.slice ub2 D.length uc2) (.slice none 0 0) D [] :=
            ⟨heap_new _ _, by rw [hB0]; exact k3.size, ownsRow_keep ho3 ((Keeps.refl (fun _ => True) v3).alloc _) fun _ _ => trivial, OwnMat.nil _ _⟩
          have hks := k3.alloc (.cells #[.int .i64 A.T, .slice ub2 D.length uc2, .slice none 0 0] 25)
          generalize v3.alloc (.cells #[.int .i64 A.T, .slice ub2 D.length uc2, .slice none 0 0] 25) = wz at hto hks ⊢
          generalize v3.heap.size = x at hto ⊢
          generalize w1.heap.size = g
          exact hK _ _ (np_normal (show K0 _ _ from CONT.out x ub uc g ub2 uc2 _ ⟨hto, hks⟩))
        · refine up_do rfl rfl fun K hK1 => ?_
          go_simp
          have hx3 := heap_new v2 (.cells #[.int .i64 0, .slice none 0 0, .slice none 0 0] 25)
          have k3 := k2.alloc (.cells #[.int .i64 0, .slice none 0 0, .slice none 0 0] 25)
          have hl3 : B0 ≤ v2.heap.size := by rw [hB0]; exact k2.size
          have ho3 := ownsRow_keep ho2 ((Keeps.refl (fun _ => True) v2).alloc (.cells #[.int .i64 0, .slice none 0 0, .slice none 0 0] 25)) fun _ _ => trivial
          generalize v2.alloc (.cells #[.int .i64 0, .slice none 0 0, .slice none 0 0] 25) = v3 at hx3 k3 ho3 ⊢
          generalize v2.heap.size = x at hx3 hl3 ⊢
          refine hK1 (Same w1) _ _ k3 (fun _ h => h) ?_
          clear hK1 K
          obtain ⟨ub2, uc2, v4, hr, ho4, kk4, kb4⟩ := appendB ho3 (HACC.out.same (HK1.out.tr k3)) (by rw [hB0]; exact k3.size) (by first | omega | (simp; omega))
          have k4 : Same w1 v4 := k3.trans kb4 fun y hy _ => ⟨trivial, by rw [hB0]; exact hy⟩
          have hx4 := kk4.at hx3 (own_ne_blk ho3 hx3 (by decide))
          rw [← HD.out] at hr ho4
          refine pz_one (up_append _ _ _ rfl rfl rfl ?hs ?hx hr (Same w1) k4 (fun _ h => h) ?_)
          case hs => rfl
          case hx => rfl
          clear hr kb4
          go_simp
          iterate 1
            (first
               | (apply pz_pass
                  case ho => rfl
                  case hw => rfl
                  go_simp)
               | (apply pz_take
                  case ho => rfl
                  case hw => rfl
                  case hv =>
                    intro w' hS
                    (skip)
                    go_simp
                    exact rfl
                  go_simp))
          have z0 : v4.cell? ⟨x, 0, none⟩ = some (.int .i64 0) := cell_at hx4 0
          have z1 : v4.cell? ⟨x, 1, none⟩ = some (.slice none 0 0) := cell_at hx4 1
          have z2 : v4.cell? ⟨x, 2, none⟩ = some (.slice none 0 0) := cell_at hx4 2
          have f0 := free_at hx4 0
          have f1 := free_at hx4 1
          have f2 := free_at hx4 2
          refine pz_last rfl rfl fun K hK => ?_
          go_simp
          have hto := ToIn.store (T := A.T) hx4 (B := B0) hl3 ho4
          have hlt2 : w1.heap.size ≤ x := by first | exact Nat.le_refl _ | (rw [← hB0]; exact hl3)
          have hks : Same w1 (((v4.setCell ⟨x, 0, none⟩ (.int .i64 A.T)).setCell ⟨x, 1, none⟩ (.slice ub2 D.length uc2)).setCell ⟨x, 2, none⟩ (.slice none 0 0)) :=
            ((k4.setCell (fun hh => Nat.lt_irrefl _ (Nat.lt_of_lt_of_le hh.1 hlt2)) _).setCell (fun hh => Nat.lt_irrefl _ (Nat.lt_of_lt_of_le hh.1 hlt2)) _).setCell (fun hh => Nat.lt_irrefl _ (Nat.lt_of_lt_of_le hh.1 hlt2)) _
          generalize w1.heap.size = g
          exact hK _ _ (np_normal (show K0 _ _ from CONT.out x ub uc g ub2 uc2 _ ⟨hto, hks⟩))
      · refine up_do rfl rfl fun K hK1 => ?_
        go_simp
        have hx2 := heap_new v1 (.cells #[.int .i64 0, .slice none 0 0, .slice none 0 0] 25)
        have k2 := k1.alloc (.cells #[.int .i64 0, .slice none 0 0, .slice none 0 0] 25)
        have hl2 : B0 ≤ v1.heap.size := by rw [hB0]; exact k1.size
        have ho2 := ownsRow_keep ho1 ((Keeps.refl (fun _ => True) v1).alloc (.cells #[.int .i64 0, .slice none 0 0, .slice none 0 0] 25)) fun _ _ => trivial
        generalize v1.alloc (.cells #[.int .i64 0, .slice none 0 0, .slice none 0 0] 25) = v2 at hx2 k2 ho2 ⊢
        generalize v1.heap.size = x at hx2 hl2 ⊢
        refine hK1 (Same w1) _ _ k2 (fun _ h => h) ?_
        clear hK1 K
        obtain ⟨ub, uc, v3, hr, ho3, kk3, kb3⟩ := appendB ho2 (HACC.out.same (HK1.out.tr k2)) (by rw [hB0]; exact k2.size) (by first | omega | (simp; omega))
        have k3 : Same w1 v3 := k2.trans kb3 fun y hy _ => ⟨trivial, by rw [hB0]; exact hy⟩
        have hx3 := kk3.at hx2 (own_ne_blk ho2 hx2 (by decide))
        rw [List.nil_append] at hr ho3
        refine pz_one (up_append _ _ _ rfl rfl rfl ?hs ?hx hr (Same w1) k3 (fun _ h => h) ?_)
        case hs => rfl
        case hx => rfl
        clear hr kb3
        go_simp
        obtain ⟨ub2, uc2, v4, hr, ho4, kk4, kb4⟩ := appendB ho3 (HACC.out.same (HK1.out.tr k3)) (by rw [hB0]; exact k3.size) (by first | omega | (simp; omega))
        have k4 : Same w1 v4 := k3.trans kb4 fun y hy _ => ⟨trivial, by rw [hB0]; exact hy⟩
        have hx4 := kk4.at hx3 (own_ne_blk ho3 hx3 (by decide))
        rw [← HD.out] at hr ho4
        refine pz_one (up_append _ _ _ rfl rfl rfl ?hs ?hx hr (Same w1) k4 (fun _ h => h) ?_)
        case hs => rfl
        case hx => rfl
        clear hr kb4
        go_simp
        iterate 1
          (first
             | (apply pz_pass
                case ho => rfl
                case hw => rfl
                go_simp)
             | (apply pz_take
                case ho => rfl
                case hw => rfl
                case hv =>
                  intro w' hS
                  (skip)
                  go_simp
                  exact rfl
                go_simp))
        have z0 : v4.cell? ⟨x, 0, none⟩ = some (.int .i64 0) := cell_at hx4 0
        have z1 : v4.cell? ⟨x, 1, none⟩ = some (.slice none 0 0) := cell_at hx4 1
        have z2 : v4.cell? ⟨x, 2, none⟩ = some (.slice none 0 0) := cell_at hx4 2
        have f0 := free_at hx4 0
        have f1 := free_at hx4 1
        have f2 := free_at hx4 2
        refine pz_last rfl rfl fun K hK => ?_
        go_simp
        have hto := ToIn.store (T := A.T) hx4 (B := B0) hl2 ho4
        have hlt2 : w1.heap.size ≤ x := by first | exact Nat.le_refl _ | (rw [← hB0]; exact hl2)
        have hks : Same w1 (((v4.setCell ⟨x, 0, none⟩ (.int .i64 A.T)).setCell ⟨x, 1, none⟩ (.slice ub2 D.length uc2)).setCell ⟨x, 2, none⟩ (.slice none 0 0)) :=
          ((k4.setCell (fun hh => Nat.lt_irrefl _ (Nat.lt_of_lt_of_le hh.1 hlt2)) _).setCell (fun hh => Nat.lt_irrefl _ (Nat.lt_of_lt_of_le hh.1 hlt2)) _).setCell (fun hh => Nat.lt_irrefl _ (Nat.lt_of_lt_of_le hh.1 hlt2)) _
        generalize w1.heap.size = g
        exact hK _ _ (np_normal (show K0 _ _ from CONT.out x ub uc g ub2 uc2 _ ⟨hto, hks⟩))
    · refine up_do rfl rfl fun K hK1 => ?_
      go_simp
      have hx1 : ((w1.alloc (.cells #[.int .i64 0, .slice none 0 0, .slice none 0 0] 25)).drew).heap[w1.heap.size]? = some (.cells #[.int .i64 0, .slice none 0 0, .slice none 0 0] 25 (0, 0)) := heap_new w1 _
      have k1 : Same w1 (w1.alloc (.cells #[.int .i64 0, .slice none 0 0, .slice none 0 0] 25)).drew := ((Keeps.refl _ w1).alloc _).drew
      have hl1 : B0 ≤ w1.heap.size := by rw [hB0]; exact Nat.le_refl _
      generalize (w1.alloc (.cells #[.int .i64 0, .slice none 0 0, .slice none 0 0] 25)).drew = v1 at hx1 k1 ⊢
      refine hK1 (Same w1) _ _ k1 (fun _ h => h) ?_
      clear hK1 K
      refine pz_one (up_do rfl rfl fun K hK1 => ?_)
      go_simp
      have ho2 : OwnBools (v1.alloc (.cells #[] 4)) B0 (.slice (some ⟨v1.heap.size, 0, none⟩) 0 0) [] := own_nil v1 4 (by rw [hB0]; exact k1.size)
      have k2 := k1.alloc (.cells #[] 4)
      have hx2 := heap_old hx1 (.cells #[] 4)
      generalize v1.alloc (.cells #[] 4) = v2 at ho2 k2 hx2 ⊢
      generalize v1.heap.size = g at ho2 ⊢
      refine hK1 (Same w1) _ _ k2 (fun _ h => h) ?_
      clear hK1 K
      obtain ⟨ub, uc, v3, hr, ho3, kk3, kb3⟩ := appendB ho2 (HACC.out.same (HK1.out.tr k2)) (by rw [hB0]; exact k2.size) (by first | omega | (simp; omega))
      have k3 : Same w1 v3 := k2.trans kb3 fun y hy _ => ⟨trivial, by rw [hB0]; exact hy⟩
      have hx3 := kk3.at hx2 (own_ne_blk ho2 hx2 (by decide))
      rw [List.nil_append] at hr ho3
      refine pz_one (up_append _ _ _ rfl rfl rfl ?hs ?hx hr (Same w1) k3 (fun _ h => h) ?_)
      case hs => rfl
      case hx => rfl
      clear hr kb3
      go_simp
      obtain ⟨ub2, uc2, v4, hr, ho4, kk4, kb4⟩ := appendB ho3 (HACC.out.same (HK1.out.tr k3)) (by rw [hB0]; exact k3.size) (by first | omega | (simp; omega))
      have k4 : Same w1 v4 := k3.trans kb4 fun y hy _ => ⟨trivial, by rw [hB0]; exact hy⟩
      have hx4 := kk4.at hx3 (own_ne_blk ho3 hx3 (by decide))
      rw [← HD.out] at hr ho4
      refine pz_one (up_append _ _ _ rfl rfl rfl ?hs ?hx hr (Same w1) k4 (fun _ h => h) ?_)
      case hs => rfl
      case hx => rfl
      clear hr kb4
      go_simp
      iterate 1
        (first
           | (apply pz_pass
              case ho => rfl
              case hw => rfl
              go_simp)
           | (apply pz_take
              case ho => rfl
              case hw => rfl
              case hv =>
                intro w' hS
                (skip)
                go_simp
                exact rfl
              go_simp))
      have z0 : v4.cell? ⟨w1.heap.size, 0, none⟩ = some (.int .i64 0) := cell_at hx4 0
      have z1 : v4.cell? ⟨w1.heap.size, 1, none⟩ = some (.slice none 0 0) := cell_at hx4 1
      have z2 : v4.cell? ⟨w1.heap.size, 2, none⟩ = some (.slice none 0 0) := cell_at hx4 2
      have f0 := free_at hx4 0
      have f1 := free_at hx4 1
      have f2 := free_at hx4 2
      refine pz_last rfl rfl fun K hK => ?_
      go_simp
      have hto := ToIn.store (T := A.T) hx4 (B := B0) hl1 ho4
      have hlt2 : w1.heap.size ≤ w1.heap.size := by first | exact Nat.le_refl _ | (rw [← hB0]; exact hl1)
      have hks : Same w1 (((v4.setCell ⟨w1.heap.size, 0, none⟩ (.int .i64 A.T)).setCell ⟨w1.heap.size, 1, none⟩ (.slice ub2 D.length uc2)).setCell ⟨w1.heap.size, 2, none⟩ (.slice none 0 0)) :=
        ((k4.setCell (fun hh => Nat.lt_irrefl _ (Nat.lt_of_lt_of_le hh.1 hlt2)) _).setCell (fun hh => Nat.lt_irrefl _ (Nat.lt_of_lt_of_le hh.1 hlt2)) _).setCell (fun hh => Nat.lt_irrefl _ (Nat.lt_of_lt_of_le hh.1 hlt2)) _
      generalize w1.heap.size = x at hto hks ⊢
      exact hK _ _ (np_normal (show K0 _ _ from CONT.out x ub uc g ub2 uc2 _ ⟨hto, hks⟩))
  case c =>
    intro x ub uc g ub2 uc2 wx hP
    obtain ⟨hto, hks⟩ := hP
    have HTO := hide hto
    have HKS := hide hks
    clear hto hks q0 q1 q2 kd hB0
    obtain ⟨p, hp⟩ : ∃ p, p = 2 ^ A.T.toNat := ⟨_, rfl⟩
    have hp64 : p ≤ 64 := by rw [hp]; exact two_le (by have := HOK.out.1.1; have := HOK.out.1.2.1; omega)
    have HP := hide hp
    have h1n : 0 < A.acc.length := HOK.out.1.2.2.1
    have HNL := hide HOK.out.1.2.2.2.2
    have HQ2 : Hid (w1.cell? ⟨w.heap.size, 2, none⟩ = some (.slice na A.next.length nc)) := hide (cell_at BX1.out 2)
    clear hp
    go_wp2_with fail
    go_loopw [7, 8] (fun kv iv wr => ∃ (i kk : Nat) (vn : Value), kv = .int .i64 kk ∧ iv = .int .i64 i ∧ i ≤ 2 * A.acc.length ∧ kk ≤ 2560 ∧ Hid (kk = i * p) ∧ Hid (ToIn wr B0 x A.T (.slice ub2 D.length uc2) vn D (dblN A (turnF turn) i)) ∧ Same w1 wr) (fun _ iv _ => 2 * A.acc.length - (intOf iv).toNat)
    case atStart => exact ⟨0, 0, _, rfl, rfl, Nat.zero_le _, Nat.zero_le _, hide (Nat.zero_mul _).symm, HTO, HKS.out⟩
    case round =>
      obtain ⟨i, kk, vn, rfl, rfl, hi, hkk, hke, hto, hK⟩ := hrel
      by_cases hlt : i < 2 * A.acc.length
      · have him : i % A.acc.length < A.acc.length := Nat.mod_lt _ h1n
        have himn : i % A.acc.length < A.next.length := by rw [HNL.out]; exact him
        have hmod : Int.tmod (i : Int) (A.acc.length : Int) = ((i % A.acc.length : Nat) : Int) := rfl
        have hnz : ¬ (A.acc = []) := fun e => by rw [e] at h1n; exact absurd h1n (by decide)
        have HMI := hide (show A.next.getD (i % A.acc.length) [] = A.next[i % A.acc.length] by simp [List.getD, List.getElem?_eq_getElem himn])
        obtain ⟨_, _, e2, _, hv2, hncl⟩ := HROWS.out.open
        simp only [Value.slice.injEq, true_and] at e2
        obtain ⟨rfl, rfl⟩ := e2
        unfold maxLen at hv2
        obtain ⟨nb, noff, rfl, _, hnc⟩ := hncl _ himn
        obtain ⟨ru, hru, hri⟩ := hnc _ himn
        have hro := HOK.out.2 _ (List.getElem_mem himn)
        unfold RowOk at hro
        rw [← HP.out] at hro
        have HDN := dblN_succ A (turnF turn) i
        rw [← HP.out, HMI.out, ← hke.out] at HDN
        have HDN := hide HDN
        have hKK : Hid (kk + p ≤ 2560) := hide (by
          rw [hke.out, ← Nat.succ_mul]
          exact Nat.le_trans (Nat.mul_le_mul (show i.succ ≤ 40 by omega) hp64) (by decide))
        have HKE := hide (show (i + 1) * p = kk + p by rw [Nat.succ_mul, ← hke.out])
        generalize A.next[i % A.acc.length] = row at hri hro HDN
        obtain ⟨ra, rc, rfl, _, hr2, hrcl⟩ := hri.open
        unfold maxLen at hr2
        have HRU : Hid (w1.cell? ⟨nb, noff + i % A.acc.length, none⟩ = some (.slice ra row.length rc)) := hide (Keeps.cell HK1.out hru trivial)
        have HRC := hide hrcl
        have HRB := hide hro.2
        have hrp : row.length = p := hro.1
        have HRP := hide hrp
        have hrl : row.length ≤ 64 := by rw [hrp]; exact hp64
        have HDNL : Hid ((dblN A (turnF turn) i).length = i) := hide (dblN_length _ _ _)
        obtain ⟨ma, mc, rfl⟩ := hto.out.mat.shape
        have HTO2 := hide hto.out
        have HKW := hide hK
        obtain ⟨wo, hwo⟩ : ∃ wo : World, wo = wr := ⟨_, rfl⟩
        obtain ⟨im, hime⟩ : ∃ im, im = i % A.acc.length := ⟨_, rfl⟩
        rw [← hime] at him himn hmod HRU
        clear hncl hnc hru hri hro hrcl hto hK hrp HMI hime
        have hdec : decide ((i : Int) < 2 * (A.acc.length : Int)) = true := decide_eq_true (by omega)
        go_wp2_with fail
        clear hdec
        subst hwo
        have hkkp := hKK.out
        rw [← HRP.out] at hkkp
        go_loopw [7, 9, 10] (fun kv rv cv wr => ∃ c k2 : Nat, kv = .int .i64 k2 ∧ cv = .int .i64 c ∧ c ≤ row.length ∧ k2 ≤ 2560 ∧ Hid (k2 = kk + c) ∧ Hid (OwnInts wr B0 rv (dblR A.acc.length (turnF turn) kk row c)) ∧ Same wo wr ∧ Hid (∀ b, rv.ownBlock = some b → wo.heap.size ≤ b)) (fun _ _ cv _ => row.length - (intOf cv).toNat)
        case atStart => exact ⟨0, kk, rfl, rfl, Nat.zero_le _, hkk, rfl, hide (World.ownsRow_nil _ _ _ _), Keeps.refl _ _, hide (by intro b hb; simp [Value.ownBlock] at hb)⟩
        case round =>
          obtain ⟨c, k2, rfl, rfl, hc, hk2, hk2e, hown, hK2, hnew⟩ := hrel
          have q2 := Keeps.cell (HKW.out.tr hK2) HQ2.out trivial
          have qr := Keeps.cell (HKW.out.tr hK2) HRU.out trivial
          by_cases hcr : c < row.length
          · obtain ⟨rb, roff, rfl, _, hrm⟩ := HRC.out c hcr
            have hrm := hrm c hcr
            have hyb := HRB.out _ (List.getElem_mem hcr)
            have HRS := hide (dblR_succ A.acc.length (turnF turn) kk row c)
            have hge : row.getD c 0 = row[c] := by simp [List.getD, List.getElem?_eq_getElem hcr]
            rw [hge, ← hk2e.out] at HRS
            generalize row[c] = y at hrm HRS hyb
            obtain ⟨y, rfl⟩ := Int.eq_ofNat_of_zero_le hyb.1
            have hyn : y < A.acc.length := by have := hyb.2; omega
            have hrm := Keeps.cell ((HK1.out.tr HKW.out).tr hK2) hrm trivial
            have hcl : (dblR A.acc.length (turnF turn) kk row c).length = c := dblR_length _ _ _ _ _
            generalize dblR A.acc.length (turnF turn) kk row c = cur at hown HRS hcl
            obtain ⟨sa, sc, rfl⟩ := hown.out.shape
            have HO := hide hown.out
            have HKX := hide hK2
            have HK2 := hide hk2e.out
            have HNEW := hide hnew.out
            clear hown hK2 hnew hk2e hyb hge
            rw [hcl]
            go_wp2_with fail
            refine wp_region_same (by kernel_rfl) (by kernel_rfl) ?_
            iterate 10
              (apply wpQuiet_step
               intro K hK
               first
                 | (apply quiet_skip
                    case hw => rfl
                    go_simp
                    refine hK _ ?_; clear hK K)
                 | (apply quiet_do
                    case hw => rfl
                    case h =>
                      intro w' hw'
                      (have z0 := Keeps.cell hw' q2 trivial; have z1 := Keeps.cell hw' qr trivial)
                      go_simp
                      first | exact rfl | (fail)
                    go_simp
                    refine hK _ ?_; clear hK K))
            apply wpQuiet_nil
            intro wa ka
            have q2 := Keeps.cell ka q2 trivial
            have qr := Keeps.cell ka qr trivial
            have hrm := Keeps.cell ka hrm trivial
            have HK3 := hide (HKX.out.tr ka)
            have HO := hide (HO.out.same ka)
            clear ka HKX
            go_wp2_with fail
            refine wp_region_same (by kernel_rfl) (by kernel_rfl) ?_
            iterate 11
              (apply wpQuiet_step
               intro K hK
               first
                 | (apply quiet_skip
                    case hw => rfl
                    go_simp
                    refine hK _ ?_; clear hK K)
                 | (apply quiet_do
                    case hw => rfl
                    case h =>
                      intro w' hw'
                      (have z0 := Keeps.cell hw' q2 trivial; have z1 := Keeps.cell hw' qr trivial; have z2 := Keeps.cell hw' hrm trivial)
                      go_simp
                      first | exact rfl | (fail)
                    go_simp
                    refine hK _ ?_; clear hK K))
            apply wpQuiet_nil
            intro wc kc
            have HK4 := hide (HK3.out.tr kc)
            have HOWN := hide (HO.out.same kc)
            have HSZ : Hid (B0 ≤ wc.heap.size) := hide (by rw [HB0.out]; exact (HKW.out.tr HK4.out).size)
            clear kc HK3 HO q2 qr hrm
            by_cases ht0 : turn.length = 0
            · have HFE : Hid (turnF turn k2 = false) := hide (by
                unfold turnF
                have : turn = [] := List.eq_nil_of_length_eq_zero ht0
                rw [this]; rfl)
              have hgt : decide (0 < turn.length) = false := by rw [ht0]; rfl
              clear ht0
              obtain ⟨g, cap1, w5, hr, hown2, hk5, hg, _⟩ := append_one (P := Try.prog) wc 36 36 3 Try.underlying36 int_info rfl HOWN.out HSZ.out (.int .i64 ((y : Int))) rfl (by omega) (by decide)
              have hk6 : Same wo w5 := HK4.out.trans hk5 fun z hz _ => ⟨trivial, fun e => by have := HNEW.out z e; omega⟩
              have HF : Hid (OwnInts w5 B0 (.slice (some ⟨g, 0, none⟩) (cur.length + 1) cap1) (dblR A.acc.length (turnF turn) kk row (c + 1)) ∧ Same wo w5 ∧ wo.heap.size ≤ g) := hide ⟨by rw [HRS.out, HFE.out, if_neg (by decide)]; unfold OwnInts; simpa using hown2, hk6, by
                rcases hg with hg | hg
                · exact HNEW.out g hg
                · exact Nat.le_trans HK4.out.size hg⟩
              clear hown2 hk5 hk6 hg
              rw [hcl] at hr HF
              go_wp2_with (at_builtin; refine wpList_append_run rfl _ _ _ rfl rfl rfl hr ?_; clear hr)
              go_roundw
              case rel => exact ⟨c + 1, k2 + 1, by go_num, by go_num, by omega, (by have := HK2.out; omega), hide (by rw [HK2.out]; omega), hide HF.out.1, HF.out.2.1, hide (by intro b hb; simp [Value.ownBlock] at hb; subst hb; exact HF.out.2.2)⟩
              case measure => simp [intOf]; omega
            · have htp : 0 < turn.length := by omega
              have htm : k2 % turn.length < turn.length := Nat.mod_lt _ htp
              have hmod2 : Int.tmod (k2 : Int) (turn.length : Int) = ((k2 % turn.length : Nat) : Int) := rfl
              have htz : ¬ (turn = []) := fun e => by rw [e] at htp; exact absurd htp (by decide)
              obtain ⟨tb, toff, rfl, _, htcl⟩ := HTC.out _ htm
              have htk := Keeps.cell ((HK1.out.tr HKW.out).tr HK4.out) (htcl _ htm) trivial
              have hfe : turnF turn k2 = turn[k2 % turn.length] := by unfold turnF; simp [List.getD, List.getElem?_eq_getElem htm]
              generalize turn[k2 % turn.length] = bv at htk hfe
              obtain ⟨tm, htme⟩ : ∃ tm, tm = k2 % turn.length := ⟨_, rfl⟩
              rw [← htme] at htm hmod2 htk
              clear htcl ht0 htme
              have HFE := hide hfe
              clear hfe
              cases bv with
              | true =>
                obtain ⟨g, cap1, w5, hr, hown2, hk5, hg, _⟩ := append_one (P := Try.prog) wc 36 36 3 Try.underlying36 int_info rfl HOWN.out HSZ.out (.int .i64 ((y : Int) + (A.acc.length : Int))) rfl (by omega) (by decide)
                have hk6 : Same wo w5 := HK4.out.trans hk5 fun z hz _ => ⟨trivial, fun e => by have := HNEW.out z e; omega⟩
                have HF : Hid (OwnInts w5 B0 (.slice (some ⟨g, 0, none⟩) (cur.length + 1) cap1) (dblR A.acc.length (turnF turn) kk row (c + 1)) ∧ Same wo w5 ∧ wo.heap.size ≤ g) := hide ⟨by rw [HRS.out, HFE.out, if_pos rfl]; unfold OwnInts; simpa using hown2, hk6, by
                  rcases hg with hg | hg
                  · exact HNEW.out g hg
                  · exact Nat.le_trans HK4.out.size hg⟩
                clear hown2 hk5 hk6 hg
                rw [hcl] at hr HF
                go_wp2_with (at_builtin; refine wpList_append_run rfl _ _ _ rfl rfl rfl hr ?_; clear hr)
                go_roundw
                case rel => exact ⟨c + 1, k2 + 1, by go_num, by go_num, by omega, (by have := HK2.out; omega), hide (by rw [HK2.out]; omega), hide HF.out.1, HF.out.2.1, hide (by intro b hb; simp [Value.ownBlock] at hb; subst hb; exact HF.out.2.2)⟩
                case measure => simp [intOf]; omega
              | false =>
                obtain ⟨g, cap1, w5, hr, hown2, hk5, hg, _⟩ := append_one (P := Try.prog) wc 36 36 3 Try.underlying36 int_info rfl HOWN.out HSZ.out (.int .i64 ((y : Int))) rfl (by omega) (by decide)
                have hk6 : Same wo w5 := HK4.out.trans hk5 fun z hz _ => ⟨trivial, fun e => by have := HNEW.out z e; omega⟩
                have HF : Hid (OwnInts w5 B0 (.slice (some ⟨g, 0, none⟩) (cur.length + 1) cap1) (dblR A.acc.length (turnF turn) kk row (c + 1)) ∧ Same wo w5 ∧ wo.heap.size ≤ g) := hide ⟨by rw [HRS.out, HFE.out, if_neg (by decide)]; unfold OwnInts; simpa using hown2, hk6, by
                  rcases hg with hg | hg
                  · exact HNEW.out g hg
                  · exact Nat.le_trans HK4.out.size hg⟩
                clear hown2 hk5 hk6 hg
                rw [hcl] at hr HF
                go_wp2_with (at_builtin; refine wpList_append_run rfl _ _ _ rfl rfl rfl hr ?_; clear hr)
                go_roundw
                case rel => exact ⟨c + 1, k2 + 1, by go_num, by go_num, by omega, (by have := HK2.out; omega), hide (by rw [HK2.out]; omega), hide HF.out.1, HF.out.2.1, hide (by intro b hb; simp [Value.ownBlock] at hb; subst hb; exact HF.out.2.2)⟩
                case measure => simp [intOf]; omega
          · have hcp : c = p := by have := HRP.out; omega
            have hcl : (dblR A.acc.length (turnF turn) kk row c).length = c := dblR_length _ _ _ _ _
            have HDN2 := HDN.out
            rw [← hcp] at HDN2
            have HCP := hide hcp
            clear hcp
            generalize dblR A.acc.length (turnF turn) kk row c = cur at hown hcl HDN2
            obtain ⟨sa, sc, rfl⟩ := hown.out.shape
            have hto5 := HTO2.out
            have hrl2 := HDNL.out
            generalize dblN A (turnF turn) i = rows at hto5 HDN2 hrl2 HTO2
            have HDN3 := hide HDN2
            have HOWN := hide hown.out
            have HKX := hide hK2
            have HK2 := hide hk2e.out
            clear hown hK2 hnew hk2e HDN2 hto5
            rw [hcl]
            go_wp2_with fail
            refine wp_region_same (by kernel_rfl) (by kernel_rfl) ?_
            iterate 10
              (apply wpQuiet_step
               intro K hK
               first
                 | (apply quiet_skip
                    case hw => rfl
                    go_simp
                    refine hK _ ?_; clear hK K)
                 | (apply quiet_do
                    case hw => rfl
                    case h =>
                      intro w' hw'
                      (have z0 := Keeps.cell hw' q2 trivial; have z1 := Keeps.cell hw' qr trivial)
                      go_simp
                      first | exact rfl | (fail)
                    go_simp
                    refine hK _ ?_; clear hK K))
            apply wpQuiet_nil
            intro wa ka
            have HK3 := hide (HKX.out.tr ka)
            have hrow := HOWN.out.same ka
            have hto3 := HTO2.out.same HK3.out
            clear ka HKX q2 qr
            obtain ⟨g, cap, w5, hr, hmat5, hk5, _, _, _⟩ := hto3.mat.push (by rw [HB0.out]; exact (HKW.out.tr HK3.out).size) hrow (by omega)
            have hmx : (Value.slice ma rows.length mc).ownBlock ≠ some x := fun e => by
              obtain ⟨vs, h1, _⟩ := hto3.mat
              obtain ⟨_, cur, hc⟩ := ownsRow_block h1 e
              rw [hto3.blk] at hc; simp at hc
            have hb5 := hk5.at hto3.blk hmx
            have z1 : w5.cell? ⟨x, 2, none⟩ = some (.slice ma rows.length mc) := cell_at hb5 2
            have z2 := free_at hb5 2
            have x2 : wa.cell? ⟨x, 2, none⟩ = some (.slice ma rows.length mc) := cell_at hto3.blk 2
            have hto6 := hto3.step hk5 hmat5
            have hK6 : Same w1 (w5.setCell ⟨x, 2, none⟩ (.slice (some ⟨g, 0, none⟩) (rows.length + 1) cap)) := by
              refine ((HKW.out.tr HK3.out).trans hk5 fun y hy _ => ⟨trivial, fun e => ?_⟩).setCell (fun hh => ?_) _
              · obtain ⟨vs, h1, _⟩ := hto3.mat
                have := (ownsRow_block h1 e).1
                rw [HB0.out] at this; omega
              · have h1 := hto3.low
                have h2 : x < w1.heap.size := hh.1
                rw [HB0.out] at h1; omega
            have HF := hide (And.intro hto6 hK6)
            rw [hcl] at hr
            clear hto6 hK6 hto3 hmat5 hk5 hmx hb5 hrow hcl hrl2
            go_wp2_with (at_builtin; refine wpList_append_run rfl _ _ _ rfl rfl rfl hr ?_; clear hr)
            go_roundw
            case rel => exact ⟨i + 1, k2, _, by go_num, rfl, by omega, hk2, hide (by rw [HK2.out, HKE.out, HCP.out]), hide (by rw [HDN3.out]; exact HF.out.1), HF.out.2⟩
            case measure => simp [intOf]; omega
      · obtain rfl : i = 2 * A.acc.length := by omega
        have hau : dblAu A (turnF turn) = ⟨A.T, D, dblN A (turnF turn) (2 * A.acc.length)⟩ := by unfold dblAu; rw [HD.out]
        have HDO := hide (dbl_ok HOK.out (by omega) (turnF turn))
        have HDM := hide (dbl_min HOK.out (by omega) (turnF turn))
        have hat : AutoAt wr (.agg #[.int .i64 A.T, .slice ub2 D.length uc2, vn]) (dblAu A (turnF turn)) := by
          have hb := HDO.out.bounds
          rw [hau] at hb ⊢
          exact ⟨_, _, rfl, hto.out.acc.bools, hto.out.mat.rows hb.2, hb.1⟩
        have HAT := hide hat
        have hxb := hto.out.blk
        obtain ⟨ma, mc, rfl⟩ := hto.out.mat.shape
        have HX := hide hxb
        have HMOK := hide (min_ok HOK.out)
        have x0 := cell_at hxb 0
        have x1 := cell_at hxb 1
        have x2 := cell_at hxb 2
        simp only [List.getElem?_toArray, List.getElem?_cons_zero, List.getElem?_cons_succ] at x0 x1 x2
        have HKW := hide (HK1.out.tr hK)
        have BX2 := hide (hK.at BX1.out trivial)
        clear hto hK hau hat hxb hke
        generalize (dblN A (turnF turn) (2 * A.acc.length)).length = rl at HX HAT x2
        generalize hX : dblAu A (turnF turn) = X at HDO HDM HAT
        clear hX
        go_wp2_with fail
        refine of24 HAT.out HDO.out ?_; rintro e w2 d2 rfl dd2 k2
        have HD2 := hide dd2
        have HK2 := hide (HKW.out.tr k2)
        have HAT2 := hide (HAT.out.same k2)
        have HX2 := hide (k2.at HX.out trivial)
        have BX3 := hide (k2.at BX2.out trivial)
        clear dd2 k2 x0 x1 x2
        go_wp2_with fail
        refine minMin HD2.out ?_; rintro e w3 d3 rfl dd3 k3
        rw [HDM.out] at dd3
        have HD3 := hide dd3
        have HK3 := hide (HK2.out.tr k3)
        have HAT3 := hide (HAT2.out.same k3)
        have HX3 := hide (k3.at HX2.out trivial)
        have BX4 := hide (k3.at BX3.out trivial)
        clear dd3 k3
        go_wp2_with fail
        have kd : Same w3 w3.drew := Keeps.drew (Keeps.refl (fun _ => True) w3)
        refine wp_region_plan (.take 0 (.take 1 (.take 2 (.take 3 (.take 4 (.take 5 (.take 6 (.take 7 (.take 9 (.one 8 (.one 10 (.one 11 (.take 12 (.take 13 (.take 14 (.take 16 (.one 15 (.one 17 (.one 18 (.take 19 (.take 20 (.one 21 (.take 22 (.take 23 .done)))))))))))))))))))))))) (fun w' => w'.heap[w.heap.size]? = some (.cells #[.int .i64 A.T, .slice aa A.acc.length ac', .slice na A.next.length nc] 25 (0, 0)) ∧ w'.heap[x]? = some (.cells #[.int .i64 A.T, .slice ub2 D.length uc2, .slice ma rl mc] 25 (0, 0))) (by kernel_rfl) (by kernel_rfl) ⟨kd.at BX4.out trivial, kd.at HX3.out trivial⟩ ?_
        iterate 9
          (first
             | (apply pl_pass
                case ho => rfl
                case hw => rfl
                go_simp)
             | (apply pl_take
                case ho => rfl
                case hw => rfl
                case hv =>
                  intro w' hS
                  (have q0 := cell_at hS.1 0; have q1 := cell_at hS.1 1; have q2 := cell_at hS.1 2; have p0 := cell_at hS.2 0; have p1 := cell_at hS.2 1; have p2 := cell_at hS.2 2; simp only [List.getElem?_toArray, List.getElem?_cons_zero, List.getElem?_cons_succ] at q0 q1 q2 p0 p1 p2)
                  go_simp
                  exact rfl
                go_simp))
        refine pl_one (up_do rfl rfl fun K hK1 => ?_)
        go_simp
        refine dfaTo (HD3.out.same kd) ?_; rintro e w4 v4 rfl o4 k4
        have c4 := kd.tr k4
        refine hK1 _ _ _ ⟨c4.at BX4.out trivial, c4.at HX3.out trivial⟩ (fun _ h => h) ?_
        clear hK1 K
        refine pl_one (up_do rfl rfl fun K hK1 => ?_)
        go_simp
        refine refMin (HA.out.same (HK3.out.tr c4)) HOK.out ?_; rintro e w5 v5 rfl o5 k5
        have c5 := c4.tr k5
        refine hK1 _ _ _ ⟨c5.at BX4.out trivial, c5.at HX3.out trivial⟩ (fun _ h => h) ?_
        clear hK1 K
        refine pl_one (up_do rfl rfl fun K hK1 => ?_)
        go_simp
        refine refSameA ((o4.auto HMOK.out).same k5) o5 ?_; rintro e w6 rfl k6
        have c6 := c5.tr k6
        refine hK1 _ _ _ ⟨c6.at BX4.out trivial, c6.at HX3.out trivial⟩ (fun _ h => h) ?_
        clear hK1 K
        iterate 4
          (first
             | (apply pl_pass
                case ho => rfl
                case hw => rfl
                go_simp)
             | (apply pl_take
                case ho => rfl
                case hw => rfl
                case hv =>
                  intro w' hS
                  (have q0 := cell_at hS.1 0; have q1 := cell_at hS.1 1; have q2 := cell_at hS.1 2; have p0 := cell_at hS.2 0; have p1 := cell_at hS.2 1; have p2 := cell_at hS.2 2; simp only [List.getElem?_toArray, List.getElem?_cons_zero, List.getElem?_cons_succ] at q0 q1 q2 p0 p1 p2)
                  go_simp
                  exact rfl
                go_simp))
        refine pl_one (up_do rfl rfl fun K hK1 => ?_)
        go_simp
        refine of24 (HAT3.out.same c6) HDO.out ?_; rintro e w7 d7 rfl dd7 k7
        have c7 := c6.tr k7
        refine hK1 _ _ _ ⟨c7.at BX4.out trivial, c7.at HX3.out trivial⟩ (fun _ h => h) ?_
        clear hK1 K
        refine pl_one (up_do rfl rfl fun K hK1 => ?_)
        go_simp
        refine of24 (HA.out.same (HK3.out.tr c7)) HOK.out ?_; rintro e w8 d8 rfl dd8 k8
        have c8 := c7.tr k8
        refine hK1 _ _ _ ⟨c8.at BX4.out trivial, c8.at HX3.out trivial⟩ (fun _ h => h) ?_
        clear hK1 K
        refine pl_one (up_do rfl rfl fun K hK1 => ?_)
        go_simp
        refine minSame (dd7.same k8) dd8 ?_; rintro e w9 rfl k9
        rw [decide_eq_true HDM.out]
        have c9 := c8.tr k9
        refine hK1 _ _ _ ⟨c9.at BX4.out trivial, c9.at HX3.out trivial⟩ (fun _ h => h) ?_
        clear hK1 K
        iterate 2
          (first
             | (apply pl_pass
                case ho => rfl
                case hw => rfl
                go_simp)
             | (apply pl_take
                case ho => rfl
                case hw => rfl
                case hv =>
                  intro w' hS
                  (skip)
                  go_simp
                  exact rfl
                go_simp))
        refine pl_one (up_do rfl rfl fun K hK1 => ?_)
        go_simp
        refine known24 ?_; rintro e w10 rfl k10
        have c10 := c9.tr k10
        refine hK1 _ _ _ ⟨c10.at BX4.out trivial, c10.at HX3.out trivial⟩ (fun _ h => h) ?_
        clear hK1 K
        iterate 2
          (first
             | (apply pl_pass
                case ho => rfl
                case hw => rfl
                go_simp)
             | (apply pl_take
                case ho => rfl
                case hw => rfl
                case hv =>
                  intro w' hS
                  (skip)
                  go_simp
                  exact rfl
                go_simp))
        refine pl_done ?_
        have HF := hide ((HK3.out.tr c10).mono (S' := (· < w.heap.size)) fun _ _ _ => trivial)
        clear kd c4 c5 c6 c7 c8 c9 c10 k4 k5 k6 k7 k8 k9 k10 o4 o5 dd7 dd8
        go_wp2_with fail
        exact HR.out _ _ rfl HF.out

end Go.Proofs.Ytlaipnobfmfgaaa
