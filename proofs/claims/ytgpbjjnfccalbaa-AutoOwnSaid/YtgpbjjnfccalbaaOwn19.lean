/- The walk of AutoOwn. -/
import Derived.Test.YtgpbjjnfccalbaaNil
import Derived.Test.YtgpbjjnfccalbaaLaw19e
import Derived.Test.YtgpbjjnfccalbaaTurned
namespace Go.Proofs.Ytgpbjjnfccalbaa
open Go.RowKit

attribute [local irreducible] wpQuiet wpPlan wpPlanZ wpUp

variable {R : Ending → World → Prop} {w : World} {A : Au} {B : Nat}

/-- An append to a slice that is the call's own, and empty. -/
theorem append_newB {g : Nat} {u : Value} {l : List Bool} (hown : w.ownsRow B 4 1 (.slice (some ⟨g, 0, none⟩) 0 0) 0 []) (hu : BoolsAt w u l) (hB : B ≤ w.heap.size) (hl : l.length ≤ 1000) :
    ∃ v' w', (Builtin.append_ #[22, 22] 22 #[.slice (some ⟨g, 0, none⟩) 0 0, u]).run Try.prog w = .ok v' w' ∧ OwnBools w' B v' l ∧ Keeps (· ≠ g) w w' := by
  obtain ⟨v', w', hr, ho, hk, _⟩ := append_slice (t := 22) Try.underlying22 bool_info rfl (by decide) hown hu (by intro x hx; obtain ⟨y, _, rfl⟩ := List.mem_map.1 hx; rfl) hB (by simp; omega)
  exact ⟨v', w', hr, by simpa [OwnBools] using ho, hk.mono fun x _ hx e => hx (by simpa [Value.ownBlock] using e.symm)⟩

theorem append_newI {g : Nat} {u : Value} {l : List Int} (hown : w.ownsRow B 3 1 (.slice (some ⟨g, 0, none⟩) 0 0) 0 []) (hu : IntsAt w u l) (hB : B ≤ w.heap.size) (hl : l.length ≤ 1000) :
    ∃ v' w', (Builtin.append_ #[26, 26] 26 #[.slice (some ⟨g, 0, none⟩) 0 0, u]).run Try.prog w = .ok v' w' ∧ OwnInts w' B v' l ∧ Keeps (· ≠ g) w w' := by
  obtain ⟨v', w', hr, ho, hk, _⟩ := append_slice (t := 26) Try.underlying26 int_info rfl (by decide) hown hu.1 (by intro x hx; obtain ⟨y, _, rfl⟩ := List.mem_map.1 hx; rfl) hB (by simp; omega)
  exact ⟨v', w', hr, by simpa [OwnInts] using ho, hk.mono fun x _ hx e => hx (by simpa [Value.ownBlock] using e.symm)⟩

/-- What a struct of rows holds at its first places. -/
theorem ToIn.first {x : Nat} {T : Int} {u vn : Value} {acc : List Bool} {rows : List (List Int)} {l0 : List Int} (h : ToIn w B x T u vn acc rows) (hn : 0 < acc.length) (hr : rows[0]? = some l0) (hl : 0 < l0.length) :
    ∃ (gU uc gV nc g0 c0 : Nat) (b0 : Bool) (y0 : Int), u = .slice (some ⟨gU, 0, none⟩) acc.length uc ∧ vn = .slice (some ⟨gV, 0, none⟩) rows.length nc ∧ w.cell? ⟨gU, 0, none⟩ = some (.bool b0) ∧ w.frozen? ⟨gU, 0, none⟩ = false ∧
      w.cell? ⟨gV, 0, none⟩ = some (.slice (some ⟨g0, 0, none⟩) l0.length c0) ∧ w.cell? ⟨g0, 0, none⟩ = some (.int .i64 y0) ∧ w.frozen? ⟨g0, 0, none⟩ = false ∧ B ≤ gU ∧ B ≤ g0 ∧ gU ≠ x ∧ gU ≠ gV ∧ gU ≠ g0 := by
  obtain ⟨vs, h1, h2, h3⟩ := h.mat
  have hrl : 0 < rows.length := (List.getElem?_eq_some_iff.1 hr).1
  obtain ⟨gV, nc, rfl⟩ := own_shape_pos h1 hrl
  obtain ⟨s, cc, hc0, _, ho⟩ := h.mat.elem hr
  obtain ⟨g0, c0, e0⟩ := own_shape_pos ho hl
  simp only [Value.slice.injEq] at e0
  obtain ⟨rfl, _, rfl⟩ := e0
  obtain ⟨gU, uc, rfl⟩ := own_shape_pos h.acc hn
  obtain ⟨_, cur1, hV⟩ := ownsRow_block h1 (g := gV) (by simp [Value.ownBlock])
  rcases h.acc.2 with ⟨e, _⟩ | ⟨g1, cap1, cU, e1, hB1, hg1, q1, q2, q3, q4⟩
  · cases e
  simp only [Value.slice.injEq, Option.some.injEq, Addr.mk.injEq, and_true] at e1
  obtain ⟨rfl, _, rfl⟩ := e1
  rcases ho.2 with ⟨e, _⟩ | ⟨g2, cap2, c2, e2, hB2, hg2, r1, r2, r3, r4⟩
  · cases e
  simp only [Value.slice.injEq, Option.some.injEq, Addr.mk.injEq, and_true] at e2
  obtain ⟨rfl, _, rfl⟩ := e2
  simp only [Nat.mul_one] at q4 r4
  have hu0 : cU[0]? = some (.bool acc[0]) := by
    have : (cU.toList.take acc.length)[0]? = some (.bool acc[0]) := by rw [q4]; simp [hn]
    rw [List.getElem?_take, if_pos hn] at this
    simpa using this
  have hy0 : c2[0]? = some (.int .i64 l0[0]) := by
    have : (c2.toList.take l0.length)[0]? = some (.int .i64 l0[0]) := by rw [r4]; simp [hl]
    rw [List.getElem?_take, if_pos hl] at this
    simpa using this
  refine ⟨gU, uc, gV, nc, g0, cc, acc[0], l0[0], rfl, rfl, by rw [cell_at hg1]; exact hu0, free_at hg1 _, hc0, by rw [cell_at hg2]; exact hy0, free_at hg2 _, hB1, hB2, ?_, ?_, ?_⟩
  · rintro rfl; rw [h.blk] at hg1; simp at hg1
  · rintro rfl; rw [hV] at hg1; simp at hg1
  · rintro rfl; rw [hg2] at hg1; simp at hg1

theorem frozen_keep {S : Nat → Prop} {w' : World} (k : Keeps S w w') {p : Addr} (hp : p.block < w.heap.size) (hs : S p.block) : w'.frozen? p = w.frozen? p := by
  unfold World.frozen?
  rw [k.block _ hp hs]

theorem field_acc (w : World) : (Instr.field 25 (.agg #[.int .i64 0, .slice none 0 0, .slice none 0 0]) 1).run Try.prog w = .ok (.slice none 0 0) w := by kernel_rfl

/-- What follows, once for all orders. -/
theorem cut4 {K0 : Act → World → Prop} {P : Nat → Option Addr → Nat → Nat → World → Prop} (F : Nat → Option Addr → Nat → Nat → Act) {G : Prop} (h : (∀ x ub uc g wx, P x ub uc g wx → K0 (F x ub uc g) wx) → G) (c : ∀ x ub uc g wx, P x ub uc g wx → K0 (F x ub uc g) wx) : G := h c

set_option maxRecDepth 10000 in
set_option maxHeartbeats 4000000 in
theorem autoOwnWalk (v : Value) (A : Au) (w : World) (hA : AutoAt w v A) :
    Calls Try.prog 9 #[v] w fun e w' => e = .returned (.bool true) ∧ Below w.heap.size w w' := by
  refine law_of fun R HR => ?_
  have HA := hide hA
  obtain ⟨va, vn, rfl, hacc, hnext, hT⟩ := hA
  have HACC := hide hacc
  obtain ⟨aa, ac, rfl, _⟩ := hacc.open
  obtain ⟨na, nc, rfl, hd1, hd2, hcell⟩ := hnext.open
  unfold maxLen at hd2
  have HC := hide hcell
  have hk : Same w (w.alloc (.cells #[.int .i64 A.T, .slice aa A.acc.length ac, .slice na A.next.length nc] 25)) := (Keeps.refl _ w).alloc _
  have hbox := heap_new w (.cells #[.int .i64 A.T, .slice aa A.acc.length ac, .slice na A.next.length nc] 25)
  have HB := hide hbox
  have HK := hide hk
  clear hacc hnext hT hbox hk hcell
  cases hm : mayB A with
  | false =>
    go_enter Try.func9, Try.ntmps9
    go_wp2_with fail
    refine may19 (HA.out.same HK.out) ?_; rintro e w1 rfl k1
    rw [hm]
    go_wp2_with fail
    exact HR.out _ _ rfl ((HK.out.tr k1).mono fun _ _ _ => trivial)
  | true =>
    have HOK := hide (mayB_ok hm).2.2
    have HL := hide (And.intro (mayB_ok hm).1 (mayB_ok hm).2.1)
    go_enter Try.func9, Try.ntmps9
    go_wp2_with fail
    refine may19 (HA.out.same HK.out) ?_; rintro e w1 rfl k1
    rw [hm]
    have b1 := k1.at HB.out trivial
    have HK1 := hide (HK.out.tr k1)
    clear k1 hm
    have q0 := cell_at b1 0
    have q1 := cell_at b1 1
    simp only [List.getElem?_toArray, List.getElem?_cons_zero, List.getElem?_cons_succ] at q0 q1
    have B1 := hide b1
    clear b1
    go_wp2_with fail
    rename_i K0 hK0
    have kd : Same w1 w1.drew := Keeps.drew (Keeps.refl (fun _ => True) w1)
    refine wp_region_planz 8 (.take 0 (.take 1 (.take 3 (.take 4 (.two 2 7 (.two 5 7 (.take 6 (.one 7 .last)) (.one 5 (.take 6 .last))) (.one 2 (.one 5 (.take 6 .last)))))))) (Same w1) (by kernel_rfl) (by kernel_rfl) kd ?_
    iterate 4
      (first
         | (apply pz_pass
            case ho => rfl
            case hw => rfl
            go_simp)
         | (apply pz_take
            case ho => rfl
            case hw => rfl
            case hv =>
              intro w' hS
              (have z0 := Keeps.cell hS q0 trivial; have z1 := Keeps.cell hS q1 trivial)
              go_simp
              exact rfl
            go_simp))
    obtain ⟨B0, hB0⟩ : ∃ B0, B0 = w1.heap.size := ⟨_, rfl⟩
    have HB0 := hide hB0
    apply cut4 (K0 := K0) (P := fun x ub uc _ wx => ToIn wx B0 x A.T (.slice ub A.acc.length uc) (.slice none 0 0) A.acc [] ∧ Same w1 wx)
    case h =>
      intro CONT
      have CONT := hide CONT
      have HA1 := hide (HACC.out.same (HK1.out.tr kd))
      have hl1000 : A.acc.length ≤ 1000 := by have := HL.out.1; omega
      refine pz_two ?_ ?_
      · refine up_do rfl rfl fun K hK1 => ?_
        go_simp
        have ho2 : ((w1.alloc (.cells #[] 4)).drew).ownsRow B0 4 1 (.slice (some ⟨w1.heap.size, 0, none⟩) 0 0) 0 [] := ownsRow_keep (own_nil w1 4 (by rw [hB0]; exact Nat.le_refl _)) (Keeps.drew (Keeps.refl (fun _ => True) _)) fun _ _ => trivial
        have k2 : Same w1 (w1.alloc (.cells #[] 4)).drew := ((Keeps.refl _ w1).alloc _).drew
        have hs2 : w1.heap.size < (w1.alloc (.cells #[] 4)).drew.heap.size := by simp [World.drew]
        generalize (w1.alloc (.cells #[] 4)).drew = w2 at ho2 k2 hs2 ⊢
        refine hK1 (Same w1) _ _ k2 (fun _ h => h) ?_
        clear hK1 K
        refine pz_two ?_ ?_
        · obtain ⟨v3, w3, hr, ho3, k3⟩ := append_newB ho2 (HACC.out.same (HK1.out.tr k2)) (by rw [hB0]; exact k2.size) hl1000
          obtain ⟨ub, uc, rfl⟩ := ownsRow_shape ho3
          have k13 : Same w1 w3 := k2.trans k3 fun y hy _ => ⟨trivial, by omega⟩
          refine up_append _ _ _ rfl rfl rfl ?hs ?hx hr (Same w1) k13 (fun _ h => h) ?_
          case hs => rfl
          case hx => rfl
          clear hr
          go_simp
          iterate 1
            (first
               | (apply pz_pass
                  case ho => rfl
                  case hw => rfl
                  go_simp)
               | (apply pz_take
                  case ho => rfl
                  case hw => rfl
                  case hv =>
                    intro w' hS
                    (skip)
                    go_simp
                    exact rfl
                  go_simp))
          refine pz_one (up_do rfl rfl fun K hK1 => ?_)
          go_simp
          refine hK1 (Same w1) _ _ (k13.alloc _) (fun _ h => h) ?_
          clear hK1 K
          refine pz_last rfl rfl fun K hK => ?_
          go_simp
          have hto : ToIn (w3.alloc (.cells #[.int .i64 A.T, .slice ub A.acc.length uc, .slice none 0 0] 25)) B0 w3.heap.size A.T (.slice ub A.acc.length uc) (.slice none 0 0) A.acc [] :=
            ⟨heap_new _ _, by rw [hB0]; exact k13.size, ownsRow_keep ho3 ((Keeps.refl (fun _ => True) w3).alloc _) fun _ _ => trivial, OwnMat.nil _ _⟩
          have hks := k13.alloc (.cells #[.int .i64 A.T, .slice ub A.acc.length uc, .slice none 0 0] 25)
          generalize w3.alloc (.cells #[.int .i64 A.T, .slice ub A.acc.length uc, .slice none 0 0] 25) = w4 at hto hks ⊢
          generalize w3.heap.size = x at hto ⊢
          generalize w1.heap.size = g
          exact hK _ _ (np_normal (show K0 _ _ from CONT.out x ub uc g _ ⟨hto, hks⟩))
        · refine up_do rfl rfl fun K hK1 => ?_
          go_simp
          have hx := heap_new w2 (.cells #[.int .i64 0, .slice none 0 0, .slice none 0 0] 25)
          have kx := k2.alloc (.cells #[.int .i64 0, .slice none 0 0, .slice none 0 0] 25)
          have ho2x := ownsRow_keep ho2 ((Keeps.refl (fun _ => True) w2).alloc (.cells #[.int .i64 0, .slice none 0 0, .slice none 0 0] 25)) fun _ _ => trivial
          generalize w2.alloc (.cells #[.int .i64 0, .slice none 0 0, .slice none 0 0] 25) = w3 at hx kx ho2x ⊢
          have hxlow : w1.heap.size < w2.heap.size := hs2
          generalize w2.heap.size = x at hx hxlow ⊢
          refine hK1 (fun w' => Same w1 w') _ _ kx (fun _ h => h) ?_
          clear hK1 K
          obtain ⟨v4, w4, hr, ho4, k4⟩ := append_newB ho2x (HACC.out.same (HK1.out.tr kx)) (by rw [hB0]; exact kx.size) hl1000
          obtain ⟨ub, uc, rfl⟩ := ownsRow_shape ho4
          have k14 : Same w1 w4 := kx.trans k4 fun y hy _ => ⟨trivial, by omega⟩
          refine pz_one (up_append _ _ _ rfl rfl rfl ?hs ?hx hr (Same w1) k14 (fun _ h => h) ?_)
          case hs => rfl
          case hx => rfl
          clear hr
          go_simp
          iterate 1
            (first
               | (apply pz_pass
                  case ho => rfl
                  case hw => rfl
                  go_simp)
               | (apply pz_take
                  case ho => rfl
                  case hw => rfl
                  case hv =>
                    intro w' hS
                    (skip)
                    go_simp
                    exact rfl
                  go_simp))
          have hx4 := k4.at hx (by omega)
          have z0 : w4.cell? ⟨x, 0, none⟩ = some (.int .i64 0) := cell_at hx4 0
          have z1 : w4.cell? ⟨x, 1, none⟩ = some (.slice none 0 0) := cell_at hx4 1
          have z2 : w4.cell? ⟨x, 2, none⟩ = some (.slice none 0 0) := cell_at hx4 2
          have f0 := free_at hx4 0
          have f1 := free_at hx4 1
          have f2 := free_at hx4 2
          refine pz_last rfl rfl fun K hK => ?_
          go_simp
          have hto := ToIn.store (T := A.T) hx4 (B := B0) (by rw [hB0]; exact Nat.le_of_lt hxlow) ho4
          have hks : Same w1 (((w4.setCell ⟨x, 0, none⟩ (.int .i64 A.T)).setCell ⟨x, 1, none⟩ (.slice ub A.acc.length uc)).setCell ⟨x, 2, none⟩ (.slice none 0 0)) :=
            ((k14.setCell (fun hh => Nat.lt_asymm hh.1 hxlow) _).setCell (fun hh => Nat.lt_asymm hh.1 hxlow) _).setCell (fun hh => Nat.lt_asymm hh.1 hxlow) _
          generalize w1.heap.size = g
          exact hK _ _ (np_normal (show K0 _ _ from CONT.out x ub uc g _ ⟨hto, hks⟩))
      · refine up_do rfl rfl fun K hK1 => ?_
        go_simp
        have hx : ((w1.alloc (.cells #[.int .i64 0, .slice none 0 0, .slice none 0 0] 25)).drew).heap[w1.heap.size]? = some (.cells #[.int .i64 0, .slice none 0 0, .slice none 0 0] 25 (0, 0)) := heap_new w1 _
        have kx : Same w1 (w1.alloc (.cells #[.int .i64 0, .slice none 0 0, .slice none 0 0] 25)).drew := ((Keeps.refl _ w1).alloc _).drew
        have hs2 : w1.heap.size < (w1.alloc (.cells #[.int .i64 0, .slice none 0 0, .slice none 0 0] 25)).drew.heap.size := by simp [World.drew]
        generalize (w1.alloc (.cells #[.int .i64 0, .slice none 0 0, .slice none 0 0] 25)).drew = w2 at hx kx hs2 ⊢
        refine hK1 (fun w' => Same w1 w') _ _ kx (fun _ h => h) ?_
        clear hK1 K
        refine pz_one (up_do rfl rfl fun K hK1 => ?_)
        go_simp
        have ho3 := own_nil w2 4 (B := B0) (by rw [hB0]; exact kx.size)
        have k3 := kx.alloc (.cells #[] 4)
        have hx3 := heap_old hx (.cells #[] 4)
        generalize w2.alloc (.cells #[] 4) = w3 at ho3 k3 hx3 ⊢
        refine hK1 (fun w' => Same w1 w') _ _ k3 (fun _ h => h) ?_
        clear hK1 K
        obtain ⟨v4, w4, hr, ho4, k4⟩ := append_newB ho3 (HACC.out.same (HK1.out.tr k3)) (by rw [hB0]; exact k3.size) hl1000
        obtain ⟨ub, uc, rfl⟩ := ownsRow_shape ho4
        have k14 : Same w1 w4 := k3.trans k4 fun y hy _ => ⟨trivial, by omega⟩
        refine pz_one (up_append _ _ _ rfl rfl rfl ?hs ?hx hr (Same w1) k14 (fun _ h => h) ?_)
        case hs => rfl
        case hx => rfl
        clear hr
        go_simp
        iterate 1
          (first
             | (apply pz_pass
                case ho => rfl
                case hw => rfl
                go_simp)
             | (apply pz_take
                case ho => rfl
                case hw => rfl
                case hv =>
                  intro w' hS
                  (skip)
                  go_simp
                  exact rfl
                go_simp))
        have hx4 := k4.at hx3 (by omega)
        have z0 : w4.cell? ⟨w1.heap.size, 0, none⟩ = some (.int .i64 0) := cell_at hx4 0
        have z1 : w4.cell? ⟨w1.heap.size, 1, none⟩ = some (.slice none 0 0) := cell_at hx4 1
        have z2 : w4.cell? ⟨w1.heap.size, 2, none⟩ = some (.slice none 0 0) := cell_at hx4 2
        have f0 := free_at hx4 0
        have f1 := free_at hx4 1
        have f2 := free_at hx4 2
        refine pz_last rfl rfl fun K hK => ?_
        go_simp
        have hto := ToIn.store (T := A.T) hx4 (B := B0) (by rw [hB0]; exact Nat.le_refl _) ho4
        have hks : Same w1 (((w4.setCell ⟨w1.heap.size, 0, none⟩ (.int .i64 A.T)).setCell ⟨w1.heap.size, 1, none⟩ (.slice ub A.acc.length uc)).setCell ⟨w1.heap.size, 2, none⟩ (.slice none 0 0)) :=
          ((k14.setCell (fun hh => Nat.lt_irrefl _ hh.1) _).setCell (fun hh => Nat.lt_irrefl _ hh.1) _).setCell (fun hh => Nat.lt_irrefl _ hh.1) _
        generalize w2.heap.size = g
        generalize w1.heap.size = x at hto hks ⊢
        exact hK _ _ (np_normal (show K0 _ _ from CONT.out x ub uc g _ ⟨hto, hks⟩))
    case c =>
      intro x ub uc g wx hP
      obtain ⟨hto, hks⟩ := hP
      have HTO := hide hto
      have HKS := hide hks
      clear hto hks q0 q1
      have b2 := HKS.out.at B1.out trivial
      have q2 := cell_at b2 2
      simp only [List.getElem?_toArray, List.getElem?_cons_zero, List.getElem?_cons_succ] at q2
      go_wp2_with fail
      go_loopw [4] (fun i wr => ∃ (k : Nat) (vn : Value), i = .int .i64 k ∧ k ≤ A.next.length ∧ Hid (ToIn wr B0 x A.T (.slice ub A.acc.length uc) vn A.acc (A.next.take k)) ∧ Same w1 wr) (fun i _ => A.next.length - (intOf i).toNat)
      case atStart => exact ⟨0, _, rfl, Nat.zero_le _, hide (by simpa using HTO.out), HKS.out⟩
      case round =>
        clear b2 q2
        obtain ⟨k, vn, rfl, hk, hto, hK⟩ := hrel
        have q2 : wr.cell? ⟨w.heap.size, 2, none⟩ = some (.slice na A.next.length nc) := cell_at (hK.at B1.out trivial) 2
        by_cases hlt : k < A.next.length
        · obtain ⟨bl, off, rfl, _, hcl⟩ := HC.out k hlt
          obtain ⟨ru, hru, hri⟩ := hcl k hlt
          obtain ⟨ra, rc, rfl, hf1, hf2, _⟩ := hri.open
          unfold maxLen at hf2
          have hrk := Keeps.cell (HK1.out.tr hK) hru trivial
          have HTK := hide (List.take_succ_eq_append_getElem hlt)
          have hrow64 : (A.next[k]).length ≤ 1000 := by
            have h1 := (HOK.out.2 _ (List.getElem_mem hlt)).1
            have h2 := two_le (show A.T.toNat ≤ 6 by have := HOK.out.1.2.1; omega)
            omega
          have hrlen : (A.next.take k).length + 1 ≤ 1000000 := by have := HL.out.2; simp; omega
          have HRI := hide hri
          have HRU := hide hru
          generalize A.next[k] = row at hrk hf1 HTK hrow64 HRI HRU
          generalize A.next.take k = rows at hto HTK hrlen
          obtain ⟨ma, mc, rfl⟩ := hto.out.mat.shape
          have HT := hide hto.out
          have HKW := hide hK
          have HR64 := hide hrow64
          have HRLN := hide hrlen
          clear hcl hru hri hto hK hrow64 hrlen
          go_wp2_with fail
          refine wp_region_planz 12 (.take 0 (.take 1 (.take 3 (.take 4 (.take 5 (.take 6 (.take 7 (.one 2 (.one 8 (.one 9 (.one 10 (.take 11 .last)))))))))))) (fun w' => w'.heap[x]? = some (.cells #[.int .i64 A.T, .slice ub A.acc.length uc, .slice ma rows.length mc] 25 (0, 0)) ∧ w'.cell? ⟨w.heap.size, 2, none⟩ = some (.slice (some ⟨bl, off, none⟩) A.next.length nc) ∧ w'.cell? ⟨bl, off + k, none⟩ = some (.slice ra row.length rc)) (by kernel_rfl) (by kernel_rfl) ⟨HT.out.blk, q2, hrk⟩ ?_
          iterate 7
            (first
               | (apply pz_pass
                  case ho => rfl
                  case hw => rfl
                  go_simp)
               | (apply pz_take
                  case ho => rfl
                  case hw => rfl
                  case hv =>
                    intro w' hS
                    (have z2 := cell_at hS.1 2; have z3 := hS.2.1; have z4 := hS.2.2; simp only [List.getElem?_toArray, List.getElem?_cons_zero, List.getElem?_cons_succ] at z2)
                    go_simp
                    exact rfl
                  go_simp))
          have kd : Same wr wr.drew := Keeps.drew (Keeps.refl (fun _ => True) wr)
          have hBw : B0 ≤ wr.heap.size := by rw [HB0.out]; exact HKW.out.size
          refine pz_one (up_do rfl rfl fun K hK1 => ?_)
          go_simp
          have ho3 : ((wr.alloc (.cells #[] 3)).drew).ownsRow B0 3 1 (.slice (some ⟨wr.heap.size, 0, none⟩) 0 0) 0 [] := ownsRow_keep (own_nil wr 3 hBw) (Keeps.drew (Keeps.refl (fun _ => True) _)) fun _ _ => trivial
          have k3 : Same wr (wr.alloc (.cells #[] 3)).drew := ((Keeps.refl _ wr).alloc _).drew
          generalize (wr.alloc (.cells #[] 3)).drew = w3 at ho3 k3 ⊢
          refine hK1 _ _ _ ⟨k3.at HT.out.blk trivial, Keeps.cell k3 q2 trivial, Keeps.cell k3 hrk trivial⟩ (fun _ h => h) ?_
          clear hK1 K
          obtain ⟨v4, w4, hr, ho4, k4⟩ := append_newI ho3 (HRI.out.same ((HK1.out.tr HKW.out).tr k3)) (Nat.le_trans hBw k3.size) HR64.out
          obtain ⟨sa, sc, rfl⟩ := ho4.shape
          have k24 : Same wr w4 := k3.trans k4 fun y hy _ => ⟨trivial, by omega⟩
          have hto4 := HT.out.same k24
          refine pz_one (up_append _ _ _ rfl rfl rfl ?hs ?hx hr _ ⟨hto4.blk, Keeps.cell k24 q2 trivial, Keeps.cell k24 hrk trivial⟩ (fun _ h => h) ?_)
          case hs => rfl
          case hx => rfl
          clear hr
          go_simp
          refine pz_one (up_do rfl rfl fun K hK1 => ?_)
          go_simp
          refine hK1 _ _ _ ⟨heap_old hto4.blk _, cell_alloc (Keeps.cell k24 q2 trivial) _, cell_alloc (Keeps.cell k24 hrk trivial) _⟩ (fun _ h => h) ?_
          clear hK1 K
          obtain ⟨g5, cap5, w5, hr, hmat5, hk5, hk5b, _, _⟩ := hto4.mat.push (Nat.le_trans hBw k24.size) ho4 HRLN.out
          have hmx : (Value.slice ma rows.length mc).ownBlock ≠ some x := fun e => by
            obtain ⟨vs, h1, _⟩ := hto4.mat
            obtain ⟨_, cur, hc⟩ := ownsRow_block h1 e
            rw [hto4.blk] at hc; simp at hc
          have hb5 := hk5.at hto4.blk hmx
          have k15 : Same w1 w5 := ((HKW.out.tr k24).trans hk5 fun y hy _ => ⟨trivial, fun e => by
            obtain ⟨vs, h1, _⟩ := hto4.mat
            have := (ownsRow_block h1 e).1
            rw [HB0.out] at this; omega⟩)
          have c5 : w5.cell? ⟨w.heap.size, 2, none⟩ = some (.slice (some ⟨bl, off, none⟩) A.next.length nc) := cell_at (k15.at B1.out trivial) 2
          have r5 : w5.cell? ⟨bl, off + k, none⟩ = some (.slice ra row.length rc) := Keeps.cell (HK1.out.tr k15) HRU.out trivial
          have hto5 := hto4.step hk5 hmat5
          have hK6 : Same w1 (w5.setCell ⟨x, 2, none⟩ (.slice (some ⟨g5, 0, none⟩) (rows.length + 1) cap5)) := k15.setCell (fun hh => by
            have h1 := hto4.low
            have h2 : x < w1.heap.size := hh.1
            rw [HB0.out] at h1; omega) _
          have HF := hide (And.intro hto5 hK6)
          have z1 : w5.cell? ⟨x, 2, none⟩ = some (.slice ma rows.length mc) := cell_at hb5 2
          have z2 := free_at hb5 2
          refine pz_one (up_append _ _ _ rfl rfl rfl ?hs ?hx hr _ ⟨hb5, c5, r5⟩ (fun _ h => h) ?_)
          case hs => rfl
          case hx => rfl
          clear hr
          go_simp
          iterate 1
            (first
               | (apply pz_pass
                  case ho => rfl
                  case hw => rfl
                  go_simp)
               | (apply pz_take
                  case ho => rfl
                  case hw => rfl
                  case hv =>
                    intro w' hS
                    (skip)
                    go_simp
                    exact rfl
                  go_simp))
          clear hto5 hK6 hto4 hmat5 hk5 hk5b hmx hb5 c5 r5 k15 k24 k3 k4 ho3 ho4 kd
          refine pz_last rfl rfl fun K hK => ?_
          go_simp
          refine hK _ _ (np_normal ?_)
          clear hK K z1 z2
          go_wp2_with fail
          go_roundw
          case rel => exact ⟨k + 1, _, by go_num, by omega, hide (by rw [HTK.out]; exact HF.out.1), HF.out.2⟩
          case measure => simp [intOf]; omega
        · obtain rfl : k = A.next.length := by omega
          have hto2 := hto.out
          rw [List.take_length] at hto2
          have h1n := HOK.out.1.2.2.1
          obtain ⟨l0, hl0⟩ : ∃ l0, A.next[0]? = some l0 := ⟨_, List.getElem?_eq_getElem (by have := HOK.out.1.2.2.2.2; omega)⟩
          have hl0n : 0 < l0.length := by rw [(HOK.out.2 l0 (List.mem_of_getElem? hl0)).1]; exact Nat.pow_pos (by decide)
          have HL0 := hide hl0
          have HL0N := hide hl0n
          have H1N := hide h1n
          obtain ⟨va4, vc4, eV⟩ := hto2.mat.shape
          subst eV
          have x0 : wr.cell? ⟨x, 0, none⟩ = some (.int .i64 A.T) := cell_at hto2.blk 0
          have x1 : wr.cell? ⟨x, 1, none⟩ = some (.slice ub A.acc.length uc) := cell_at hto2.blk 1
          have x2 := cell_at hto2.blk 2
          simp only [List.getElem?_toArray, List.getElem?_cons_zero, List.getElem?_cons_succ] at x2
          have HAT := hide (show AutoAt wr _ A from ⟨_, _, rfl, hto2.acc.bools, hto2.mat.rows HOK.out.bounds.2, HOK.out.bounds.1⟩)
          have HT2 := hide hto2
          have HKW := hide hK
          clear hto hto2 hK h1n hl0 hl0n
          go_wp2_with fail
          refine of19 HAT.out HOK.out ?_; rintro e w5 d rfl d5 k5
          obtain ⟨gU, uuc, gV, nnc, g0, c0, b0, y0, eu, ev, cU, fU, cV, cY, fY, lU, l0', nUx, nUV, nU0⟩ := HT2.out.first H1N.out HL0.out HL0N.out
          simp only [Value.slice.injEq] at eu ev
          obtain ⟨rfl, _, rfl⟩ := eu
          obtain ⟨rfl, _, rfl⟩ := ev
          have ltU : gU < wr.heap.size := World.block_lt_of_cell? _ _ cU
          have lt0 : g0 < wr.heap.size := World.block_lt_of_cell? _ _ cY
          rw [← frozen_keep k5 ltU trivial] at fU
          rw [← frozen_keep k5 lt0 trivial] at fY
          have hbx := k5.at HT2.out.blk trivial
          have cU := Keeps.cell k5 cU trivial
          have cV := Keeps.cell k5 cV trivial
          have cY := Keeps.cell k5 cY trivial
          have HK5 := hide (HKW.out.tr k5)
          have D5 := hide d5
          have h1n : 0 < A.acc.length := H1N.out
          have HLU := hide lU
          have HL0' := hide l0'
          have HNU := hide (And.intro nUx (And.intro nUV nU0))
          have HLT := hide (And.intro ltU lt0)
          clear x0 x1 x2 k5 d5 q2 lU l0' nUx nUV nU0 ltU lt0
          go_wp2_with fail
          refine wp_region_planz 8 (.take 0 (.take 1 (.take 2 (.take 3 (.take 4 (.take 5 (.take 6 (.take 7 .last)))))))) (fun w' => w'.heap[x]? = some (.cells #[.int .i64 A.T, .slice (some ⟨gU, 0, none⟩) A.acc.length uc, .slice (some ⟨gV, 0, none⟩) A.next.length vc4] 25 (0, 0)) ∧ w'.cell? ⟨gU, 0, none⟩ = some (.bool b0)) (by kernel_rfl) (by kernel_rfl) ⟨hbx, cU⟩ ?_
          iterate 8
            (first
               | (apply pz_pass
                  case ho => rfl
                  case hw => rfl
                  go_simp)
               | (apply pz_take
                  case ho => rfl
                  case hw => rfl
                  case hv =>
                    intro w' hS
                    (have z1 := cell_at hS.1 1; have z2 := hS.2; simp only [List.getElem?_toArray, List.getElem?_cons_zero, List.getElem?_cons_succ] at z1)
                    go_simp
                    exact rfl
                  go_simp))
          have cUd : w5.drew.cell? ⟨gU, 0, none⟩ = some (.bool b0) := cU
          have fUd : w5.drew.frozen? ⟨gU, 0, none⟩ = false := fU
          refine pz_last rfl rfl fun K hK => ?_
          go_simp
          refine hK _ _ (np_normal ?_)
          clear hK K
          have ks : Keeps (· ≠ gU) w5 (w5.setCell ⟨gU, 0, none⟩ (.bool (!b0))).drew := ((Keeps.refl (· ≠ gU) w5).setCell (fun hh => hh.2 rfl) _).drew
          have hbx6 := ks.at hbx (Ne.symm HNU.out.1)
          have cV6 := Keeps.cell ks cV (Ne.symm HNU.out.2.1)
          have cY6 := Keeps.cell ks cY (Ne.symm HNU.out.2.2)
          have fY6 := (frozen_keep ks (World.block_lt_of_cell? _ _ cY) (p := ⟨g0, 0, none⟩) (Ne.symm HNU.out.2.2)).trans fY
          have K6 : Same w1 (w5.setCell ⟨gU, 0, none⟩ (.bool (!b0))).drew := (HK5.out.setCell (fun hh => by have h1 := HLU.out; have h2 : gU < w1.heap.size := hh.1; rw [HB0.out] at h1; omega) _).drew
          have D6 := D5.out.keep ks (fun b hb _ => by have := HLT.out.1; omega)
          generalize (w5.setCell ⟨gU, 0, none⟩ (.bool (!b0))).drew = w6 at hbx6 cV6 cY6 fY6 K6 D6 ⊢
          clear cU cV cY fU fY cUd fUd hbx ks
          have x2 : w6.cell? ⟨x, 2, none⟩ = some (.slice (some ⟨gV, 0, none⟩) A.next.length vc4) := cell_at hbx6 2
          have hnn : 0 < A.next.length := by have := HOK.out.1.2.2.2.2; omega
          have hl0n := HL0N.out
          go_wp2_with fail
          have k7 : Same w1 (w6.setCell ⟨g0, 0, none⟩ (.int .i64 7)) := K6.setCell (fun hh => by have h1 := HL0'.out; have h2 : g0 < w1.heap.size := hh.1; rw [HB0.out] at h1; omega) _
          have D7 := hide (D6.keep (S := (· ≠ g0)) ((Keeps.refl (· ≠ g0) w6).setCell (p := ⟨g0, 0, none⟩) (fun hh => hh.2 rfl) (.int .i64 7)) (fun b hb _ => by have := HLT.out.2; omega))
          generalize w6.setCell ⟨g0, 0, none⟩ (.int .i64 7) = w7 at k7 D7 ⊢
          have HK7 := hide k7
          clear hbx6 cV6 cY6 fY6 K6 D6 x2 k7 h1n hnn hl0n
          refine dfaTo D7.out ?_; rintro e w8 y8 rfl o8 k8
          obtain ⟨ya, yn, rfl, oya, oyn⟩ := o8
          obtain ⟨yU, yuc, rfl⟩ := ownsRow_shape oya
          obtain ⟨yV, ync, rfl⟩ := oyn.shape
          have OYA := hide oya
          have OYN := hide oyn
          have HK8 := hide k8
          clear oya oyn k8
          have b9 := heap_old ((HK7.out.tr HK8.out).at B1.out trivial) (.cells #[.int .i64 A.T, .slice yU A.acc.length yuc, .slice yV A.next.length ync] 25)
          have q0 : (w8.alloc (.cells #[.int .i64 A.T, .slice yU A.acc.length yuc, .slice yV A.next.length ync] 25)).cell? ⟨w.heap.size, 0, none⟩ = some (.int .i64 A.T) := cell_at b9 0
          have q1 : (w8.alloc (.cells #[.int .i64 A.T, .slice yU A.acc.length yuc, .slice yV A.next.length ync] 25)).cell? ⟨w.heap.size, 1, none⟩ = some (.slice aa A.acc.length ac) := cell_at b9 1
          have q2 : (w8.alloc (.cells #[.int .i64 A.T, .slice yU A.acc.length yuc, .slice yV A.next.length ync] 25)).cell? ⟨w.heap.size, 2, none⟩ = some (.slice na A.next.length nc) := cell_at b9 2
          clear b9
          go_wp2_with fail
          clear q0 q1 q2
          have hty : ToIn (w8.alloc (.cells #[.int .i64 A.T, .slice yU A.acc.length yuc, .slice yV A.next.length ync] 25)) w7.heap.size w8.heap.size A.T (.slice yU A.acc.length yuc) (.slice yV A.next.length ync) A.acc A.next :=
            ⟨heap_new _ _, HK8.out.size, ownsRow_keep OYA.out ((Keeps.refl (fun _ => True) w8).alloc _) fun _ _ => trivial, OYN.out.same ((Keeps.refl _ w8).alloc _)⟩
          have k9 := HK8.out.alloc (.cells #[.int .i64 A.T, .slice yU A.acc.length yuc, .slice yV A.next.length ync] 25)
          generalize w8.alloc (.cells #[.int .i64 A.T, .slice yU A.acc.length yuc, .slice yV A.next.length ync] 25) = w9 at hty k9 ⊢
          generalize w8.heap.size = yx at hty ⊢
          have HTY := hide hty
          have HK9 := hide k9
          have AY := hide (show AutoAt w9 (.agg #[.int .i64 A.T, .slice yU A.acc.length yuc, .slice yV A.next.length ync]) A from ⟨_, _, rfl, hty.acc.bools, hty.mat.rows HOK.out.bounds.2, HOK.out.bounds.1⟩)
          clear hty k9
          refine refSameA AY.out (HA.out.same ((HK1.out.tr HK7.out).tr HK9.out)) ?_; rintro e w10 rfl k10
          have HK10 := hide (HK9.out.tr k10)
          obtain ⟨gU', uuc', gV', nnc', g0', c0', b0', y0', eu, ev, cU, fU, cV, cY, fY, lU, l0', nUx, nUV, nU0⟩ := (HTY.out.same k10).first H1N.out HL0.out HL0N.out
          simp only [Value.slice.injEq] at eu ev
          obtain ⟨rfl, _, rfl⟩ := eu
          obtain ⟨rfl, _, rfl⟩ := ev
          have hbx := k10.at HTY.out.blk trivial
          have h1n : 0 < A.acc.length := H1N.out
          have HLU' := hide lU
          have HL0'' := hide l0'
          have HNU' := hide (And.intro nUx (And.intro nUV nU0))
          clear k10 lU l0' nUx nUV nU0
          go_wp2_with fail
          refine wp_region_planz 8 (.take 0 (.take 1 (.take 2 (.take 3 (.take 4 (.take 5 (.take 6 (.take 7 .last)))))))) (fun w' => w'.heap[yx]? = some (.cells #[.int .i64 A.T, .slice (some ⟨gU', 0, none⟩) A.acc.length yuc, .slice (some ⟨gV', 0, none⟩) A.next.length ync] 25 (0, 0)) ∧ w'.cell? ⟨gU', 0, none⟩ = some (.bool b0')) (by kernel_rfl) (by kernel_rfl) ⟨hbx, cU⟩ ?_
          iterate 8
            (first
               | (apply pz_pass
                  case ho => rfl
                  case hw => rfl
                  go_simp)
               | (apply pz_take
                  case ho => rfl
                  case hw => rfl
                  case hv =>
                    intro w' hS
                    (have z1 := cell_at hS.1 1; have z2 := hS.2; simp only [List.getElem?_toArray, List.getElem?_cons_zero, List.getElem?_cons_succ] at z1)
                    go_simp
                    exact rfl
                  go_simp))
          have cUd : w10.drew.cell? ⟨gU', 0, none⟩ = some (.bool b0') := cU
          have fUd : w10.drew.frozen? ⟨gU', 0, none⟩ = false := fU
          refine pz_last rfl rfl fun K hK => ?_
          go_simp
          refine hK _ _ (np_normal ?_)
          clear hK K
          have ks : Keeps (· ≠ gU') w10 (w10.setCell ⟨gU', 0, none⟩ (.bool (!b0'))).drew := ((Keeps.refl (· ≠ gU') w10).setCell (fun hh => hh.2 rfl) _).drew
          have hbx6 := ks.at hbx (Ne.symm HNU'.out.1)
          have cV6 := Keeps.cell ks cV (Ne.symm HNU'.out.2.1)
          have cY6 := Keeps.cell ks cY (Ne.symm HNU'.out.2.2)
          have fY6 := (frozen_keep ks (World.block_lt_of_cell? _ _ cY) (p := ⟨g0', 0, none⟩) (Ne.symm HNU'.out.2.2)).trans fY
          have K11 : Same w7 (w10.setCell ⟨gU', 0, none⟩ (.bool (!b0'))).drew := (HK10.out.setCell (fun hh => by have h1 := HLU'.out; have h2 : gU' < w7.heap.size := hh.1; omega) _).drew
          generalize (w10.setCell ⟨gU', 0, none⟩ (.bool (!b0'))).drew = w11 at hbx6 cV6 cY6 fY6 K11 ⊢
          clear cU cV cY fU fY cUd fUd hbx ks
          have x2 : w11.cell? ⟨yx, 2, none⟩ = some (.slice (some ⟨gV', 0, none⟩) A.next.length ync) := cell_at hbx6 2
          have hnn : 0 < A.next.length := by have := HOK.out.1.2.2.2.2; omega
          have hl0n := HL0N.out
          go_wp2_with fail
          have k12 : Same w7 (w11.setCell ⟨g0', 0, none⟩ (.int .i64 9)) := K11.setCell (fun hh => by have h1 := HL0''.out; have h2 : g0' < w7.heap.size := hh.1; omega) _
          generalize w11.setCell ⟨g0', 0, none⟩ (.int .i64 9) = w12 at k12 ⊢
          have HK12 := hide k12
          have D12 := hide (D7.out.same k12)
          clear hbx6 cV6 cY6 fY6 K11 x2 k12 h1n hnn hl0n
          refine nilRun _ ?_; rintro e rfl
          go_wp2_with fail
          have b12 := (HK7.out.tr HK12.out).at B1.out trivial
          have q0 : w12.cell? ⟨w.heap.size, 0, none⟩ = some (.int .i64 A.T) := cell_at b12 0
          have q1 : w12.cell? ⟨w.heap.size, 1, none⟩ = some (.slice aa A.acc.length ac) := cell_at b12 1
          have q2 : w12.cell? ⟨w.heap.size, 2, none⟩ = some (.slice na A.next.length nc) := cell_at b12 2
          clear b12
          have kd12 : Same w12 w12.drew := Keeps.drew (Keeps.refl (fun _ => True) w12)
          refine wp_region_plan (.take 0 (.take 2 (.one 1 (.one 3 (.take 4 (.take 5 (.take 6 (.take 7 (.take 8 (.take 9 (.take 10 (.take 11 (.take 12 (.take 13 (.take 15 (.one 14 (.one 16 (.take 17 (.take 18 (.take 19 (.take 20 (.take 21 (.one 22 (.take 23 (.take 24 (.take 25 (.take 26 (.one 27 (.take 28 (.take 29 (.take 30 (.take 31 (.one 32 (.take 33 (.take 34 (.take 35 (.take 36 (.one 37 (.take 38 (.take 39 (.take 40 (.take 41 (.one 42 (.take 43 (.take 44 (.take 45 (.take 46 (.take 47 (.one 48 (.take 49 (.take 50 .done))))))))))))))))))))))))))))))))))))))))))))))))))) (Same w12) (by kernel_rfl) (by kernel_rfl) kd12 ?_
          iterate 2
            (apply pl_take
             case ho => rfl
             case hw => rfl
             case hv =>
               intro w' hw'
               have z0 := Keeps.cell hw' q0 trivial
               have z1 := Keeps.cell hw' q1 trivial
               have z2 := Keeps.cell hw' q2 trivial
               go_simp
               exact rfl
             go_simp)
          refine pl_one (up_do rfl rfl fun K hK1 => ?_)
          go_simp
          refine dfaTo (D12.out.same kd12) ?_; rintro e w13 u13 rfl o13 k13
          have A13 := hide (o13.auto HOK.out)
          obtain ⟨_, _, rfl, _, _⟩ := o13
          have k13 := kd12.tr k13
          refine hK1 (Same w12) _ _ k13 (fun _ h => h) ?_
          clear hK1 K
          refine pl_one (up_do rfl rfl fun K hK1 => ?_)
          go_simp
          refine refSameA A13.out (HA.out.same (((HK1.out.tr HK7.out).tr HK12.out).tr k13)) ?_; rintro e w14 rfl k14
          have k14 := k13.tr k14
          refine hK1 (Same w12) _ _ k14 (fun _ h => h) ?_
          clear hK1 K q0 q1 q2
          iterate 11
            (apply pl_take
             case ho => rfl
             case hw => rfl
             case hv =>
               intro w' hw'
               go_simp
               exact rfl
             go_simp)
          refine pl_one (up_do rfl rfl fun K hK1 => ?_)
          go_simp
          refine nilStates ?_; rintro e rfl
          refine hK1 (Same w12) _ _ k14 (fun _ h => h) ?_
          clear hK1 K
          refine pl_one (up_do rfl rfl fun K hK1 => ?_)
          go_simp
          refine nilDTracks ?_; rintro e rfl
          refine hK1 (Same w12) _ _ k14 (fun _ h => h) ?_
          clear hK1 K
          iterate 5
            (apply pl_take
             case ho => rfl
             case hw => rfl
             case hv =>
               intro w' hw'
               go_simp
               exact rfl
             go_simp)
          refine pl_one (up_do rfl rfl fun K hK1 => ?_)
          go_simp
          refine nilStore ?_; rintro e rfl
          refine hK1 (Same w12) _ _ k14 (fun _ h => h) ?_
          clear hK1 K
          iterate 4
            (apply pl_take
             case ho => rfl
             case hw => rfl
             case hv =>
               intro w' hw'
               go_simp
               exact rfl
             go_simp)
          refine pl_one (up_do rfl rfl fun K hK1 => ?_)
          go_simp
          refine nilRoot ?_; rintro e rfl
          refine hK1 (Same w12) _ _ k14 (fun _ h => h) ?_
          clear hK1 K
          iterate 4
            (apply pl_take
             case ho => rfl
             case hw => rfl
             case hv =>
               intro w' hw'
               go_simp
               exact rfl
             go_simp)
          refine pl_one (up_do rfl rfl fun K hK1 => ?_)
          go_simp
          refine nilStep ?_; rintro e rfl
          refine hK1 (Same w12) _ _ k14 (fun _ h => h) ?_
          clear hK1 K
          iterate 4
            (apply pl_take
             case ho => rfl
             case hw => rfl
             case hv =>
               intro w' hw'
               go_simp
               exact rfl
             go_simp)
          refine pl_one (up_do rfl rfl fun K hK1 => ?_)
          go_simp
          refine nilAccepts ?_; rintro e rfl
          refine hK1 (Same w12) _ _ k14 (fun _ h => h) ?_
          clear hK1 K
          iterate 4
            (apply pl_take
             case ho => rfl
             case hw => rfl
             case hv =>
               intro w' hw'
               go_simp
               exact rfl
             go_simp)
          refine pl_one (up_do rfl rfl fun K hK1 => ?_)
          go_simp
          refine nilTo ?_; rintro e w15 rfl k15
          have k15 := k14.tr k15
          refine hK1 (Same w12) _ _ k15 (fun _ h => h) ?_
          clear hK1 K
          iterate 5
            (apply pl_take
             case ho => rfl
             case hw => rfl
             case hv =>
               intro w' hw'
               have hfd := field_acc w'
               go_simp
               exact rfl
             go_simp)
          refine pl_one (up_do rfl rfl fun K hK1 => ?_)
          go_simp
          refine known19 ?_; rintro e w16 rfl k16
          have k16 := k15.tr k16
          refine hK1 (Same w12) _ _ k16 (fun _ h => h) ?_
          clear hK1 K
          iterate 2
            (apply pl_take
             case ho => rfl
             case hw => rfl
             case hv =>
               intro w' hw'
               go_simp
               exact rfl
             go_simp)
          refine pl_done ?_
          have HF := hide ((HK1.out.tr (HK7.out.tr HK12.out)).tr k16)
          clear k13 k14 k15 k16 kd12
          go_wp2_with fail
          exact HR.out _ _ rfl (HF.out.mono fun _ _ _ => trivial)

end Go.Proofs.Ytgpbjjnfccalbaa
