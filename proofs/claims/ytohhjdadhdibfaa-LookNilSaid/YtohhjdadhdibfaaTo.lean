/- The walk of DFA.To. -/
import Derived.Handy
import Derived.Test.YtohhjdadhdibfaaLaw19d
namespace Go.Proofs.Ytohhjdadhdibfaa
open Go.RowKit

attribute [local irreducible] wpQuiet wpPlan wpPlanZ wpUp

variable {R : Ending → World → Prop} {w : World} {A : Au} {B d : Nat}

theorem OwnMat.keepT {S : Nat → Prop} {w' : World} {v : Value} {rows : List (List Int)} (h : OwnMat w B v rows) (k : Keeps S w w') (hs : ∀ b cur e, w.heap[b]? = some (.cells cur e (0, 0)) → (e = 40 ∨ e = 3) → B ≤ b → S b) : OwnMat w' B v rows := by
  obtain ⟨vs, h1, h2, h3⟩ := h
  refine ⟨vs, ownsRow_keep h1 k fun b hb => ?_, h2, fun i u l hu hl => (h3 i u l hu hl).keep k fun b hb => ?_⟩
  · obtain ⟨hB, cur, hc⟩ := ownsRow_block h1 hb
    exact hs b cur _ hc (.inl rfl) hB
  · obtain ⟨hB, cur, hc⟩ := ownsRow_block (h3 i u l hu hl) hb
    exact hs b cur _ hc (.inr rfl) hB

/-- The value v is an automaton, its rows the call's own (from B on). -/
def OwnAuto (w : World) (B : Nat) (v : Value) (A : Au) : Prop := ∃ va vn, v = .agg #[.int .i64 A.T, va, vn] ∧ OwnBools w B va A.acc ∧ OwnMat w B vn A.next

theorem AuOk.bounds (h : AuOk A) : InI64 A.T ∧ ∀ l ∈ A.next, ∀ x ∈ l, InI64 x :=
  ⟨by have := h.1; unfold InI64; omega, fun l hl => (h.2 l hl).bounds h.1.2.2.2.1⟩

theorem OwnAuto.auto {v : Value} (h : OwnAuto w B v A) (hok : AuOk A) : AutoAt w v A := by
  obtain ⟨va, vn, e, h1, h2⟩ := h
  exact ⟨va, vn, e, h1.bools, h2.rows hok.bounds.2, hok.bounds.1⟩

theorem OwnAuto.same {w' : World} {v : Value} (h : OwnAuto w B v A) (k : Same w w') : OwnAuto w' B v A := by
  obtain ⟨va, vn, e, h1, h2⟩ := h
  exact ⟨va, vn, e, ownsRow_keep h1 k fun _ _ => trivial, h2.same k⟩

theorem OwnAuto.below {B' : Nat} {v : Value} (h : OwnAuto w B v A) (hB : B' ≤ B) : OwnAuto w B' v A := by
  obtain ⟨va, vn, e, h1, h2⟩ := h
  exact ⟨va, vn, e, ownsRow_below h1 hB, h2.below hB⟩

/-- On the way: the variable's block x, the rows so far; all of it from B on. -/
structure ToIn (w : World) (B x : Nat) (T : Int) (u vn : Value) (acc : List Bool) (rows : List (List Int)) : Prop where
  blk : w.heap[x]? = some (.cells #[.int .i64 T, u, vn] 25 (0, 0))
  low : B ≤ x
  acc : OwnBools w B u acc
  mat : OwnMat w B vn rows

variable {x : Nat} {T : Int} {u vn : Value} {acc : List Bool} {rows : List (List Int)}

theorem ToIn.same {w' : World} (h : ToIn w B x T u vn acc rows) (k : Same w w') : ToIn w' B x T u vn acc rows :=
  ⟨k.at h.blk trivial, h.low, ownsRow_keep h.acc k fun _ _ => trivial, h.mat.same k⟩

/-- A row more. -/
theorem ToIn.step {w' : World} {vn' : Value} {rows' : List (List Int)} (h : ToIn w B x T u vn acc rows) (k : Keeps (fun b => vn.ownBlock ≠ some b) w w') (hm : OwnMat w' B vn' rows') : ToIn (w'.setCell ⟨x, 2, none⟩ vn') B x T u vn' acc rows' := by
  have hx : vn.ownBlock ≠ some x := fun e => by
    obtain ⟨vs, h1, _⟩ := h.mat
    obtain ⟨_, cur, hc⟩ := ownsRow_block h1 e
    rw [h.blk] at hc
    simp at hc
  have hb := k.at h.blk hx
  have ks : Keeps (· ≠ x) w' (w'.setCell ⟨x, 2, none⟩ vn') := (Keeps.refl (· ≠ x) w').setCell (fun hh => hh.2 rfl) _
  have ha : OwnBools w' B u acc := ownsRow_keep h.acc k fun b hb e => by
    obtain ⟨vs, h1, _⟩ := h.mat
    obtain ⟨_, c1, h3⟩ := ownsRow_block h1 e
    obtain ⟨_, c2, h4⟩ := ownsRow_block h.acc hb
    rw [h3] at h4; simp at h4
  refine ⟨by rw [heap_setCell_at hb]; simp, h.low, ownsRow_keep ha ks fun b hb2 => ?_, hm.keepT ks fun b cur e hc he _ => ?_⟩
  · rintro rfl
    obtain ⟨_, c1, h1⟩ := ownsRow_block ha hb2
    rw [hb] at h1; simp at h1
  · rintro rfl
    rw [hb] at hc
    simp only [Option.some.injEq, Obj.cells.injEq] at hc
    obtain ⟨_, rfl, _⟩ := hc
    rcases he with he | he <;> exact absurd he (by decide)

theorem roots_bounds {T : Nat} {L : List Nd} {roots : List Int} {next : List (List Int)} (hro : RootsOk T L roots next) (hl : L.length ≤ 1000000) : ∀ x ∈ roots, InI64 x := fun x hx => by
  obtain ⟨i, hi⟩ := List.getElem?_of_mem hx
  have hlt := (List.getElem?_eq_some_iff.1 hi).1
  rw [hro.1] at hlt
  obtain ⟨k, rfl, hk, _⟩ := hro.2 i x _ hi (List.getElem?_eq_getElem hlt)
  unfold InI64; omega

/-- A struct of three cells, stored. -/
theorem set3 {x : Nat} {a b c t0 t1 t2 : Value} {ty : TypeId} (h : w.heap[x]? = some (.cells #[t0, t1, t2] ty (0, 0))) :
    (((w.setCell ⟨x, 0, none⟩ a).setCell ⟨x, 1, none⟩ b).setCell ⟨x, 2, none⟩ c).heap[x]? = some (.cells #[a, b, c] ty (0, 0)) ∧ Keeps (· ≠ x) w (((w.setCell ⟨x, 0, none⟩ a).setCell ⟨x, 1, none⟩ b).setCell ⟨x, 2, none⟩ c) := by
  refine ⟨?_, (((Keeps.refl (· ≠ x) w).setCell (fun hh => hh.2 rfl) _).setCell (fun hh => hh.2 rfl) _).setCell (fun hh => hh.2 rfl) _⟩
  rw [heap_setCell_at (heap_setCell_at (heap_setCell_at h 0 a) 1 b) 2 c]
  rfl

/-- The variable's block, stored whole. -/
theorem ToIn.store {t0 t1 t2 : Value} (h : w.heap[x]? = some (.cells #[t0, t1, t2] 25 (0, 0))) (hx : B ≤ x) (hu : OwnBools w B u acc) :
    ToIn (((w.setCell ⟨x, 0, none⟩ (.int .i64 T)).setCell ⟨x, 1, none⟩ u).setCell ⟨x, 2, none⟩ (.slice none 0 0)) B x T u (.slice none 0 0) acc [] := by
  obtain ⟨h1, h2⟩ := set3 (a := .int .i64 T) (b := u) (c := .slice none 0 0) h
  refine ⟨h1, hx, ownsRow_keep hu h2 fun b hb => ?_, OwnMat.nil _ _⟩
  rintro rfl
  obtain ⟨_, c1, h3⟩ := ownsRow_block hu hb
  rw [h] at h3; simp at h3

set_option maxRecDepth 10000 in
set_option maxHeartbeats 4000000 in
theorem dfaTo (h : DFAAt w B d A) (hR : ∀ e w' v, e = .returned v → OwnAuto w' w.heap.size v A → Same w w' → R e w') :
    Calls Try.prog 19 #[.pointer (some ⟨d, 0, none⟩)] w R := by
  have HR := hide hR
  clear hR
  have hok := h.ok
  have H := hide h
  have HOK := hide hok
  obtain ⟨dva, dvr, s, L, roots, hin, hLl, hro⟩ := h.st
  obtain ⟨aa, ac, rfl⟩ := ownsRow_shape hin.acc
  obtain ⟨ra, rc, rfl⟩ := ownsRow_shape hin.roots
  have d0 := cell_at hin.blk 0
  have d1 := cell_at hin.blk 1
  have d2 := cell_at hin.blk 2
  simp only [List.getElem?_toArray, List.getElem?_cons_zero, List.getElem?_cons_succ] at d0 d1 d2
  have HAB := hide hin.acc.bools
  have HIN := hide hin
  have HRO := hide hro
  obtain ⟨_, _, eqr, hr1, hr2, hrcell⟩ := (hin.roots.ints (roots_bounds hro (by have := hok.1.2.2.2.1; omega))).open
  simp only [Value.slice.injEq] at eqr
  obtain ⟨rfl, _, rfl⟩ := eqr
  unfold maxLen at hr2
  have HRC := hide hrcell
  have HROW := hide (fun (i : Nat) (r : Int) (l : List Int) => rowA_root (i := i) (r := r) (l := l) hro (fun l hl => (hok.2 l hl).1))
  have HNL : Hid (A.next.length = roots.length) := hide hro.1.symm
  clear hrcell
  have H14 := hide (And.intro hok.1.2.2.1 hok.1.2.2.2.1)
  have hkr : Same w (w.alloc (.cells #[.int .i64 0, .slice none 0 0, .slice none 0 0] 25)) := (Keeps.refl _ w).alloc _
  have hbr := heap_new w (.cells #[.int .i64 0, .slice none 0 0, .slice none 0 0] 25)
  have D0 := hide d0
  have D1 := hide d1
  have D2 := hide d2
  clear h hok hin hLl hro d0 d1 d2
  go_enter Try.func19, Try.ntmps19
  go_wp2_with fail
  generalize w.alloc (.cells #[.int .i64 0, .slice none 0 0, .slice none 0 0] 25) = w1 at hkr hbr ⊢
  have HKR := hide hkr
  have HBR := hide hbr
  obtain ⟨W0, hW0⟩ : ∃ W0, W0 = w1.heap.size := ⟨_, rfl⟩
  have HW0 := hide hW0
  clear hkr hbr hW0
  refine wp_region_planz 9 (.take 0 (.take 2 (.take 3 (.take 4 (.take 5 (.two 1 8 (.two 6 8 (.take 7 (.one 8 .last)) (.one 6 (.take 7 .last))) (.one 1 (.one 6 (.take 7 .last))))))))) (Same w1) (by kernel_rfl) (by kernel_rfl) (Keeps.drew (Keeps.refl (fun _ => True) w1)) ?_
  iterate 5
    (first
       | (apply pz_pass
          case ho => rfl
          case hw => rfl
          go_simp)
       | (apply pz_take
          case ho => rfl
          case hw => rfl
          case hv =>
            intro w' hS
            (have q0 := Keeps.cell (HKR.out.tr hS) D0.out trivial)
            go_simp
            exact rfl
          go_simp))
  rename_i K0 hK0
  have CONT : ∀ (x : Nat) (ub : Option Addr) (uc : Nat) (wx : World), ToIn wx W0 x A.T (.slice ub A.acc.length uc) (.slice none 0 0) A.acc [] → Same w1 wx →
      K0 { tmps := #[.pointer (some ⟨d, 0, none⟩), undef, .pointer (some ⟨w.heap.size, 0, none⟩), .pointer (some ⟨x, 0, none⟩), undef, undef, .pointer (some ⟨d, 0, none⟩), .bool false, undef, .pointer (some ⟨d, 0, none⟩), .int .i64 A.T,
        .pointer (some ⟨d, 0, none⟩), .pointer (some ⟨d, 0, none⟩), .pointer (some ⟨d, 0, none⟩), .slice aa A.acc.length ac, .slice ub A.acc.length uc, .agg #[.int .i64 A.T, .slice ub A.acc.length uc, .slice none 0 0],
        undef, undef, undef, undef, undef, undef, undef, undef, undef, undef, undef, undef, undef, undef, undef, undef, undef, undef, undef, undef, undef, undef], defers := [] } wx := by
    intro x ub uc wx hto hkx
    have e1 := Keeps.cell (HKR.out.tr hkx) D1.out trivial
    have HTO := hide hto
    have HKX := hide hkx
    clear hto hkx
    go_wp2_with fail
    go_loopw [22] (fun i wr => ∃ (k : Nat) (vn : Value), i = .int .i64 k ∧ k ≤ roots.length ∧ Hid (ToIn wr W0 x A.T (.slice ub A.acc.length uc) vn A.acc (A.next.take k)) ∧ Same w1 wr) (fun i _ => roots.length - (intOf i).toNat)
    case atStart => exact ⟨0, _, rfl, Nat.zero_le _, hide (by simpa using HTO.out), HKX.out⟩
    case round =>
      clear e1
      obtain ⟨k, vn, rfl, hk, hto, hK⟩ := hrel
      by_cases hlt : k < roots.length
      · obtain ⟨rb, roff, rfl, _, hrcl⟩ := HRC.out k hlt
        have p1 := Keeps.cell (HKR.out.tr hK) (hrcl k hlt) trivial
        have hkn : k < A.next.length := by rw [HNL.out]; exact hlt
        have HRA := hide (HROW.out k _ _ (List.getElem?_eq_getElem hlt) (List.getElem?_eq_getElem hkn))
        have HTK := hide (List.take_succ_eq_append_getElem hkn)
        have HRL : Hid ((A.next.take k).length + 1 ≤ 1000000) := hide (by have := H14.out.2; have := HOK.out.1.2.2.2.2; simp; omega)
        generalize roots[k] = r1 at p1 HRA
        generalize A.next[k] = row at HRA HTK
        generalize A.next.take k = rows at hto HTK HRL
        obtain ⟨ma, mc, rfl⟩ := hto.mat.shape
        have d2 := Keeps.cell (HKR.out.tr hK) D2.out trivial
        have HTO2 := hide hto
        have HKW := hide hK
        clear hrcl hto hK
        go_wp2_with fail
        refine wp_region_planz 11 (.take 0 (.take 1 (.take 2 (.take 3 (.take 4 (.take 5 (.take 6 (.one 7 (.one 8 (.one 9 (.take 10 .last))))))))))) (fun w' => w'.heap[x]? = some (.cells #[.int .i64 A.T, .slice ub A.acc.length uc, .slice ma rows.length mc] 25 (0, 0)) ∧ w'.cell? ⟨d, 2, none⟩ = some (.pointer (some ⟨s, 0, none⟩))) (by kernel_rfl) (by kernel_rfl) ⟨HTO2.out.blk, d2⟩ ?_
        iterate 7
          (first
             | (apply pz_pass
                case ho => rfl
                case hw => rfl
                go_simp)
             | (apply pz_take
                case ho => rfl
                case hw => rfl
                case hv =>
                  intro w' hS
                  (have q2 := cell_at hS.1 2; have q3 := hS.2; simp only [List.getElem?_toArray, List.getElem?_cons_zero, List.getElem?_cons_succ] at q2)
                  go_simp
                  exact rfl
                go_simp))
        have kd : Same wr wr.drew := Keeps.drew (Keeps.refl (fun _ => True) wr)
        have hBw : W0 ≤ wr.heap.size := by rw [HW0.out]; exact HKW.out.size
        refine pz_one (up_do rfl rfl fun K hK1 => ?_)
        go_simp
        refine storeRow (HIN.out.store.same ((HKR.out.tr HKW.out).tr kd)) r1 ?_; rintro e w3 u3 rfl o3 k3
        rw [HRA.out] at o3
        obtain ⟨sa, sc, rfl⟩ := o3.shape
        have kk := kd.tr k3
        have hto3 := HTO2.out.same kk
        have d3 := Keeps.cell kk d2 trivial
        refine hK1 _ _ _ ⟨hto3.blk, d3⟩ (fun _ h => h) ?_
        clear hK1 K
        refine pz_one (up_do rfl rfl fun K hK1 => ?_)
        go_simp
        refine hK1 _ _ _ ⟨heap_old hto3.blk _, cell_alloc d3 _⟩ (fun _ h => h) ?_
        clear hK1 K
        obtain ⟨g, cap, w5, hr, hmat5, hk5, hk5b, _, _⟩ := hto3.mat.push (Nat.le_trans hBw kk.size) (ownsRow_below o3 (Nat.le_trans hBw kd.size)) HRL.out
        have hmx : (Value.slice ma rows.length mc).ownBlock ≠ some x := fun e => by
          obtain ⟨vs, h1, _⟩ := hto3.mat
          obtain ⟨_, cur, hc⟩ := ownsRow_block h1 e
          rw [hto3.blk] at hc; simp at hc
        have hb5 := hk5.at hto3.blk hmx
        have d5 : w5.cell? ⟨d, 2, none⟩ = some (.pointer (some ⟨s, 0, none⟩)) := Keeps.cell (((HKR.out.tr HKW.out).tr kk).trans hk5b (S'' := fun _ => True) fun y hy _ => ⟨trivial, by rw [HW0.out]; exact Nat.lt_of_lt_of_le hy HKR.out.size⟩) D2.out trivial
        refine pz_one (up_append _ _ _ rfl rfl rfl ?hs ?hx hr _ ⟨hb5, d5⟩ (fun _ h => h) ?_)
        case hs => rfl
        case hx => rfl
        clear hr
        go_simp
        iterate 1
          (first
             | (apply pz_pass
                case ho => rfl
                case hw => rfl
                go_simp)
             | (apply pz_take
                case ho => rfl
                case hw => rfl
                case hv =>
                  intro w' hS
                  (skip)
                  go_simp
                  exact rfl
                go_simp))
        have z1 := cell_at hb5 2
        have z2 := free_at hb5 2
        simp only [List.getElem?_toArray, List.getElem?_cons_zero, List.getElem?_cons_succ] at z1
        have hto6 := hto3.step hk5 hmat5
        have hK6 : Same w1 (w5.setCell ⟨x, 2, none⟩ (.slice (some ⟨g, 0, none⟩) (rows.length + 1) cap)) := by
          refine ((HKW.out.tr kk).trans hk5 fun y hy _ => ⟨trivial, fun e => ?_⟩).setCell (fun hh => ?_) _
          · obtain ⟨vs, h1, _⟩ := hto3.mat
            have := (ownsRow_block h1 e).1
            rw [HW0.out] at this; omega
          · have h1 := hto3.low
            have h2 : x < w1.heap.size := hh.1
            rw [HW0.out] at h1; omega
        have HF := hide (And.intro hto6 hK6)
        clear hto6 hK6 hto3 d3 kk kd o3 k3 hmat5 hk5 hk5b hmx d5 d2
        refine pz_last rfl rfl fun K hK => ?_
        go_simp
        refine hK _ _ (np_normal ?_)
        clear hK K z1 z2 hb5
        go_wp2_with fail
        go_roundw
        case rel => exact ⟨k + 1, _, by go_num, by omega, hide (by rw [HTK.out]; exact HF.out.1), HF.out.2⟩
        case measure => simp [intOf]; omega
      · obtain rfl : k = roots.length := by omega
        have hto2 := hto.out
        rw [List.take_of_length_le (by rw [HNL.out]; exact Nat.le_refl _)] at hto2
        obtain ⟨ma, mc, rfl⟩ := hto2.mat.shape
        have x0 := cell_at hto2.blk 0
        have x1 := cell_at hto2.blk 1
        have x2 := cell_at hto2.blk 2
        have hbr := hK.at HBR.out trivial
        have r0 := cell_at hbr 0
        have r1 := cell_at hbr 1
        have r2 := cell_at hbr 2
        simp only [List.getElem?_toArray, List.getElem?_cons_zero, List.getElem?_cons_succ] at x0 x1 x2 r0 r1 r2
        have f0 := free_at hbr 0
        have f1 := free_at hbr 1
        have f2 := free_at hbr 2
        clear hto
        go_wp2_with fail
        have h3 := set3 (a := .int .i64 A.T) (b := .slice ub A.acc.length uc) (c := .slice ma A.next.length mc) hbr
        have hob := ownsRow_keep hto2.acc h3.2 fun b hb => by
          rintro rfl
          obtain ⟨_, c1, h4⟩ := ownsRow_block hto2.acc hb
          rw [hbr] at h4; simp at h4
        have hom := hto2.mat.keepT h3.2 fun b cur e hc he _ => by
          rintro rfl
          rw [hbr] at hc
          simp only [Option.some.injEq, Obj.cells.injEq] at hc
          obtain ⟨_, rfl, _⟩ := hc
          rcases he with he | he <;> exact absurd he (by decide)
        have hkf : Same w (((wr.setCell ⟨w.heap.size, 0, none⟩ (.int .i64 A.T)).setCell ⟨w.heap.size, 1, none⟩ (.slice ub A.acc.length uc)).setCell ⟨w.heap.size, 2, none⟩ (.slice ma A.next.length mc)) :=
          (((HKR.out.tr hK).setCell (fun hh => Nat.lt_irrefl _ hh.1) _).setCell (fun hh => Nat.lt_irrefl _ hh.1) _).setCell (fun hh => Nat.lt_irrefl _ hh.1) _
        have hfin : OwnAuto (((wr.setCell ⟨w.heap.size, 0, none⟩ (.int .i64 A.T)).setCell ⟨w.heap.size, 1, none⟩ (.slice ub A.acc.length uc)).setCell ⟨w.heap.size, 2, none⟩ (.slice ma A.next.length mc)) w.heap.size (.agg #[.int .i64 A.T, .slice ub A.acc.length uc, .slice ma A.next.length mc]) A :=
          ⟨_, _, rfl, ownsRow_below hob (by rw [HW0.out]; exact HKR.out.size), hom.below (by rw [HW0.out]; exact HKR.out.size)⟩
        have hb3 := h3.1
        generalize ((wr.setCell ⟨w.heap.size, 0, none⟩ (.int .i64 A.T)).setCell ⟨w.heap.size, 1, none⟩ (.slice ub A.acc.length uc)).setCell ⟨w.heap.size, 2, none⟩ (.slice ma A.next.length mc) = wf at hb3 hkf hfin ⊢
        have y0 := cell_at hb3 0
        have y1 := cell_at hb3 1
        have y2 := cell_at hb3 2
        simp only [List.getElem?_toArray, List.getElem?_cons_zero, List.getElem?_cons_succ] at y0 y1 y2
        refine bodyPost_ret (v := .agg #[.int .i64 A.T, .slice ub A.acc.length uc, .slice ma A.next.length mc]) (by simp [results, Try.results19, go_sem, y0, y1, y2]) rfl ?_
        exact HR.out _ _ _ rfl hfin hkf
  have CONT := hide CONT
  have kd : Same w1 w1.drew := Keeps.drew (Keeps.refl (fun _ => True) w1)
  have HD := hide (H.out.same (HKR.out.tr kd))
  have HAB1 := hide (HAB.out.same (HKR.out.tr kd))
  have hB1 : W0 ≤ w1.heap.size := by rw [HW0.out]; exact Nat.le_refl _
  refine pz_two ?_ ?_
  · refine up_do rfl rfl fun K hK1 => ?_
    go_simp
    refine dfaTracks HD.out ?_; rintro e rfl
    refine hK1 (Same w1) _ _ kd (fun _ h => h) ?_
    clear hK1 K
    refine pz_two ?_ ?_
    · refine up_do rfl rfl fun K hK1 => ?_
      go_simp
      refine cloneBools HAB1.out H14.out.1 (by have := H14.out.2; omega) ?_; rintro e w2 u2 rfl o2 k2
      obtain ⟨ub, uc, rfl⟩ := ownsRow_shape o2
      refine hK1 (Same w1) _ _ (kd.tr k2) (fun _ h => h) ?_
      clear hK1 K
      iterate 1
        (first
           | (apply pz_pass
              case ho => rfl
              case hw => rfl
              go_simp)
           | (apply pz_take
              case ho => rfl
              case hw => rfl
              case hv =>
                intro w' hS
                (skip)
                go_simp
                exact rfl
              go_simp))
      refine pz_one (up_do rfl rfl fun K hK1 => ?_)
      go_simp
      refine hK1 (Same w1) _ _ ((kd.tr k2).alloc _) (fun _ h => h) ?_
      clear hK1 K
      refine pz_last rfl rfl fun K hK => ?_
      go_simp
      have hto : ToIn (w2.alloc (.cells #[.int .i64 A.T, .slice ub A.acc.length uc, .slice none 0 0] 25)) W0 w2.heap.size A.T (.slice ub A.acc.length uc) (.slice none 0 0) A.acc [] :=
        ⟨heap_new _ _, Nat.le_trans hB1 k2.size, ownsRow_below (ownsRow_keep o2 ((Keeps.refl (fun _ => True) w2).alloc _) fun _ _ => trivial) hB1, OwnMat.nil _ _⟩
      exact hK _ _ (np_normal (CONT.out _ ub uc _ hto ((kd.tr k2).alloc _)))
    · refine up_do rfl rfl fun K hK1 => ?_
      go_simp
      have hx : (w1.drew.alloc (.cells #[.int .i64 0, .slice none 0 0, .slice none 0 0] 25)).heap[w1.heap.size]? = some (.cells #[.int .i64 0, .slice none 0 0, .slice none 0 0] 25 (0, 0)) := heap_new w1.drew _
      have kx := kd.alloc (.cells #[.int .i64 0, .slice none 0 0, .slice none 0 0] 25)
      refine hK1 (fun w' => Same w1 w' ∧ w'.heap[w1.heap.size]? = some (.cells #[.int .i64 0, .slice none 0 0, .slice none 0 0] 25 (0, 0))) _ _ ⟨kx, hx⟩ (fun _ h => h.1) ?_
      clear hK1 K
      refine pz_one (up_do rfl rfl fun K hK1 => ?_)
      go_simp
      refine cloneBools (HAB.out.same (HKR.out.tr kx)) H14.out.1 (by have := H14.out.2; omega) ?_; rintro e w2 u2 rfl o2 k2
      obtain ⟨ub, uc, rfl⟩ := ownsRow_shape o2
      have hx2 := k2.at hx trivial
      refine hK1 _ _ _ ⟨kx.tr k2, hx2⟩ (fun _ h => h) ?_
      clear hK1 K
      iterate 1
        (first
           | (apply pz_pass
              case ho => rfl
              case hw => rfl
              go_simp)
           | (apply pz_take
              case ho => rfl
              case hw => rfl
              case hv =>
                intro w' hS
                (skip)
                go_simp
                exact rfl
              go_simp))
      have z0 := cell_at hx2 0
      have z1 := cell_at hx2 1
      have z2 := cell_at hx2 2
      simp only [List.getElem?_toArray, List.getElem?_cons_zero, List.getElem?_cons_succ] at z0 z1 z2
      have f0 := free_at hx2 0
      have f1 := free_at hx2 1
      have f2 := free_at hx2 2
      refine pz_last rfl rfl fun K hK => ?_
      go_simp
      have hto : ToIn (((w2.setCell ⟨w1.heap.size, 0, none⟩ (.int .i64 A.T)).setCell ⟨w1.heap.size, 1, none⟩ (.slice ub A.acc.length uc)).setCell ⟨w1.heap.size, 2, none⟩ (.slice none 0 0)) W0 w1.heap.size A.T (.slice ub A.acc.length uc) (.slice none 0 0) A.acc [] :=
        ToIn.store hx2 hB1 (ownsRow_below o2 (Nat.le_trans hB1 kx.size))
      have hkx : Same w1 (((w2.setCell ⟨w1.heap.size, 0, none⟩ (.int .i64 A.T)).setCell ⟨w1.heap.size, 1, none⟩ (.slice ub A.acc.length uc)).setCell ⟨w1.heap.size, 2, none⟩ (.slice none 0 0)) :=
        (((kx.tr k2).setCell (fun hh => Nat.lt_irrefl _ hh.1) _).setCell (fun hh => Nat.lt_irrefl _ hh.1) _).setCell (fun hh => Nat.lt_irrefl _ hh.1) _
      exact hK _ _ (np_normal (CONT.out _ ub uc _ hto hkx))
  · refine up_do rfl rfl fun K hK1 => ?_
    go_simp
    have hx : (w1.drew.alloc (.cells #[.int .i64 0, .slice none 0 0, .slice none 0 0] 25)).heap[w1.heap.size]? = some (.cells #[.int .i64 0, .slice none 0 0, .slice none 0 0] 25 (0, 0)) := heap_new w1.drew _
    have kx := kd.alloc (.cells #[.int .i64 0, .slice none 0 0, .slice none 0 0] 25)
    refine hK1 (fun w' => Same w1 w' ∧ w'.heap[w1.heap.size]? = some (.cells #[.int .i64 0, .slice none 0 0, .slice none 0 0] 25 (0, 0))) _ _ ⟨kx, hx⟩ (fun _ h => h.1) ?_
    clear hK1 K
    refine pz_one (up_do rfl rfl fun K hK1 => ?_)
    go_simp
    refine dfaTracks (H.out.same (HKR.out.tr kx)) ?_; rintro e rfl
    refine hK1 _ _ _ ⟨kx, hx⟩ (fun _ h => h) ?_
    clear hK1 K
    refine pz_one (up_do rfl rfl fun K hK1 => ?_)
    go_simp
    refine cloneBools (HAB.out.same (HKR.out.tr kx)) H14.out.1 (by have := H14.out.2; omega) ?_; rintro e w2 u2 rfl o2 k2
    obtain ⟨ub, uc, rfl⟩ := ownsRow_shape o2
    have hx2 := k2.at hx trivial
    refine hK1 _ _ _ ⟨kx.tr k2, hx2⟩ (fun _ h => h) ?_
    clear hK1 K
    iterate 1
      (first
         | (apply pz_pass
            case ho => rfl
            case hw => rfl
            go_simp)
         | (apply pz_take
            case ho => rfl
            case hw => rfl
            case hv =>
              intro w' hS
              (skip)
              go_simp
              exact rfl
            go_simp))
    have z0 := cell_at hx2 0
    have z1 := cell_at hx2 1
    have z2 := cell_at hx2 2
    simp only [List.getElem?_toArray, List.getElem?_cons_zero, List.getElem?_cons_succ] at z0 z1 z2
    have f0 := free_at hx2 0
    have f1 := free_at hx2 1
    have f2 := free_at hx2 2
    refine pz_last rfl rfl fun K hK => ?_
    go_simp
    have hto : ToIn (((w2.setCell ⟨w1.heap.size, 0, none⟩ (.int .i64 A.T)).setCell ⟨w1.heap.size, 1, none⟩ (.slice ub A.acc.length uc)).setCell ⟨w1.heap.size, 2, none⟩ (.slice none 0 0)) W0 w1.heap.size A.T (.slice ub A.acc.length uc) (.slice none 0 0) A.acc [] :=
      ToIn.store hx2 hB1 (ownsRow_below o2 (Nat.le_trans hB1 kx.size))
    have hkx : Same w1 (((w2.setCell ⟨w1.heap.size, 0, none⟩ (.int .i64 A.T)).setCell ⟨w1.heap.size, 1, none⟩ (.slice ub A.acc.length uc)).setCell ⟨w1.heap.size, 2, none⟩ (.slice none 0 0)) :=
      (((kx.tr k2).setCell (fun hh => Nat.lt_irrefl _ hh.1) _).setCell (fun hh => Nat.lt_irrefl _ hh.1) _).setCell (fun hh => Nat.lt_irrefl _ hh.1) _
    exact hK _ _ (np_normal (CONT.out _ ub uc _ hto hkx))

end Go.Proofs.Ytohhjdadhdibfaa
