/- The walk of sibylref24.finer. -/
import Derived.Test.YtgpgbkoaopfjkaaMinRef1
namespace Go.Proofs.Ytgpgbkoaopfjkaa
open Go.RowKit

attribute [local irreducible] wpQuiet wpPlan wpPlanZ wpUp

variable {R : Ending → World → Prop} {w : World} {A : Au} {B d : Nat}

/-- The state: what is told in vo, the rows told apart in vn. -/
structure FnSt (W : Nat) (w1 wr : World) (vo vn : Value) (out : List Int) (rows : List (List Int)) : Prop where
  own : OwnInts wr W vo out
  mat : ∃ vs : List Value, wr.ownsRow W 42 1 vn rows.length vs ∧ vs.length = rows.length ∧ ∀ (i : Nat) (u : Value) (q : List Int), vs[i]? = some u → rows[i]? = some q → OwnInts wr W u q ∧ ∀ b, u.ownBlock = some b → vo.ownBlock ≠ some b
  keep : Same w1 wr
  low : W = w1.heap.size

variable {W : Nat} {w1 wr : World} {vo vn : Value} {out : List Int} {rows : List (List Int)}

theorem FnSt.same {wr' : World} (h : FnSt W w1 wr vo vn out rows) (k : Same wr wr') : FnSt W w1 wr' vo vn out rows := by
  obtain ⟨vs, h1, h2, h3⟩ := h.mat
  exact ⟨h.own.same k, ⟨vs, ownsRow_keep h1 k fun _ _ => trivial, h2, fun i u q hu hq => ⟨(h3 i u q hu hq).1.same k, (h3 i u q hu hq).2⟩⟩, h.keep.tr k, h.low⟩

theorem FnSt.size (h : FnSt W w1 wr vo vn out rows) : W ≤ wr.heap.size := by have := h.low; have := h.keep.size; omega

theorem FnSt.pushOut (h : FnSt W w1 wr vo vn out rows) (y : Int) (hl : out.length ≤ 1000) :
    ∃ g cap w', (Builtin.append_ #[42, 42] 42 #[vo, .slice (some ⟨wr.heap.size, 0, none⟩) 1 1]).run Try.prog (wr.alloc (.cells #[.int .i64 y] 3)) = .ok (.slice (some ⟨g, 0, none⟩) (out.length + 1) cap) w' ∧
      FnSt W w1 w' (.slice (some ⟨g, 0, none⟩) (out.length + 1) cap) vn (out ++ [y]) rows := by
  obtain ⟨g, cap, w', hr, own2, k2, hg, _⟩ := append_one (P := Try.prog) wr 42 42 3 Try.underlying42 int_info rfl h.own h.size (.int .i64 y) rfl (by omega) (by decide)
  obtain ⟨vs, h1, h2, h3⟩ := h.mat
  refine ⟨g, cap, w', hr, ?_, ⟨vs, ownsRow_keep h1 k2 fun b hb e => own_ne h1 h.own (by decide) b hb e, h2, fun i u q hu hq => ?_⟩, h.keep.trans k2 fun b hb _ => ⟨trivial, fun e => ?_⟩, h.low⟩
  · unfold OwnInts; simpa using own2
  · obtain ⟨n1, n2⟩ := h3 i u q hu hq
    refine ⟨n1.keep k2 fun b hb => n2 b hb, fun b hb e => ?_⟩
    simp [Value.ownBlock] at e
    subst e
    rcases hg with hg | hg
    · exact n2 _ hb hg
    · have := (n1.low hb).2; omega
  · have := (h.own.low e).1; have := h.low; omega

theorem FnSt.pushRow {u : Value} {q : List Int} (h : FnSt W w1 wr vo vn out rows) (hu : OwnInts wr W u q) (ha : ∀ b, u.ownBlock = some b → vo.ownBlock ≠ some b) (hl : rows.length ≤ 1000) :
    ∃ g cap w', (Builtin.append_ #[31, 31] 31 #[vn, .slice (some ⟨wr.heap.size, 0, none⟩) 1 1]).run Try.prog (wr.alloc (.cells #[u] 42)) = .ok (.slice (some ⟨g, 0, none⟩) (rows.length + 1) cap) w' ∧
      FnSt W w1 w' vo (.slice (some ⟨g, 0, none⟩) (rows.length + 1) cap) out (rows ++ [q]) := by
  obtain ⟨vs, h1, h2, h3⟩ := h.mat
  have hone : u.oneCell' = true := by
    obtain ⟨a, c, rfl⟩ := hu.shape; rfl
  obtain ⟨g, cap, w5, q1, q2, k5, _, _⟩ := append_wide (P := Try.prog) wr 31 31 42 Try.underlying31 ints_info rfl h1 h.size u hone (by omega) (by decide)
  have ki : ∀ {z : Value} {l : List Int}, OwnInts wr W z l → OwnInts w5 W z l := fun ho => ho.keep k5 fun b hb e => own_ne h1 ho (by decide) b e hb
  refine ⟨g, cap, w5, q1, ki h.own, ⟨vs ++ [u], by simpa using q2, by simp [h2], fun i z l hz hm => ?_⟩, h.keep.trans k5 fun b hb _ => ⟨trivial, fun e => ?_⟩, h.low⟩
  · by_cases hi : i < rows.length
    · rw [List.getElem?_append_left (by omega)] at hz
      rw [List.getElem?_append_left hi] at hm
      obtain ⟨n1, n2⟩ := h3 i z l hz hm
      exact ⟨ki n1, n2⟩
    · have hi2 : i = rows.length := by
        have := (List.getElem?_eq_some_iff.1 hm).1
        simp at this; omega
      subst hi2
      rw [List.getElem?_append_right (by omega)] at hz hm
      simp [h2] at hz hm
      subst hz; subst hm
      exact ⟨ki hu, ha⟩
  · have := (ownsRow_block h1 e).1; have := h.low; omega

/-- A row's cell. -/
theorem FnSt.row (h : FnSt W w1 wr vo vn out rows) {i : Nat} {q : List Int} (hq : rows[i]? = some q) :
    ∃ gm cm a c, vn = .slice (some ⟨gm, 0, none⟩) rows.length cm ∧ cm ≤ maxLen ∧ wr.cell? ⟨gm, i, none⟩ = some (.slice a q.length c) ∧ OwnInts wr W (.slice a q.length c) q := by
  obtain ⟨vs, h1, h2, h3⟩ := h.mat
  have hlt := (List.getElem?_eq_some_iff.1 hq).1
  obtain ⟨u, hu⟩ : ∃ u, vs[i]? = some u := ⟨_, List.getElem?_eq_getElem (by omega)⟩
  obtain ⟨ho, _⟩ := h3 i u q hu hq
  obtain ⟨a, c, rfl⟩ := ho.shape
  rcases h1 with ⟨_, ⟨_, h0⟩ | ⟨g', cap, cur, rfl, hB, hg, q1, q2, q3, q4⟩⟩
  · omega
  · refine ⟨g', cap, a, c, rfl, q2, ?_, ho⟩
    rw [cell_at hg]
    rw [← q4, List.getElem?_take] at hu
    split at hu
    · simpa using hu
    · cases hu

theorem FnSt.mshape (h : FnSt W w1 wr vo vn out rows) : ∃ s c, vn = .slice s rows.length c := by
  obtain ⟨vs, h1, _⟩ := h.mat
  exact ownsRow_shape h1

theorem idx_first {α : Type} [DecidableEq α] {l : List α} {x : α} {q : Nat} (hq : l[q]? = some x) (hn : ∀ j, j < q → l[j]? ≠ some x) : l.idxOf x = q := by
  have hm : x ∈ l := List.mem_of_getElem? hq
  have hlt := List.idxOf_lt_length_of_mem hm
  have hg := List.getElem_idxOf hlt
  rcases Nat.lt_trichotomy (l.idxOf x) q with h | h | h
  · exact absurd (by rw [List.getElem?_eq_getElem hlt, hg]) (hn _ h)
  · exact h
  · exfalso
    have h2 := (List.getElem?_eq_some_iff.1 hq)
    have h3 := List.not_of_lt_findIdx (p := (· == x)) (xs := l) (i := q) h
    rw [h2.2] at h3
    simp at h3

theorem idxP_snoc {α : Type} [DecidableEq α] {l : List α} {x : α} (h : x ∉ l) : idxP (l ++ [x]) x = l.length :=
  idx_first (by simp) fun j hj e => by
    rw [List.getElem?_append_left hj] at e
    exact h (List.mem_of_getElem? e)

theorem map_nat_inj {a b : List Nat} : a.map Int.ofNat = b.map Int.ofNat ↔ a = b := by
  constructor
  · intro e
    have h4 := congrArg (List.map Int.toNat) e
    simpa [List.map_map, Function.comp_def] using h4
  · rintro rfl; rfl

/-- The rows of the first k states. -/
def sigsK (A : Au) (cls : List Nat) (k : Nat) : List (List Nat) := (List.range k).map (sigR A cls)

theorem sigsK_snoc (A : Au) (cls : List Nat) (k : Nat) : sigsK A cls (k + 1) = sigsK A cls k ++ [sigR A cls k] := by
  unfold sigsK; rw [List.range_succ, List.map_append]; rfl

theorem sigsK_numb (A : Au) (k : Nat) : numb (sigsK A (clsK A k) A.acc.length) = clsK A (k + 1) ∧ (nub (sigsK A (clsK A k) A.acc.length)).length = cntK A (k + 1) := by
  have := numb_same (l := sigsK A (clsK A k) A.acc.length) (m := (List.range A.acc.length).map (sig A (clsK A k))) (by simp [sigsK]) fun i h1 j h2 => by
    simp only [sigsK, List.getElem_map, List.getElem_range]
    exact sigR_inj
  exact this

set_option maxRecDepth 10000 in
set_option maxHeartbeats 4000000 in
theorem refFiner {v cv : Value} {cls : List Nat} (hA : AutoAt w v A) (hok : AuOk A) (hc : IntsAt w cv (cls.map Int.ofNat)) (hl : cls.length = A.acc.length) (hcs : ∀ x ∈ cls, x ≤ 1000)
    (hR : ∀ e w' u, e = .returned (.tuple #[u, .int .i64 ((nub (sigsK A cls A.acc.length)).length : Int)]) → OwnInts w' w.heap.size u ((numb (sigsK A cls A.acc.length)).map Int.ofNat) → Same w w' → R e w') :
    Calls Try.prog 88 #[v, cv] w R := by
  have HR := hide hR
  clear hR
  have HOK := hide hok
  have HA := hide hA
  obtain ⟨va, vn, rfl, hacc, hnext, hT⟩ := hA
  obtain ⟨aa, ac', rfl, _, ha2, _⟩ := hacc.open
  obtain ⟨na, nc, rfl, _⟩ := hnext.open
  have hn1 : 0 < A.acc.length := hok.1.2.2.1
  have hn4 : A.acc.length ≤ 400 := hok.1.2.2.2.1
  have HC := hide hc
  obtain ⟨ca, cc, rfl, hcc1, hcc2, _⟩ := hc.open
  have HLC := hide hl
  have HCS := hide hcs
  have hbx := heap_new w (.cells #[.int .i64 A.T, .slice aa A.acc.length ac', .slice na A.next.length nc] 33)
  have hk1 : Same w (w.alloc (.cells #[.int .i64 A.T, .slice aa A.acc.length ac', .slice na A.next.length nc] 33)) := (Keeps.refl _ w).alloc _
  unfold maxLen at ha2 hcc2
  rw [List.length_map, hl] at HC hcc1 ⊢
  obtain ⟨W0, hW0⟩ : ∃ W0, W0 = w.heap.size := ⟨_, rfl⟩
  rw [← hW0] at HR
  have HW0 := hide hW0
  clear hok hacc hnext hT hc hl hcs hW0
  go_enter Try.func88, Try.ntmps88
  go_wp2_with fail
  generalize w.alloc (.cells #[.int .i64 A.T, .slice aa A.acc.length ac', .slice na A.next.length nc] 33) = w1 at hbx hk1 ⊢
  generalize w.heap.size = xb at hbx ⊢
  obtain ⟨W, hW⟩ : ∃ W, W = w1.heap.size := ⟨_, rfl⟩
  have HW := hide hW
  have HBX := hide hbx
  have HK1 := hide hk1
  clear hbx hk1
  go_loopw [6, 7, 8] (fun vn vo i wr => ∃ k : Nat, i = .int .i64 k ∧ k ≤ A.acc.length ∧ Hid (FnSt W w1 wr vo vn ((numb (sigsK A cls k)).map Int.ofNat) ((nub (sigsK A cls k)).map fun r => r.map Int.ofNat))) (fun _ _ i _ => A.acc.length - (intOf i).toNat)
  case atStart => exact ⟨0, rfl, Nat.zero_le _, ⟨World.ownsRow_nil _ _ _ _, ⟨[], World.ownsRow_nil _ _ _ _, rfl, fun i u q hu => by simp at hu⟩, Keeps.refl _ _, hW⟩⟩
  case round =>
    obtain ⟨k, rfl, hk, hst⟩ := hrel
    have hS := hst.out.keep.at HBX.out trivial
    have q0 := cell_at hS 0; have q1 := cell_at hS 1; have q2 := cell_at hS 2; simp only [List.getElem?_toArray, List.getElem?_cons_zero, List.getElem?_cons_succ] at q0 q1 q2
    have hnl : (numb (sigsK A cls k)).length = k := by rw [numb_length]; simp [sigsK]
    have hnb : (nub (sigsK A cls k)).length ≤ k := Nat.le_trans (nub_le _) (by simp [sigsK])
    obtain ⟨sa, sc, rfl⟩ : ∃ sa sc, u6 = .slice sa (nub (sigsK A cls k)).length sc := by simpa using hst.out.mshape
    obtain ⟨oa, oc, rfl⟩ : ∃ oa oc, u7 = .slice oa k oc := by have := hst.out.own.shape; simpa [hnl] using this
    have HSN := hide (sigsK_snoc A cls k)
    have HNS := hide (numb_snoc (sigsK A cls k) (sigR A cls k))
    have HBS := hide (nub_snoc (sigsK A cls k) (sigR A cls k))
    have HNL := hide hnl
    clear hS
    by_cases hlt : k < A.acc.length
    · have HPB : Hid (∀ r ∈ sigsK A cls k, ∀ y ∈ r, y ≤ 1000) := hide (fun r hr y hy => by
        unfold sigsK at hr
        obtain ⟨i, hi, rfl⟩ := List.mem_map.1 hr
        rw [List.mem_range] at hi
        exact sigR_small HOK.out (by rw [HLC.out]; omega) HCS.out HLC.out y hy)
      generalize sigsK A cls k = pre at HPB hst HSN HNS HBS HNL hnb hnl ⊢
      have HS := hide hst.out
      have HI := hide (hst.out.own)
      clear hst
      go_wp2_with fail
      refine refSign (HA.out.same (HK1.out.tr HS.out.keep)) HOK.out (HC.out.same (HK1.out.tr HS.out.keep)) HLC.out hlt ?_; rintro e w4 ux rfl ox k4
      have HS4 := hide (HS.out.same k4)
      have HX0 := hide (sigR_small HOK.out (s := k) (by rw [HLC.out]; exact hlt) HCS.out HLC.out)
      generalize sigR A cls k = x at ox HSN HNS HBS HX0
      obtain ⟨xa, xc, rfl⟩ : ∃ xa xc, ux = .slice xa x.length xc := by simpa using ox.shape
      have HXI : Hid (∀ y ∈ x.map Int.ofNat, InI64 y) := hide (nat_ints fun y hy => by have := HX0.out y hy; omega)
      have HOX := hide ox
      have HSZ := hide (HS.out.size)
      clear ox k4 q0 q1 q2
      go_wp2_with fail
      have HOXW : Hid (OwnInts w4 W (.slice xa x.length xc) (x.map Int.ofNat)) := hide (ownsRow_below HOX.out HSZ.out)
      have HAPX : Hid (∀ b, (Value.slice xa x.length xc).ownBlock = some b → (Value.slice oa k oc).ownBlock ≠ some b) := hide (fun b hb e => by
        have h1 := (HOX.out.low hb).1
        have h2 := HS.out.own.low (g := b) (by simpa [hnl] using e)
        omega)
      clear hnl
      go_loopw [10] (fun i wr => ∃ q : Nat, i = .int .i64 q ∧ q ≤ (nub pre).length ∧ Hid (∀ j, j < q → (nub pre)[j]? ≠ some x) ∧ Same w4 wr) (fun i _ => (nub pre).length - (intOf i).toNat)
      case atStart => exact ⟨0, rfl, Nat.zero_le _, hide (fun j hj => absurd hj (Nat.not_lt_zero _)), Keeps.refl _ _⟩
      case round =>
        obtain ⟨q, rfl, hq, hne, hK⟩ := hrel
        have HS6 := hide (HS4.out.same hK)
        by_cases hlt2 : q < (nub pre).length
        · obtain ⟨r, hr⟩ : ∃ r, (nub pre)[q]? = some r := ⟨_, List.getElem?_eq_getElem hlt2⟩
          have hrm : ((nub pre).map fun r => r.map Int.ofNat)[q]? = some (r.map Int.ofNat) := by rw [List.getElem?_map, hr]; rfl
          obtain ⟨gm, cm, ra, rc, e1, hcm, hcell, hro⟩ := HS6.out.row hrm
          simp only [Value.slice.injEq, List.length_map, true_and] at e1
          obtain ⟨rfl, rfl⟩ := e1
          rw [List.length_map] at hcell
          unfold maxLen at hcm
          have HRO : Hid (IntsAt wr (.slice ra r.length rc) (r.map Int.ofNat)) := hide (by
            rw [List.length_map] at hro
            refine hro.ints (nat_ints fun y hy => ?_)
            have h1 : r ∈ pre := (mem_nub pre r).1 (List.mem_of_getElem? hr)
            have := HPB.out r h1 y hy
            omega)
          have HKW := hide hK
          have HNE := hide hne.out
          clear hro hK hne hrm
          by_cases hrx : r = x
          · have hdx : decide (r.map Int.ofNat = x.map Int.ofNat) = true := decide_eq_true (by rw [hrx])
            have hmem : x ∈ nub pre := by rw [← hrx]; exact List.mem_of_getElem? hr
            have hidx : idxP (nub pre) x = q := idx_first (by rw [hr, hrx]) HNE.out
            have hadd : addN (nub pre) x = nub pre := if_pos hmem
            have hqe : (((q : Nat) : Int) == (((nub pre).length : Nat) : Int)) = false := beq_eq_false_iff_ne.2 (by omega)
            have HNUM : Hid (numb (sigsK A cls (k + 1)) = numb pre ++ [q] ∧ nub (sigsK A cls (k + 1)) = nub pre) := hide ⟨by
              rw [HSN.out, HNS.out, hadd]
              exact congrArg (fun z => numb pre ++ [z]) hidx, by rw [HSN.out, HBS.out, hadd]⟩
            clear hmem hidx hadd hrx hr
            go_wp2_with fail
            refine sameInts HRO.out ((HOXW.out.ints HXI.out).same HKW.out) ?_; rintro e w7 he k7
            rw [hdx] at he
            subst he
            obtain ⟨g, cap, w8, hr8, hst8⟩ := (HS6.out.same k7).pushOut (q : Int) (by rw [List.length_map, HNL.out]; omega)
            rw [List.length_map, HNL.out] at hr8 hst8
            have HF : Hid (FnSt W w1 w8 (.slice (some ⟨g, 0, none⟩) (k + 1) cap) (.slice (some ⟨gm, 0, none⟩) (nub pre).length sc) ((numb (sigsK A cls (k + 1))).map Int.ofNat) ((nub (sigsK A cls (k + 1))).map fun r => r.map Int.ofNat)) := hide (by
              rw [HNUM.out.1, HNUM.out.2, List.map_append]; exact hst8)
            clear hst8 hdx k7 hcell
            go_wp2_with (at_builtin; refine wpList_append_run rfl _ _ _ rfl rfl rfl hr8 ?_; clear hr8)
            go_roundw
            case rel => exact ⟨k + 1, by go_num, by omega, HF.out⟩
            case measure => simp [intOf]; omega
          · have hdx : decide (r.map Int.ofNat = x.map Int.ofNat) = false := decide_eq_false fun e => hrx (map_nat_inj.1 e)
            have HNE2 : Hid (∀ j, j < q + 1 → (nub pre)[j]? ≠ some x) := hide (fun j hj => by
              rcases Nat.lt_or_eq_of_le (Nat.le_of_lt_succ hj) with e | e
              · exact HNE.out j e
              · subst e; rw [hr]; intro e; exact hrx (Option.some.inj e))
            clear hrx hr
            go_wp2_with fail
            refine sameInts HRO.out ((HOXW.out.ints HXI.out).same HKW.out) ?_; rintro e w7 he k7
            rw [hdx] at he
            subst he
            have HK7 := hide (HKW.out.tr k7)
            clear hdx k7 hcell
            go_wp2_with fail
            go_roundw
            case rel => exact ⟨q + 1, by go_num, by omega, HNE2.out, HK7.out⟩
            case measure => simp [intOf]; omega
        · obtain rfl : q = (nub pre).length := by omega
          have hnm : x ∉ nub pre := fun hm => by
            obtain ⟨j, hj⟩ := List.getElem?_of_mem hm
            exact hne.out j (List.getElem?_eq_some_iff.1 hj).1 hj
          have hadd : addN (nub pre) x = nub pre ++ [x] := if_neg hnm
          have hidx : idxP (nub pre ++ [x]) x = (nub pre).length := idxP_snoc hnm
          have HNUM : Hid (numb (sigsK A cls (k + 1)) = numb pre ++ [(nub pre).length] ∧ nub (sigsK A cls (k + 1)) = nub pre ++ [x]) := hide ⟨by
            rw [HSN.out, HNS.out, hadd]
            exact congrArg (fun z => numb pre ++ [z]) hidx, by rw [HSN.out, HBS.out, hadd]⟩
          obtain ⟨g, cap, w7, hr7, hst7⟩ := HS6.out.pushRow (HOXW.out.same hK) HAPX.out (by rw [List.length_map]; omega)
          obtain ⟨g8, cap8, w8, hr8, hst8⟩ := hst7.pushOut ((nub pre).length : Int) (by rw [List.length_map, HNL.out]; omega)
          rw [List.length_map] at hr7 hst7
          rw [List.length_map, HNL.out] at hr8 hst8
          rw [List.length_map] at hst8
          have HF : Hid (FnSt W w1 w8 (.slice (some ⟨g8, 0, none⟩) (k + 1) cap8) (.slice (some ⟨g, 0, none⟩) ((nub pre).length + 1) cap) ((numb (sigsK A cls (k + 1))).map Int.ofNat) ((nub (sigsK A cls (k + 1))).map fun r => r.map Int.ofNat)) := hide (by
            rw [HNUM.out.1, HNUM.out.2, List.map_append, List.map_append]; exact hst8)
          clear hst7 hst8 hnm hadd hidx hne hK
          cases sa
          all_goals
            go_wp2_with (at_builtin; first | (refine wpList_append_run rfl _ _ _ rfl rfl rfl hr7 ?_; clear hr7) | (refine wpList_append_run rfl _ _ _ rfl rfl rfl hr8 ?_; clear hr8))
            go_roundw
            case rel => exact ⟨k + 1, by go_num, by omega, HF.out⟩
            case measure => simp [intOf]; omega
    · obtain rfl : k = A.acc.length := by omega
      have HF := hide (ownsRow_below hst.out.own (show W0 ≤ W by have := HW.out; have := HK1.out.size; have := HW0.out; omega))
      rw [List.length_map, hnl] at HF
      have HKF := hide (HK1.out.tr hst.out.keep)
      clear hst
      go_wp2_with fail
      exact HR.out _ _ _ rfl (by unfold OwnInts; rw [List.length_map, hnl]; exact HF.out) HKF.out

end Go.Proofs.Ytgpgbkoaopfjkaa
