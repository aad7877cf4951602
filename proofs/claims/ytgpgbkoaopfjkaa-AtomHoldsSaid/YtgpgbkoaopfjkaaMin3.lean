/- The walk of minim.Classes. -/
import Derived.Test.YtgpgbkoaopfjkaaMin2
namespace Go.Proofs.Ytgpgbkoaopfjkaa
open Go.RowKit

attribute [local irreducible] wpQuiet wpPlan wpPlanZ wpUp

variable {R : Ending → World → Prop} {w : World} {A : Au} {B d : Nat}

theorem field_next3 (a b c : Value) (w : World) : (Instr.field 33 (.agg #[a, b, c]) 2).run Try.prog w = .ok c w := by kernel_rfl
attribute [local go_sem] field_next3

/-- What a slice reads as is one. -/
theorem ints_one {v : Value} {l m : List Int} (h : IntsAt w v l) (k : IntsAt w v m) : l = m := by
  obtain ⟨a, c, rfl, _, _, h1⟩ := h.open
  obtain ⟨a', c', e, _, _, k1⟩ := k.open
  simp only [Value.slice.injEq] at e
  obtain ⟨rfl, hl, rfl⟩ := e
  apply List.ext_getElem hl
  intro i hi hj
  obtain ⟨b, off, rfl, _, h2⟩ := h1 i hi
  obtain ⟨b', off', e, _, k2⟩ := k1 i hj
  simp only [Option.some.injEq, Addr.mk.injEq, and_true] at e
  obtain ⟨rfl, rfl⟩ := e
  have := (h2 i hi).symm.trans (k2 i hj)
  simpa using this

open Classical in
/-- How many classes the memory tells. -/
noncomputable def cntAt (w : World) (v : Value) : Nat := if h : ∃ l : List Nat, IntsAt w v (l.map Int.ofNat) then (nub h.choose).length else 0

theorem cntAt_of {v : Value} {l : List Nat} (h : IntsAt w v (l.map Int.ofNat)) : cntAt w v = (nub l).length := by
  have hex : ∃ l : List Nat, IntsAt w v (l.map Int.ofNat) := ⟨l, h⟩
  unfold cntAt
  rw [dif_pos hex]
  have h2 := ints_one hex.choose_spec h
  have h3 : hex.choose = l := by
    have h4 := congrArg (List.map Int.toNat) h2
    simpa [List.map_map, Function.comp_def] using h4
  rw [h3]

theorem nat_ints {l : List Nat} (h : ∀ x ∈ l, x ≤ 1000000) : ∀ x ∈ l.map Int.ofNat, InI64 x := fun x hx => by
  obtain ⟨y, hy, rfl⟩ := List.mem_map.1 hx
  have := h y hy
  unfold InI64; simp only [Int.ofNat_eq_natCast]; omega

/-- Which states accept, as numbers. -/
def accI (A : Au) (k : Nat) : List Int := (A.acc.take k).map fun b => if b = true then 1 else 0

theorem accI_snoc {k : Nat} (hk : k < A.acc.length) : accI A (k + 1) = accI A k ++ [if ac A k = true then 1 else 0] := by
  unfold accI ac
  rw [List.take_succ_eq_append_getElem hk, List.map_append, List.getD_eq_getElem?_getD, List.getElem?_eq_getElem hk]
  rfl

theorem numb_acc (A : Au) : numb (accI A A.acc.length) = clsK A 0 := by
  unfold accI
  rw [List.take_length]
  show _ = numb A.acc
  refine (numb_map (fun b : Bool => if b = true then (1 : Int) else 0) A.acc fun x _ y _ e => ?_).1
  cases x <;> cases y <;> simp at e ⊢

/-- The state of the first loop: the Store s, kr roots, kc answers who accepts. -/
structure C1St (w w3 wr : World) (s : Nat) (A : Au) (kr kc : Nat) (rv cv : Value) (L : List Nd) (roots : List Int) : Prop where
  store : StoreAt wr s A.T.toNat L
  len : L.length ≤ 127 * kr
  ok : RootsOk A.T.toNat L roots (A.next.take kr)
  own : OwnInts wr w3.heap.size rv roots
  cls : OwnInts wr w3.heap.size cv (accI A kc)
  apart : ∀ b, rv.ownBlock = some b → cv.ownBlock ≠ some b
  grew : Grew s w3 wr
  foot : ∀ b, Foot w3 s b → w.heap.size ≤ b
  old : Same w w3

variable {w3 wr w4 : World} {s kr kc j : Nat} {rv cv : Value} {L L4 : List Nd} {roots : List Int}

theorem C1St.keep (h : C1St w w3 wr s A kr kc rv cv L roots) : Same w wr :=
  h.old.trans h.grew.keeps fun x hx _ => ⟨trivial, fun hf => by have := h.foot x hf; omega⟩

theorem C1St.rootPush (h : C1St w w3 wr s A kr kc rv cv L roots) (s4 : StoreAt w4 s A.T.toNat L4) (g4 : Grew s wr w4) (hl : L4.length ≤ 127 * (kr + 1)) (hro : RootsOk A.T.toNat L4 (roots ++ [(j : Int)]) (A.next.take (kr + 1))) (hrl : roots.length ≤ 1000) :
    ∃ g cap w5, (Builtin.append_ #[42, 42] 42 #[rv, .slice (some ⟨w4.heap.size, 0, none⟩) 1 1]).run Try.prog (w4.alloc (.cells #[.int .i64 (j : Int)] 3)) = .ok (.slice (some ⟨g, 0, none⟩) (roots.length + 1) cap) w5 ∧
      C1St w w3 w5 s A (kr + 1) kc (.slice (some ⟨g, 0, none⟩) (roots.length + 1) cap) cv L4 (roots ++ [(j : Int)]) := by
  have o4 := h.own.grew h.store g4
  have c4 := h.cls.grew h.store g4
  have g34 := h.grew.trans g4
  obtain ⟨g, cap, w5, hr, own5, k5, hg, _⟩ := append_one (P := Try.prog) w4 42 42 3 Try.underlying42 int_info rfl o4 g34.keeps.size (.int .i64 (j : Int)) rfl (by omega) (by decide)
  obtain ⟨st5, g5⟩ := Grew.own s4 g34 o4 (Nat.le_refl _) k5
  refine ⟨g, cap, w5, hr, st5, hl, hro, ?_, c4.keep k5 fun b hb e => h.apart b e hb, fun b hb e => ?_, g5, h.foot, h.old⟩
  · unfold OwnInts; simpa using own5
  · simp [Value.ownBlock] at hb
    subst hb
    rcases hg with hg | hg
    · exact h.apart _ hg e
    · have := (c4.low e).2; omega

theorem C1St.clsPush (h : C1St w w3 wr s A kr kc rv cv L roots) (hk : kc < A.acc.length) (hk4 : kc ≤ 1000) :
    ∃ g cap w5, (Builtin.append_ #[42, 42] 42 #[cv, .slice (some ⟨wr.heap.size, 0, none⟩) 1 1]).run Try.prog (wr.alloc (.cells #[.int .i64 (if ac A kc = true then 1 else 0)] 3)) = .ok (.slice (some ⟨g, 0, none⟩) ((accI A kc).length + 1) cap) w5 ∧
      C1St w w3 w5 s A kr (kc + 1) rv (.slice (some ⟨g, 0, none⟩) ((accI A kc).length + 1) cap) L roots := by
  have hal : (accI A kc).length ≤ 1000 := by unfold accI; simp; omega
  obtain ⟨g, cap, w5, hr, own5, k5, hg, _⟩ := append_one (P := Try.prog) wr 42 42 3 Try.underlying42 int_info rfl h.cls h.grew.keeps.size (.int .i64 (if ac A kc = true then 1 else 0)) rfl (by omega) (by decide)
  obtain ⟨st5, g5⟩ := Grew.own h.store h.grew h.cls (Nat.le_refl _) k5
  refine ⟨g, cap, w5, hr, st5, h.len, h.ok, h.own.keep k5 fun b hb => h.apart b hb, ?_, fun b hb e => ?_, g5, h.foot, h.old⟩
  · rw [accI_snoc hk]; unfold OwnInts; simpa using own5
  · simp [Value.ownBlock] at e
    subst e
    rcases hg with hg | hg
    · exact h.apart _ hb hg
    · have := (h.own.low hb).2; omega

theorem accA_ac1 {k : Nat} (hs : k < A.acc.length) : accA A (k : Int) = ac A k := by
  unfold accA ac inA
  simp only [Int.toNat_natCast]
  rw [show (decide ((0 : Int) ≤ (k : Int)) && decide ((k : Int) < (A.acc.length : Int))) = true by simp; exact hs]
  rfl

/-- The state of the second loop. -/
structure C2St (w w3 wr : World) (s : Nat) (A : Au) (k : Nat) (rv cv : Value) (L : List Nd) (roots : List Int) : Prop where
  store : StoreAt wr s A.T.toNat L
  len : L.length ≤ 127 * A.acc.length + 128 * A.acc.length * k
  ok : RootsOk A.T.toNat L roots A.next
  own : OwnInts wr w3.heap.size rv roots
  cls : OwnInts wr w3.heap.size cv ((clsK A k).map Int.ofNat)
  grew : Grew s w3 wr
  foot : ∀ b, Foot w3 s b → w.heap.size ≤ b
  old : Same w w3
  cnt : k + 1 ≤ cntK A k

theorem C2St.keep {k : Nat} (h : C2St w w3 wr s A k rv cv L roots) : Same w wr :=
  h.old.trans h.grew.keeps fun x hx _ => ⟨trivial, fun hf => by have := h.foot x hf; omega⟩

theorem cls_ints {k : Nat} (A : Au) (hn : A.acc.length ≤ 400) : ∀ x ∈ (clsK A k).map Int.ofNat, InI64 x := nat_ints fun x hx => by have := clsK_lt A k x hx; omega

set_option maxRecDepth 10000 in
set_option maxHeartbeats 4000000 in
theorem minClasses (h : DFAAt w B d A) (hR : ∀ e w' u, e = .returned u → OwnInts w' w.heap.size u ((stab A).map Int.ofNat) → Same w w' → R e w') :
    Calls Try.prog 54 #[.pointer (some ⟨d, 0, none⟩)] w R := by
  have HR := hide hR
  clear hR
  have HOK := hide h.ok
  have hn1 : 0 < A.acc.length := h.ok.1.2.2.1
  have hn4 : A.acc.length ≤ 400 := h.ok.1.2.2.2.1
  have HNL := hide h.ok.1.2.2.2.2
  have H := hide h
  have HT0 := hide h.ok.1.1
  have HT6 := hide h.ok.1.2.1
  clear h
  go_enter Try.func54, Try.ntmps54
  go_wp2_with fail
  refine dfaTracks H.out ?_; rintro e rfl
  go_wp2_with fail
  refine storeNew A.T HT0.out HT6.out ?_; rintro e w1 s rfl s1 k1 f1
  have HS1 := hide s1
  have HK1 := hide k1
  have HF1 := hide f1
  clear s1 k1 f1
  go_wp2_with fail
  refine dfaTo (H.out.same HK1.out) ?_; rintro e w3 v3 rfl o3 k3
  obtain ⟨va, vn, rfl, _, om⟩ := o3
  obtain ⟨ng, nc, rfl⟩ : ∃ ng nc, vn = .slice (some ⟨ng, 0, none⟩) A.next.length nc := by
    obtain ⟨vs, h1, _⟩ := om
    exact own_shape_pos h1 (by rw [HNL.out]; exact hn1)
  have hnc : A.next.length ≤ nc ∧ nc ≤ maxLen := by
    obtain ⟨_, _, e, h1, h2, _⟩ := (om.rows HOK.out.bounds.2).open
    simp only [Value.slice.injEq] at e
    obtain ⟨_, _, rfl⟩ := e
    exact ⟨h1, h2⟩
  have hf3 : ∀ x, Foot w3 s x → x < w1.heap.size ∧ w.heap.size ≤ x := fun x hx => by
    have hsz : w3.heap[s]? = w1.heap[s]? := by
      obtain ⟨v', m, e1, _⟩ := HS1.out.st
      exact (k3.at e1 trivial).trans e1.symm
    have h1 := (foot_same hsz x).1 hx
    exact ⟨foot_old HS1.out h1, HF1.out x h1⟩
  have hngb : w1.heap.size ≤ ng := by
    obtain ⟨vs, h1, _⟩ := om
    exact (ownsRow_block h1 (g := ng) (by simp [Value.ownBlock])).1
  have HROWS : Hid (∀ k (hk : k < A.next.length), ∃ rs rc, (∀ wx, Grew s w3 wx → wx.cell? ⟨ng, k, none⟩ = some (.slice rs (A.next[k]).length rc) ∧ IntsAt wx (.slice rs (A.next[k]).length rc) A.next[k] ∧ Apart wx s (.slice rs (A.next[k]).length rc))) := hide fun k hk => by
    obtain ⟨rs, rc, q1, _, ho⟩ := om.elem (List.getElem?_eq_getElem hk)
    have hi := ho.ints (HOK.out.bounds.2 _ (List.getElem_mem hk))
    have hnf : ∀ b, live (.slice rs (A.next[k]).length rc) = some b → ¬ Foot w3 s b := fun b hb hf => by
      have h1 := (ho.low (live_own hb)).1
      have h2 := (hf3 b hf).1
      omega
    have hap : Apart w3 s (.slice rs (A.next[k]).length rc) := fun b hb => ⟨hnf b hb, hi.lt b hb⟩
    refine ⟨rs, rc, fun wx g => ⟨Keeps.cell g.keeps q1 fun hf => ?_, hi.keep g.keeps hnf, hap.grew g⟩⟩
    have := (hf3 ng hf).1
    omega
  have hst : C1St w w3 w3 s A 0 0 (.slice none 0 0) (.slice none 0 0) [] [] :=
    ⟨HS1.out.same k3, Nat.le_refl _, ⟨rfl, by simp⟩, World.ownsRow_nil _ _ _ _, World.ownsRow_nil _ _ _ _, fun b hb => by simp [Value.ownBlock] at hb, Grew.refl _ _, fun b hb => (hf3 b hb).2, HK1.out.tr k3⟩
  have HST := hide hst
  obtain ⟨_, hnc2⟩ := hnc
  unfold maxLen at hnc2
  rw [HNL.out]
  clear om k3 hf3 hngb hst
  go_wp2_with fail
  go_loopw [4, 5, 6, 7, 19] (fun rv cv _ _ i wr => ∃ (k : Nat) (L : List Nd) (roots : List Int), i = .int .i64 k ∧ k ≤ A.acc.length ∧ roots.length = k ∧ Hid (C1St w w3 wr s A k k rv cv L roots)) (fun _ _ _ _ i _ => A.acc.length - (intOf i).toNat)
  case atStart => exact ⟨0, [], [], rfl, Nat.zero_le _, rfl, HST.out⟩
  case round =>
    obtain ⟨k, L, roots, rfl, hk, hrl, hst⟩ := hrel
    obtain ⟨ra, rc, rfl⟩ := hst.out.own.shape
    obtain ⟨ca, cc, rfl⟩ := hst.out.cls.shape
    have hal : (accI A k).length = k := by unfold accI; simp; omega
    rw [hal]
    have HAL := hide hal
    clear hal
    by_cases hlt : k < A.acc.length
    · have hkl : k < A.next.length := by rw [HNL.out]; exact hlt
      obtain ⟨rs, rsc, hrw⟩ := HROWS.out k hkl
      obtain ⟨hcell, hri, hap⟩ := hrw wr hst.out.grew
      have hro := HOK.out.2 _ (List.getElem_mem hkl)
      have HTK := hide (List.take_succ_eq_append_getElem hkl)
      obtain ⟨_, _, _, hr1, hr2, _⟩ := hri.open
      generalize A.next[k] = row at hcell hri hap hro HTK hr1
      have hT6 : A.T.toNat ≤ 6 := by have := HT6.out; omega
      obtain ⟨j, hmade, hval⟩ := OfA_made hst.out.store.wf hro.1 (hro.all hn4)
      have hlen := OfA_len A.T.toNat L row hT6
      have HS := hide hst.out
      have hLb : L.length + 128 ≤ 1099511627776 := by have := hst.out.len; omega
      have HLN := hide hlen
      have HMD := hide hmade
      have HVL := hide hval
      have HRI := hide hri
      have HAP := hide hap
      clear hst hrw hri hap hro hmade hval hr2 hr1 hlen
      go_wp2_with fail
      refine storeOfC HS.out.store HRI.out HAP.out hLb ?_; rintro e w4 rfl s4 g4
      rw [HMD.out.num]
      have hro4 : RootsOk A.T.toNat (OfA A.T.toNat L row).1 (roots ++ [(j : Int)]) (A.next.take (k + 1)) := by
        rw [HTK.out]
        exact (HS.out.ok.grow HS.out.store.wf HMD.out.wf HMD.out.pre).snoc HMD.out.lt HVL.out
      obtain ⟨g, cap, w5, hr5, hst5⟩ := HS.out.rootPush s4 g4 (by have := HS.out.len; have := HLN.out; omega) hro4 (by omega)
      have HS5 := hide hst5
      have HRL5 : Hid ((roots ++ [(j : Int)]).length = k + 1) := hide (by simp [hrl])
      rw [hrl] at hr5 HS5
      clear s4 g4 hro4 hst5 hcell
      go_wp2_with (at_builtin; refine wpList_append_run rfl _ _ _ rfl rfl rfl hr5 ?_; clear hr5)
      refine dfaAccepts (H.out.same HS5.out.keep) _ ?_; rintro e rfl
      rw [accA_ac1 hlt]
      obtain ⟨g2, cap2, w6, hr6, hst6⟩ := HS5.out.clsPush hlt (by omega)
      have HS6 := hide hst6
      rw [HAL.out] at hr6 HS6
      clear hst6
      cases hac : ac A k with
      | true =>
        rw [if_pos hac] at hr6
        clear hac
        go_wp2_with (at_builtin; refine wpList_append_run rfl _ _ _ rfl rfl rfl hr6 ?_; clear hr6)
        go_roundw
        case rel => exact ⟨k + 1, _, _, by go_num, by omega, HRL5.out, HS6.out⟩
        case measure => simp [intOf]; omega
      | false =>
        rw [if_neg (by rw [hac]; decide)] at hr6
        clear hac
        go_wp2_with (at_builtin; refine wpList_append_run rfl _ _ _ rfl rfl rfl hr6 ?_; clear hr6)
        go_roundw
        case rel => exact ⟨k + 1, _, _, by go_num, by omega, HRL5.out, HS6.out⟩
        case measure => simp [intOf]; omega
    · obtain rfl : k = A.acc.length := by omega
      have HS := hide hst.out
      have hai : ∀ x ∈ accI A A.acc.length, InI64 x := fun x hx => by
        obtain ⟨b, _, rfl⟩ := List.mem_map.1 hx
        cases b <;> simp [InI64]
      have HCI := hide (hst.out.cls.ints hai)
      rw [HAL.out] at HCI
      clear hst hai
      go_wp2_with fail
      refine minNumbered HCI.out (by rw [HAL.out]; omega) ?_; rintro e w5 u rfl o5 k5
      rw [numb_acc] at o5
      have hst2 : C2St w w3 w5 s A 0 (.slice ra A.acc.length rc) u L roots := by
        have h1 := HS.out
        have hok := h1.ok
        rw [← HNL.out, List.take_length] at hok
        have how := h1.own.same k5
        rw [hrl] at how
        exact ⟨h1.store.same k5, by have := h1.len; omega, hok, how, ownsRow_below o5 h1.grew.keeps.size, h1.grew.trans (Grew.under h1.store k5), h1.foot, h1.old, cnt_pos hn1 0⟩
      have HS2 := hide hst2
      clear o5 k5 hst2
      go_wp2_with fail
      have HRL := hide hrl
      clear hrl
      go_loopw [5] (fun cv wr => ∃ (k : Nat) (L : List Nd), k < A.acc.length ∧ Hid (C2St w w3 wr s A k (.slice ra A.acc.length rc) cv L roots) ∧ cntAt wr cv = cntK A k) (fun cv wr => A.acc.length - cntAt wr cv)
      case atStart => exact ⟨0, L, hn1, HS2.out, by rw [cntAt_of (HS2.out.cls.ints (cls_ints A hn4)), (nub_cls A 0).1]⟩
      case round =>
        obtain ⟨k, L, hkn, hst, hcn⟩ := hrel
        obtain ⟨ca, cc, rfl⟩ := hst.out.cls.shape
        have hcl : ((clsK A k).map Int.ofNat).length = A.acc.length := by rw [List.length_map, clsK_length]
        rw [hcl] at hcn ⊢
        have hst' := hst.out
        rw [hcl] at hst'
        have HS := hide hst'
        have HKN := hide hkn
        have hLb : L.length + 128 * A.acc.length ≤ 1000000000 := by
          have h1 := HS.out.len
          have h2 : 128 * A.acc.length * k ≤ 128 * 400 * 400 := Nat.mul_le_mul (by omega) (by omega)
          omega
        have HRB : Hid (∀ x ∈ roots, InI64 x) := hide (fun x hx => by
          obtain ⟨i, hi⟩ := List.getElem?_of_mem hx
          have hil := (List.getElem?_eq_some_iff.1 hi).1
          have hin : i < A.next.length := by rw [← HS.out.ok.1]; exact hil
          obtain ⟨q, e, hq, _⟩ := HS.out.ok.2 i x _ hi (List.getElem?_eq_getElem hin)
          rw [e]
          exact nat_in (by omega))
        have HLB := hide hLb
        have HRI : Hid (IntsAt wr (.slice ra A.acc.length rc) roots) := hide (HS.out.own.ints HRB.out)
        clear hst hst' hcl hLb
        go_wp2_with fail
        refine minRefined (w0 := w) H.out (HS.out.keep.mono fun _ _ _ => trivial) (fun b hb => ?_) rfl HS.out.store HS.out.ok HRI.out (HS.out.cls.ints (cls_ints A hn4)) (fun b hb => own_not_foot HS.out.own HS.out.store (by decide) (by decide) b (live_own hb)) (fun b hb => own_not_foot HS.out.cls HS.out.store (by decide) (by decide) b (live_own hb)) HLB.out ?_
        · rcases HS.out.grew.foot b hb with h | h
          · exact HS.out.foot b h
          · exact Nat.le_trans HS.out.old.size h
        rintro e w5' u2 L' rfl o5 s5 hpre hl5 g5
        have hc5 := HS.out.cls.grew HS.out.store g5
        have ho5 := ownsRow_below o5 HS.out.grew.keeps.size
        have hr5 := HS.out.own.grew HS.out.store g5
        have hI1 := o5.ints (cls_ints A hn4)
        have hI2 := hc5.ints (cls_ints A hn4)
        have HS5 : Hid (∀ hc : k + 1 + 1 ≤ cntK A (k + 1), C2St w w3 w5' s A (k + 1) (.slice ra A.acc.length rc) u2 L' roots) := hide (fun hc => by
          refine ⟨s5, ?_, HS.out.ok.grow HS.out.store.wf s5.wf hpre, hr5, ho5, HS.out.grew.trans g5, HS.out.foot, HS.out.old, hc⟩
          have h1 := HS.out.len
          rw [Nat.mul_succ]
          omega)
        have HKE : Hid (Same w w5') := hide (HS.out.old.trans (HS.out.grew.trans g5).keeps fun x hx _ => ⟨trivial, fun hf => by have := HS.out.foot x hf; omega⟩)
        have HST5 := hide s5
        have HC5 := hide hc5
        have HI1 := hide hI1
        have HI2 := hide hI2
        clear o5 s5 hpre hl5 g5 hc5 ho5 hr5 hI1 hI2
        obtain ⟨u2a, u2c, rfl⟩ : ∃ a c, u2 = .slice a A.acc.length c := by
          obtain ⟨a, c, e, _⟩ := HI1.out.open
          rw [List.length_map, clsK_length] at e
          exact ⟨a, c, e⟩
        go_wp2_with fail
        refine slicesEqual HI1.out HI2.out ?_; rintro e w6 rfl k6
        by_cases heq : clsK A (k + 1) = clsK A k
        · rw [show decide ((clsK A (k + 1)).map Int.ofNat = (clsK A k).map Int.ofNat) = true by rw [heq]; simp]
          have HF : Hid (OwnInts w6 w.heap.size (.slice ca A.acc.length cc) ((stab A).map Int.ofNat)) := hide (by
            rw [← stab_of hn1 heq]
            exact ownsRow_below (HC5.out.same k6) HS.out.old.size)
          have HK6 := hide (HKE.out.tr k6)
          clear heq k6 hcn
          go_wp2_with fail
          exact HR.out _ _ _ rfl HF.out HK6.out
        · rw [show decide ((clsK A (k + 1)).map Int.ofNat = (clsK A k).map Int.ofNat) = false by
            rw [decide_eq_false_iff_not]
            intro e
            apply heq
            have h4 := congrArg (List.map Int.toNat) e
            simpa [List.map_map, Function.comp_def] using h4]
          have hcm := cnt_mono A k
          have hlt2 : cntK A k < cntK A (k + 1) := by
            rcases Nat.lt_or_eq_of_le hcm.1 with h | h
            · exact h
            · exact absurd (hcm.2 h) heq
          have hc2 : k + 1 + 1 ≤ cntK A (k + 1) := by have := HS.out.cnt; omega
          have hcle := cnt_le A (k + 1)
          have HS6 := hide (HS5.out hc2)
          have HK6 := hide k6
          have HS7 : Hid (C2St w w3 w6 s A (k + 1) (.slice ra A.acc.length rc) (.slice u2a A.acc.length u2c) L' roots) := hide
            ⟨HS6.out.store.same k6, HS6.out.len, HS6.out.ok, HS6.out.own.same k6, HS6.out.cls.same k6, HS6.out.grew.trans (Grew.under HS6.out.store k6), HS6.out.foot, HS6.out.old, HS6.out.cnt⟩
          have HCN : Hid (cntAt w6 (.slice u2a A.acc.length u2c) = cntK A (k + 1)) := hide (by rw [cntAt_of (HI1.out.same k6), (nub_cls A (k + 1)).1])
          have HM := hide hlt2
          have HMN := hide hcle
          clear heq k6 hcm hlt2 hcle hc2
          go_wp2_with fail
          go_roundw
          case rel => exact ⟨k + 1, L', by have := HS7.out.cnt; have := HMN.out; omega, HS7.out, HCN.out⟩
          case measure => rw [HCN.out, hcn]; have := HM.out; have := HMN.out; omega

end Go.Proofs.Ytgpgbkoaopfjkaa
