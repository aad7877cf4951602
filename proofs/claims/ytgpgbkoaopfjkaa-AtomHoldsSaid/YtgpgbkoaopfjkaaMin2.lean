/- The walks of slices.Equal over ints, minim.refined. -/
import Derived.Test.YtgpgbkoaopfjkaaMin1
import Derived.Test.YtgpgbkoaopfjkaaPairBoth
namespace Go.Proofs.Ytgpgbkoaopfjkaa
open Go.RowKit

attribute [local irreducible] wpQuiet wpPlan wpPlanZ wpUp

variable {R : Ending → World → Prop} {w : World} {A : Au} {B d : Nat}

theorem list_same {a b : List Int} {k : Nat} (hlen : a.length = b.length) (h : ∀ i, i < k → a.getD i 0 = b.getD i 0) (hk : a.length ≤ k) : a = b := by
  apply List.ext_getElem hlen
  intro i h1 h2
  have := h i (by omega)
  simpa [List.getD, List.getElem?_eq_getElem h1, List.getElem?_eq_getElem h2] using this

set_option maxHeartbeats 1000000 in
theorem slicesEqual {v u : Value} {a b : List Int} (hv : IntsAt w v a) (hu : IntsAt w u b) (hR : ∀ e w', e = .returned (.bool (decide (a = b))) → Same w w' → R e w') :
    Calls Try.prog 86 #[v, u] w R := by
  have HR := hide hR
  clear hR
  obtain ⟨va, vc, rfl, _, hc2, hcell⟩ := hv.open
  obtain ⟨ua, uc, rfl, _, hd2, hdell⟩ := hu.open
  have HC := hide hcell
  have HD := hide hdell
  unfold maxLen at hc2 hd2
  clear hcell hdell hv hu
  by_cases hl : a.length = b.length
  · have hne : (((a.length : Nat) : Int) != ((b.length : Nat) : Int)) = false := by rw [hl]; simp
    have HL := hide hl
    clear hl
    go_enter Try.func86, Try.ntmps86
    go_wp2_with fail
    go_loopw [5, 13] (fun _ i wr => ∃ k : Nat, i = .int .i64 k ∧ k ≤ a.length ∧ Hid (∀ i, i < k → a.getD i 0 = b.getD i 0) ∧ Same w wr) (fun _ i _ => a.length - (intOf i).toNat)
    case atStart => exact ⟨0, rfl, Nat.zero_le _, hide (fun i hi => absurd hi (Nat.not_lt_zero _)), Keeps.refl _ _⟩
    case round =>
      obtain ⟨k, rfl, hk, heq, hK⟩ := hrel
      by_cases hlt : k < a.length
      · have hlt2 : k < b.length := by rw [← HL.out]; exact hlt
        obtain ⟨p, off, rfl, _, hcl⟩ := HC.out k hlt
        obtain ⟨q, off2, rfl, _, hdl⟩ := HD.out k hlt2
        have z1 := Keeps.cell hK (hcl k hlt) trivial
        have z2 := Keeps.cell hK (hdl k hlt2) trivial
        have HX := hide (And.intro (show a.getD k 0 = a[k] by simp [List.getD, List.getElem?_eq_getElem hlt]) (show b.getD k 0 = b[k] by simp [List.getD, List.getElem?_eq_getElem hlt2]))
        generalize a[k] = x at z1 HX
        generalize b[k] = y at z2 HX
        have HK := hide hK
        clear hcl hdl hK
        by_cases hxy : x = y
        · subst hxy
          go_wp2_with fail
          refine wp_region_same (by kernel_rfl) (by kernel_rfl) ?_
          iterate 9
            (apply wpQuiet_step
             intro K hK
             first
               | (apply quiet_skip
                  case hw => rfl
                  go_simp
                  refine hK _ ?_; clear hK K)
               | (apply quiet_do
                  case hw => rfl
                  case h =>
                    intro w' hw'
                    (have y1 := Keeps.cell hw' z1 trivial; have y2 := Keeps.cell hw' z2 trivial)
                    go_simp
                    first | exact rfl | (fail)
                  go_simp
                  refine hK _ ?_; clear hK K))
          apply wpQuiet_nil
          intro w1 k1
          have HK1 := hide (HK.out.tr k1)
          clear z1 z2 k1
          go_wp2_with fail
          go_roundw
          case rel =>
            refine ⟨k + 1, by go_num, by omega, hide (fun i hi => ?_), HK1.out⟩
            by_cases e : i = k
            · subst e; rw [HX.out.1, HX.out.2]
            · exact heq.out i (by omega)
          case measure => simp [intOf]; omega
        · have HN : Hid (decide (a = b) = false) := hide (decide_eq_false fun e => by
            subst e; exact hxy (HX.out.1.symm.trans HX.out.2))
          have hb : (x != y) = true := by simpa using hxy
          clear hxy
          go_wp2_with fail
          refine wp_region_same (by kernel_rfl) (by kernel_rfl) ?_
          iterate 9
            (apply wpQuiet_step
             intro K hK
             first
               | (apply quiet_skip
                  case hw => rfl
                  go_simp
                  refine hK _ ?_; clear hK K)
               | (apply quiet_do
                  case hw => rfl
                  case h =>
                    intro w' hw'
                    (have y1 := Keeps.cell hw' z1 trivial; have y2 := Keeps.cell hw' z2 trivial)
                    go_simp
                    first | exact rfl | (fail)
                  go_simp
                  refine hK _ ?_; clear hK K))
          apply wpQuiet_nil
          intro w1 k1
          have HK1 := hide (HK.out.tr k1)
          clear z1 z2 k1
          go_wp2_with fail
          exact HR.out _ _ (ret_bool HN.out.symm) HK1.out
      · have HE : Hid (decide (a = b) = true) := hide (decide_eq_true (list_same HL.out heq.out (by omega)))
        have HK := hide hK
        clear heq hK
        go_wp2_with fail
        exact HR.out _ _ (ret_bool HE.out.symm) HK.out
  · have hne : (((a.length : Nat) : Int) != ((b.length : Nat) : Int)) = true := by rw [bne_iff_ne]; omega
    have HN : Hid (decide (a = b) = false) := hide (decide_eq_false fun e => hl (by rw [e]))
    clear hl
    go_enter Try.func86, Try.ntmps86
    go_wp2_with fail
    exact HR.out _ _ (ret_bool HN.out.symm) (Keeps.refl _ _)

/-- Nodes of the states' rows, class for state. -/
def IdsOk (A : Au) (L : List Nd) (cls ids : List Nat) : Prop :=
  ∀ (i id : Nat), ids[i]? = some id → id < L.length ∧ ∀ c, c < 2 ^ A.T.toNat → val L id c = ((cls.getD (nx A i c) 0 : Nat) : Int)

theorem IdsOk.grow {T : Nat} {L L' : List Nd} {cls ids : List Nat} (h : IdsOk A L cls ids) (hw : WF T L) (hw' : WF T L') (hp : L <+: L') : IdsOk A L' cls ids := fun i id hi => by
  obtain ⟨h1, h2⟩ := h i id hi
  exact ⟨Nat.lt_of_lt_of_le h1 hp.length_le, fun c hc => (val_prefix hw hw' hp c id h1).trans (h2 c hc)⟩

theorem IdsOk.snoc {L : List Nd} {cls ids : List Nat} {id : Nat} (h : IdsOk A L cls ids) (hid : id < L.length) (hv : ∀ c, c < 2 ^ A.T.toNat → val L id c = ((cls.getD (nx A ids.length c) 0 : Nat) : Int)) : IdsOk A L cls (ids ++ [id]) := fun i x hx => by
  by_cases hi : i < ids.length
  · rw [List.getElem?_append_left hi] at hx; exact h i x hx
  · have hi2 : i = ids.length := by
      have := (List.getElem?_eq_some_iff.1 hx).1
      simp at this; omega
    subst hi2
    rw [List.getElem?_append_right (Nat.le_refl _)] at hx
    simp at hx; subst hx
    exact ⟨hid, hv⟩

/-- What is numbered: node and class as one number. -/
def outL (n : Nat) (cls ids : List Nat) : List Int := (List.range ids.length).map fun i => ((ids.getD i 0 * n + cls.getD i 0 : Nat) : Int)

theorem outL_length (n : Nat) (cls ids : List Nat) : (outL n cls ids).length = ids.length := by simp [outL]

theorem outL_snoc (n : Nat) (cls ids : List Nat) (id : Nat) : outL n cls (ids ++ [id]) = outL n cls ids ++ [((id * n + cls.getD ids.length 0 : Nat) : Int)] := by
  unfold outL
  rw [List.length_append, List.length_singleton, List.range_succ, List.map_append]
  congr 1
  · apply List.map_congr_left
    intro i hi
    rw [List.mem_range] at hi
    simp [List.getD_eq_getElem?_getD, List.getElem?_append_left hi]
  · simp [List.getD_eq_getElem?_getD]

/-- A state's row. -/
def rowI1 (A : Au) (s : Nat) : List Int := A.next.getD s []

theorem two_parts {a b n x y : Nat} (hx : x < n) (hy : y < n) (h : a * n + x = b * n + y) : a = b ∧ x = y := by
  have h1 : (a * n + x) / n = a := by rw [Nat.mul_comm, Nat.mul_add_div (by omega), Nat.div_eq_of_lt hx, Nat.add_zero]
  have h2 : (b * n + y) / n = b := by rw [Nat.mul_comm, Nat.mul_add_div (by omega), Nat.div_eq_of_lt hy, Nat.add_zero]
  have e : a = b := by rw [← h1, ← h2, h]
  subst e
  exact ⟨rfl, by omega⟩

theorem clsK_lt (A : Au) (k : Nat) : ∀ x ∈ clsK A k, x < A.acc.length := fun x hx => by
  have hnn := (nub_cls A k)
  rw [← hnn.2] at hx
  have h3 := numb_lt _ hx
  rw [hnn.1] at h3
  exact Nat.lt_of_lt_of_le h3 (cnt_le A k)

/-- Numbered, they are the classes refined. -/
theorem numb_out {L : List Nd} {k : Nat} {ids : List Nat} (hw : WF A.T.toNat L) (hl : ids.length = A.acc.length) (hi : IdsOk A L (clsK A k) ids) : numb (outL A.acc.length (clsK A k) ids) = clsK A (k + 1) := by
  have hcl : ∀ i, i < A.acc.length → (clsK A k).getD i 0 < A.acc.length := fun i hi => by
    have h1 : i < (clsK A k).length := by rw [clsK_length]; exact hi
    have h2 : (clsK A k).getD i 0 ∈ clsK A k := by
      rw [List.getD_eq_getElem?_getD, List.getElem?_eq_getElem h1]; exact List.getElem_mem h1
    exact clsK_lt A k _ h2
  show _ = numb ((List.range A.acc.length).map (sig A (clsK A k)))
  refine (numb_same (by simp [outL, hl]) fun i h1 j h2 => ?_).1
  have hi1 : i < ids.length := by rw [outL_length] at h1; exact h1
  have hj1 : j < ids.length := by rw [outL_length] at h2; exact h2
  obtain ⟨a1, a2⟩ := hi i _ (List.getElem?_eq_getElem hi1)
  obtain ⟨b1, b2⟩ := hi j _ (List.getElem?_eq_getElem hj1)
  simp only [outL, List.getElem_map, List.getElem_range, List.getD_eq_getElem?_getD, List.getElem?_eq_getElem hi1, List.getElem?_eq_getElem hj1, Option.getD_some]
  rw [sig_iff]
  simp only [← List.getD_eq_getElem?_getD]
  constructor
  · intro e
    obtain ⟨e1, e2⟩ := two_parts (hcl i (by omega)) (hcl j (by omega)) (by exact_mod_cast e)
    refine ⟨e2, fun c hc => ?_⟩
    have h3 := a2 c hc
    have h4 := b2 c hc
    rw [e1, h4] at h3
    exact_mod_cast h3.symm
  · rintro ⟨e1, e2⟩
    have e3 : ids[i] = ids[j] := canon_row hw a1 b1 fun c hc => by rw [a2 c hc, b2 c hc, e2 c hc]
    rw [e1, e3]

/-- What Map answers of a row by classes. -/
theorem map_row {L L' : List Nd} {T f : Nat} {cls : List Nat} {n : Nat} {row : List Int} {r : Int} (hw : WF T L) (hw' : WF T L') (h : MapAns L L' (f : Int) (cls.map Int.ofNat) r) (hf : f < L.length) (hv : ∀ c, c < 2 ^ T → val L f c = row.getD c 0) (hr : row.length = 2 ^ T) (hb : ∀ x ∈ row, 0 ≤ x ∧ x < (n : Int)) (hn : cls.length = n) (hc4 : ∀ x ∈ cls, x ≤ 1000) :
    ∃ id : Nat, r = (id : Int) ∧ id < L'.length ∧ L <+: L' ∧ L'.length ≤ L.length + 128 ∧ ∀ c, c < 2 ^ T → val L' id c = ((cls.getD (row.getD c 0).toNat 0 : Nat) : Int) := by
  obtain ⟨h1, h2, h3⟩ := h
  have hval : ∀ c, ∃ x : Nat, x < n ∧ val L' f c = (x : Int) ∧ (c < 2 ^ T → (x : Int) = row.getD c 0) := fun c => by
    have hm : c % 2 ^ T < 2 ^ T := Nat.mod_lt _ (Nat.pow_pos (by decide))
    have e1 := val_prefix hw hw' h1 c f hf
    have e2 := val_mod hw c f
    rw [← e2, hv _ hm] at e1
    have hlt : c % 2 ^ T < row.length := by rw [hr]; exact hm
    have hbb := hb _ (List.getElem_mem hlt)
    rw [List.getD_eq_getElem?_getD, List.getElem?_eq_getElem hlt, Option.getD_some] at e1
    obtain ⟨x, hx⟩ := Int.eq_ofNat_of_zero_le hbb.1
    refine ⟨x, by omega, by rw [e1, hx], fun hc => ?_⟩
    rw [List.getD_eq_getElem?_getD, List.getElem?_eq_getElem (show c < row.length by rw [hr]; exact hc), Option.getD_some, ← hx]
    simp only [Nat.mod_eq_of_lt hc]
  have hmap : ∀ x : Nat, x < n → mapG (cls.map Int.ofNat) (x : Int) (x : Int) = some ((cls.getD x 0 : Nat) : Int) := fun x hx => by
    unfold mapG
    have hxl : x < cls.length := by omega
    rw [Int.toNat_natCast, List.getElem?_map, List.getElem?_eq_getElem hxl]
    have := hc4 _ (List.getElem_mem hxl)
    have hiv : isVal (Int.ofNat cls[x]) = true := by unfold isVal; simp; omega
    simp only [Option.map_some, hiv, if_true]
    rw [List.getD_eq_getElem?_getD, List.getElem?_eq_getElem hxl]
    rfl
  rcases h3 with ⟨_, _, h3⟩ | ⟨h3, _⟩
  · rw [Int.toNat_natCast] at h3
    rcases h3 with ⟨j, e, hj, _, hg⟩ | ⟨_, c, hc⟩
    · refine ⟨j, e, hj, h1, h2, fun c hc => ?_⟩
      obtain ⟨x, hx, hxv, hxr⟩ := hval c
      have := hg c
      rw [hxv, hmap x hx] at this
      rw [← Option.some.inj this, ← hxr hc, Int.toNat_natCast]
    · obtain ⟨x, hx, hxv, _⟩ := hval c
      rw [hxv, hmap x hx] at hc
      cases hc
  · exact absurd ⟨by omega, by omega⟩ h3

theorem wrap_nat {z : Nat} (h : z ≤ 1099511627776) : wrap64 (z : Int) = (z : Int) ∧ IntKind.i64.wrap (z : Int) = (z : Int) := by
  have h1 : wrap64 (z : Int) = (z : Int) := IntWalk.wrap64_in _ ⟨by omega, by omega⟩
  exact ⟨h1, by rw [IntKind.wrap_i64]; omega⟩

theorem mul_nat {a b q : Nat} (h : q = a * b) (hb : q ≤ 1099511627776) : wrap64 ((a : Int) * (b : Int)) = (q : Int) ∧ IntKind.i64.wrap ((a : Int) * (b : Int)) = (q : Int) := by
  rw [← Int.natCast_mul, ← h]
  exact wrap_nat hb

theorem add_nat {a b q : Nat} (h : q = a + b) (hb : q ≤ 1099511627776) : wrap64 ((a : Int) + (b : Int)) = (q : Int) ∧ IntKind.i64.wrap ((a : Int) + (b : Int)) = (q : Int) := by
  rw [← Int.natCast_add, ← h]
  exact wrap_nat hb

theorem nat_in {z : Nat} (h : z ≤ 1099511627776) : InI64 (z : Int) := by unfold InI64; omega

/-- What the call's own slice becomes does not touch the Store. -/
theorem Grew.own {w2 w5 : World} {s T B n : Nat} {L : List Nd} {v : Value} {l : List Value} (h : StoreAt w2 s T L) (g : Grew s w w2) (ho : w2.ownsRow B 3 1 v n l) (hB : w.heap.size ≤ B) (k : Keeps (fun b => v.ownBlock ≠ some b) w2 w5) : StoreAt w5 s T L ∧ Grew s w w5 := by
  have hnf := own_not_foot ho h (by decide) (by decide)
  have h5 : StoreAt w5 s T L := h.keep k fun b hb e => hnf b e hb
  refine ⟨h5, g.keeps.trans k fun x hx hn => ⟨hn, fun e => ?_⟩, fun b hb => ?_⟩
  · have := (ownsRow_block ho e).1; omega
  · have hsz : w5.heap[s]? = w2.heap[s]? := by
      obtain ⟨v', m, e1, _⟩ := h.st
      exact (k.at e1 (fun e => hnf s e (.inl rfl))).trans e1.symm
    exact g.foot b ((foot_same hsz b).1 hb)

set_option maxRecDepth 10000 in
set_option maxHeartbeats 4000000 in
theorem minRefined {w0 : World} {s T k : Nat} {L : List Nd} {rv cv : Value} {roots : List Int} (h0 : DFAAt w0 B d A) (hk0 : Keeps (· < w0.heap.size) w0 w) (hf0 : ∀ b, Foot w s b → w0.heap.size ≤ b) (hT : T = A.T.toNat)
    (hs : StoreAt w s T L) (hro : RootsOk T L roots A.next) (hr : IntsAt w rv roots) (hc : IntsAt w cv ((clsK A k).map Int.ofNat)) (hra : ∀ b, live rv = some b → ¬ Foot w s b) (hca : ∀ b, live cv = some b → ¬ Foot w s b) (hb : L.length + 128 * A.acc.length ≤ 1000000000)
    (hR : ∀ e w' u L', e = .returned u → OwnInts w' w.heap.size u ((clsK A (k + 1)).map Int.ofNat) → StoreAt w' s T L' → L <+: L' → L'.length ≤ L.length + 128 * A.acc.length → Grew s w w' → R e w') :
    Calls Try.prog 85 #[.pointer (some ⟨d, 0, none⟩), .pointer (some ⟨s, 0, none⟩), rv, cv] w R := by
  have HR := hide hR
  clear hR
  subst hT
  have HOK := hide h0.ok
  have hn1 : 0 < A.acc.length := h0.ok.1.2.2.1
  have hn4 : A.acc.length ≤ 400 := h0.ok.1.2.2.2.1
  have HNL := hide h0.ok.1.2.2.2.2
  have H0 := hide h0
  have HK0 := hide hk0
  have HF0 := hide hf0
  have HS := hide hs
  have HRO := hide hro
  have HC := hide hc
  have HCA := hide hca
  have hrl : roots.length = A.acc.length := hro.1.trans h0.ok.1.2.2.2.2
  have HCL := hide (clsK_length A k)
  have HLT := hide (clsK_lt A k)
  have HNO := hide (fun L ids => numb_out (A := A) (L := L) (k := k) (ids := ids))
  obtain ⟨ra, rc, rfl, hr1, hr2, hrcell⟩ := hr.open
  obtain ⟨ca, cc, rfl, hc1, hc2, hccell⟩ := hc.open
  have HRC := hide hrcell
  have HCC := hide hccell
  have HRA : Hid (∀ i, i < A.acc.length → ∀ wx, Grew s w wx → ∃ b off, ra = some ⟨b, off, none⟩ ∧ wx.cell? ⟨b, off + i, none⟩ = some (.int .i64 (roots.getD i 0))) := hide fun i hi wx hg => by
    have hi' : i < roots.length := by omega
    obtain ⟨b, off, e, _, hcl⟩ := hrcell i hi'
    refine ⟨b, off, e, ?_⟩
    rw [List.getD_eq_getElem?_getD, List.getElem?_eq_getElem hi']
    refine Keeps.cell hg.keeps (hcl i hi') (hra b ?_)
    subst e
    obtain ⟨m, hm⟩ : ∃ m, roots.length = m + 1 := ⟨roots.length - 1, by omega⟩
    rw [hm]; rfl
  have HCB : Hid (∀ b, live (.slice ca ((clsK A k).map Int.ofNat).length cc) = some b → ¬ Foot w s b) := hide hca
  generalize clsK A k = cls at HC HCA HCL HLT HNO HCC HCB hc1 ⊢
  unfold maxLen at hr2 hc2
  rw [List.length_map, HCL.out] at HC HCA HCB hc1 ⊢
  rw [hrl] at hr1 ⊢
  obtain ⟨W0, hW0⟩ : ∃ W0, W0 = w.heap.size := ⟨_, rfl⟩
  have HW0 := hide hW0
  rw [← hW0] at HR
  have HB := hide hb
  clear hs hro hr hc hra hca hrcell hccell hW0 h0 hk0 hf0 hb hrl
  go_enter Try.func85, Try.ntmps85
  go_wp2_with fail
  go_loopw [9, 10, 11, 14] (fun u _ _ i wr => ∃ (m : Nat) (ids : List Nat) (L' : List Nd), i = .int .i64 m ∧ m ≤ A.acc.length ∧ ids.length = m ∧ Hid (StoreAt wr s A.T.toNat L' ∧ L <+: L' ∧ L'.length ≤ L.length + 128 * m) ∧ Hid (Grew s w wr) ∧ Hid (IdsOk A L' cls ids) ∧ Hid (OwnInts wr W0 u (outL A.acc.length cls ids))) (fun _ _ _ i _ => A.acc.length - (intOf i).toNat)
  case atStart => exact ⟨0, [], L, rfl, Nat.zero_le _, rfl, hide ⟨HS.out, List.prefix_rfl, by omega⟩, Grew.refl _ _, hide (fun i id h => by simp at h), World.ownsRow_nil _ _ _ _⟩
  case round =>
    obtain ⟨m, ids, L', rfl, hm, hil, hst, hg, hids, hown⟩ := hrel
    obtain ⟨ua, uc, rfl⟩ := hown.out.shape
    rw [outL_length, hil]
    by_cases hlt : m < A.acc.length
    · obtain ⟨rb, roff, rfl, hrk⟩ := HRA.out m hlt wr hg.out
      have hclt : m < (cls.map Int.ofNat).length := by rw [List.length_map, HCL.out]; exact hlt
      obtain ⟨cb, coff, rfl, _, hcl⟩ := HCC.out m hclt
      have hcl := hcl m hclt
      rw [List.getElem_map] at hcl
      have hclm : m < cls.length := by rw [HCL.out]; exact hlt
      have hyn := HLT.out _ (List.getElem_mem hclm)
      have HY := hide (show cls.getD m 0 = cls[m] by rw [List.getD_eq_getElem?_getD, List.getElem?_eq_getElem hclm]; rfl)
      have hcb : ∀ b, live (.slice (some ⟨cb, coff, none⟩) A.acc.length cc) = some b → b < w.heap.size := fun b hb => HC.out.lt b (by simpa [HCL.out] using hb)
      have hlv : live (.slice (some ⟨cb, coff, none⟩) A.acc.length cc) = some cb := by
        obtain ⟨q, hq⟩ : ∃ q, A.acc.length = q + 1 := ⟨A.acc.length - 1, by omega⟩
        rw [hq]; rfl
      have HCN := hide (HCB.out cb hlv)
      have HCS := hide (hcb cb hlv)
      have hck := Keeps.cell hg.out.keeps hcl HCN.out
      generalize cls[m] = y at hck hyn HY hcl
      have HCW := hide hcl
      have hmn : m < A.next.length := by rw [HNL.out]; exact hlt
      have hmr : m < roots.length := by rw [HRO.out.1, HNL.out]; exact hlt
      obtain ⟨f, hfe, hfl, hfv⟩ := HRO.out.2 m _ _ (List.getElem?_eq_getElem hmr) (List.getElem?_eq_getElem hmn)
      have hrow : rowI1 A m = A.next[m] := by unfold rowI1; rw [List.getD_eq_getElem?_getD, List.getElem?_eq_getElem hmn]; rfl
      have hrow2 := HOK.out.2 _ (List.getElem_mem hmn)
      rw [List.getD_eq_getElem?_getD, List.getElem?_eq_getElem hmr, Option.getD_some, hfe] at hrk
      have hnx : ∀ c, nx A m c = ((A.next[m]).getD c 0).toNat := fun c => by unfold nx; simp [List.getD_eq_getElem?_getD, List.getElem?_eq_getElem hmn]
      generalize A.next[m] = row at hfv hrow hrow2 hnx
      have HFV : Hid (f < L'.length ∧ ∀ c, c < 2 ^ A.T.toNat → val L' f c = row.getD c 0) := hide ⟨Nat.lt_of_lt_of_le hfl hst.out.2.1.length_le, fun c hc => (val_prefix HS.out.wf hst.out.1.wf hst.out.2.1 c f hfl).trans (hfv c hc)⟩
      have HROW := hide hrow2
      have HNX := hide hnx
      have HG := hide hg.out
      have HST := hide hst.out
      have HIDS := hide hids.out
      have HOWN := hide hown.out
      clear hst hg hids hown hcl hclt hclm hcb hlv hmn hmr hfe hfv hrow hrow2 hnx hfl
      go_wp2_with fail
      have kd : Same wr wr.drew := Keeps.drew (Keeps.refl (fun _ => True) wr)
      refine wp_region_plan (.take 0 (.take 1 (.take 2 (.take 3 (.take 5 (.take 8 (.take 9 (.take 10 (.take 11 (.one 4 (.one 6 (.take 7 (.take 12 (.one 13 (.one 14 (.take 15 .done)))))))))))))))) (fun w' => w'.cell? ⟨cb, coff + m, none⟩ = some (.int .i64 (Int.ofNat y))) (by kernel_rfl) (by kernel_rfl) (Keeps.cell kd hck trivial) ?_
      iterate 9
        (first
           | (apply pl_pass
              case ho => rfl
              case hw => rfl
              go_simp)
           | (apply pl_take
              case ho => rfl
              case hw => rfl
              case hv =>
                intro w' hS
                (have z0 := hS)
                go_simp
                exact rfl
              go_simp))
      have gd : Grew s w wr.drew := HG.out.trans (Grew.under HST.out.1 kd)
      have hnf : ∀ b, live (.slice (some ⟨cb, coff, none⟩) A.acc.length cc) = some b → ¬ Foot wr.drew s b := fun b hb hf => by
        rcases gd.foot b hf with h | h
        · exact HCB.out b hb h
        · have := HC.out.lt b (by simpa [HCL.out] using hb); omega
      refine pl_one (up_do rfl rfl fun K hK1 => ?_)
      go_simp
      refine pairMap (HST.out.1.same kd) (f : Int) (HC.out.keep gd.keeps fun b hb => HCB.out b hb) hnf (by have := HST.out.2.2; have := HB.out; omega) ?_; rintro e w2 r L2 rfl st2 g2 ans
      have g3 := gd.trans g2
      obtain ⟨id, rfl, hidl, hpre, hlen2, hidv⟩ := map_row (n := A.acc.length) HST.out.1.wf st2.wf ans HFV.out.1 HFV.out.2 HROW.out.1 HROW.out.2 HCL.out (fun x hx => by have := HLT.out x hx; omega)
      refine hK1 _ _ _ (Keeps.cell g3.keeps HCW.out HCN.out) (fun _ h => h) ?_
      clear hK1 K
      refine pl_one (up_do rfl rfl fun K hK1 => ?_)
      go_simp
      refine dfaStates (H0.out.keep (HK0.out.tr (g3.below HF0.out)) fun b _ hb => hb) ?_; rintro e rfl
      refine hK1 _ _ _ (Keeps.cell g3.keeps HCW.out HCN.out) (fun _ h => h) ?_
      clear hK1 K
      have hidb : id ≤ 1000000000 := by have := HST.out.2.2; have := HB.out; omega
      obtain ⟨q, hq⟩ : ∃ q, q = id * A.acc.length := ⟨_, rfl⟩
      have hqb : q ≤ 400000000000 := by rw [hq]; exact Nat.le_trans (Nat.mul_le_mul hidb hn4) (by decide)
      obtain ⟨z, hz⟩ : ∃ z, z = q + y := ⟨_, rfl⟩
      have hzb : z ≤ 1099511627776 := by
        have : y ≤ 400 := by omega
        rw [hz]; omega
      obtain ⟨hm1, hm2⟩ := mul_nat hq (Nat.le_trans hqb (by decide))
      obtain ⟨hm3, hm4⟩ := add_nat hz hzb
      have ow2 : OwnInts w2 W0 (.slice ua m uc) (outL A.acc.length cls ids) := by
        have h1 := (HOWN.out.same kd).grew (HST.out.1.same kd) g2
        rw [outL_length, hil] at h1
        exact h1
      have HQY := hide (show outL A.acc.length cls (ids ++ [id]) = outL A.acc.length cls ids ++ [(z : Int)] by rw [outL_snoc, hil, HY.out, hz, hq])
      have HZB := hide hzb
      clear hq hz hqb hzb
      iterate 2
        (first
           | (apply pl_pass
              case ho => rfl
              case hw => rfl
              go_simp)
           | (apply pl_take
              case ho => rfl
              case hw => rfl
              case hv =>
                intro w' hS
                (have z0 := hS)
                go_simp
                exact rfl
              go_simp))
      have hw02 : W0 ≤ w2.heap.size := by rw [HW0.out]; exact g3.keeps.size
      obtain ⟨g, cap, w5, hr5, own5, k5, _, _⟩ := append_one (P := Try.prog) w2 42 42 3 Try.underlying42 int_info rfl ow2 hw02 (.int .i64 (z : Int)) rfl (by rw [outL_length]; omega) (by decide)
      obtain ⟨st5, g5⟩ := Grew.own st2 g3 ow2 (by rw [HW0.out]; exact Nat.le_refl _) k5
      rw [outL_length, hil] at hr5 own5
      have HOWN5 : Hid (OwnInts w5 W0 (.slice (some ⟨g, 0, none⟩) (m + 1) cap) (outL A.acc.length cls (ids ++ [id]))) := hide (by
        unfold OwnInts
        rw [HQY.out]
        simpa [outL_length, hil] using own5)
      have HST5 : Hid (StoreAt w5 s A.T.toNat L2 ∧ L <+: L2 ∧ L2.length ≤ L.length + 128 * (m + 1)) := hide ⟨st5, HST.out.2.1.trans hpre, by have := HST.out.2.2; omega⟩
      have HIDS5 : Hid (IdsOk A L2 cls (ids ++ [id])) := hide ((HIDS.out.grow HST.out.1.wf st2.wf hpre).snoc hidl fun c hc => by
        rw [hidv c hc, hil, HNX.out c])
      refine pl_one (up_do rfl rfl fun K hK1 => ?_)
      go_simp
      refine hK1 _ _ _ (Keeps.cell ((Keeps.refl (fun _ => True) w2).alloc _) (Keeps.cell g3.keeps HCW.out HCN.out) trivial) (fun _ h => h) ?_
      clear hK1 K
      go_simp
      refine pl_one (up_append _ _ _ rfl rfl rfl ?hs ?hx hr5 (fun w' => w'.cell? ⟨cb, coff + m, none⟩ = some (.int .i64 (Int.ofNat y))) (Keeps.cell g5.keeps HCW.out HCN.out) (fun _ h => h) ?_)
      case hs => rfl
      case hx => rfl
      clear hr5
      go_simp
      iterate 1
        (first
           | (apply pl_pass
              case ho => rfl
              case hw => rfl
              go_simp)
           | (apply pl_take
              case ho => rfl
              case hw => rfl
              case hv =>
                intro w' hS
                (skip)
                go_simp
                exact rfl
              go_simp))
      refine pl_done ?_
      have HG5 := hide g5
      clear kd gd hnf g3 g2 st2 ans hidl hpre hlen2 hidv ow2 hw02 own5 k5 st5 g5 hm1 hm2 hm3 hm4 hck hrk hcl
      go_wp2_with fail
      go_roundw
      case rel => exact ⟨m + 1, ids ++ [id], L2, by go_num, by omega, by simp [hil], HST5.out, HG5.out, HIDS5.out, HOWN5.out⟩
      case measure => simp [intOf]; omega
    · obtain rfl : A.acc.length = m := by omega
      have HN := hide (HNO.out L' ids hst.out.1.wf hil hids.out)
      have HIB : Hid (∀ x ∈ outL A.acc.length cls ids, InI64 x) := hide (fun x hx => by
        unfold outL at hx
        obtain ⟨i, hi, rfl⟩ := List.mem_map.1 hx
        rw [List.mem_range] at hi
        have h1 := (hids.out i _ (List.getElem?_eq_getElem hi)).1
        have h2 := hst.out.2.2
        have h3 := HB.out
        rw [List.getD_eq_getElem?_getD, List.getElem?_eq_getElem hi, Option.getD_some]
        have h4 : cls.getD i 0 ≤ 400 := by
          have hic : i < cls.length := by rw [HCL.out, ← hil]; exact hi
          rw [List.getD_eq_getElem?_getD, List.getElem?_eq_getElem hic, Option.getD_some]
          have := HLT.out _ (List.getElem_mem hic)
          omega
        have h5 : ids[i] * A.acc.length ≤ 1000000000 * 400 := Nat.mul_le_mul (by omega) hn4
        exact nat_in (Nat.le_trans (Nat.add_le_add h5 h4) (by decide)))
      have HST2 := hide hst.out
      have HG2 := hide hg.out
      have HO2 := hide hown.out
      rw [outL_length, hil] at HO2
      clear hst hg hids hown
      go_wp2_with fail
      refine minNumbered (HO2.out.ints HIB.out) (by rw [outL_length, hil]; omega) ?_; rintro e w5 u rfl o5 k5
      rw [HN.out] at o5
      have HO5 := hide (ownsRow_below o5 HG2.out.keeps.size)
      have HG5 := hide (HG2.out.trans (Grew.under HST2.out.1 k5))
      have HS5 := hide (HST2.out.1.same k5)
      clear o5 k5
      go_wp2_with fail
      exact HR.out _ _ _ L' rfl (by rw [HW0.out]; exact HO5.out) HS5.out HST2.out.2.1 HST2.out.2.2 HG5.out

end Go.Proofs.Ytgpgbkoaopfjkaa
