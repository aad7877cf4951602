/- The walk of auto.From. -/
import Derived.Test.YtohhjdadhdibfaaDfa
namespace Go.Proofs.Ytohhjdadhdibfaa
open Go.RowKit

attribute [local irreducible] wpPlanZ wpPlan wpUp

variable {R : Ending → World → Prop} {w : World}

theorem autoFromNot {v : Value} {A : Au} (hv : AutoAt w v A) (hno : ¬ AuOk A) (hR : ∀ e w', e = .returned (.tuple #[.pointer none, .int .i64 1]) → Same w w' → R e w') :
    Calls Try.prog 58 #[v] w R := by
  have HR := hide hR
  clear hR
  have HV := hide hv
  obtain ⟨va, vn, rfl, hacc, hnext, hT⟩ := hv
  obtain ⟨aa, ac, rfl, _⟩ := hacc.open
  obtain ⟨na, nc, rfl, _⟩ := hnext.open
  have hk : Same w (w.alloc (.cells #[.int .i64 A.T, .slice aa A.acc.length ac, .slice na A.next.length nc] 25)) := (Keeps.refl _ w).alloc _
  clear hacc hnext hT
  go_enter Try.func58, Try.ntmps58
  go_wp2_with fail
  refine autoIs (HV.out.same hk) ?_; rintro e w1 rfl k1
  rw [show decide (AuOk A) = false by simpa using hno]
  go_wp2_with fail
  exact HR.out _ _ rfl (hk.tr k1)

set_option maxHeartbeats 4000000 in
theorem autoFrom {v : Value} {A : Au} (hv : AutoAt w v A) (hok : AuOk A) (hR : ∀ e w' d, e = .returned (.tuple #[.pointer (some ⟨d, 0, none⟩), .int .i64 0]) → DFAAt w' w.heap.size d A → Same w w' → R e w') :
    Calls Try.prog 58 #[v] w R := by
  have HR := hide hR
  clear hR
  have HV := hide hv
  have HOK := hide hok
  obtain ⟨T, acc, next⟩ := A
  obtain ⟨⟨h1, h2, h3, h4, h5⟩, hrows⟩ := hok
  obtain ⟨va, vn, rfl, hacc, hnext, hT⟩ := hv
  simp only at h1 h2 h3 h4 h5 hrows hacc hnext hT
  obtain ⟨T, rfl⟩ := Int.eq_ofNat_of_zero_le h1
  have HACC := hide hacc
  obtain ⟨aa, ac, rfl, hc1, hc2, _⟩ := hacc.open
  obtain ⟨na, nc, rfl, hd1, hd2, hcell⟩ := hnext.open
  have HC := hide hcell
  have HRO := hide hrows
  have H5 := hide h5
  have H2 : Hid (T ≤ 6) := hide (by omega)
  have H34 := hide (And.intro h3 h4)
  have hbox := heap_new w (.cells #[.int .i64 (T : Int), .slice aa acc.length ac, .slice na next.length nc] 25)
  have c0 := cell_at hbox 0
  have c1 := cell_at hbox 1
  have c2 := cell_at hbox 2
  simp only [List.getElem?_toArray, List.getElem?_cons_zero, List.getElem?_cons_succ] at c0 c1 c2
  have hk : Same w (w.alloc (.cells #[.int .i64 (T : Int), .slice aa acc.length ac, .slice na next.length nc] 25)) := (Keeps.refl _ w).alloc _
  have hdec : decide (AuOk ⟨(T : Int), acc, next⟩) = true := by simpa using HOK.out
  unfold maxLen at hc2 hd2
  obtain ⟨B, hBs⟩ : ∃ B, B = w.heap.size := ⟨_, rfl⟩
  have HBS := hide hBs
  clear hBs hacc hnext hT hcell hbox h1 h2 h3 h4 h5 hrows
  go_enter Try.func58, Try.ntmps58
  go_wp2_with fail
  refine autoIs (HV.out.same hk) ?_; rintro e w1 rfl k1
  rw [hdec]
  have d0 := Keeps.cell k1 c0 trivial
  have d1 := Keeps.cell k1 c1 trivial
  have d2 := Keeps.cell k1 c2 trivial
  have D2 := hide d2
  have HK1 := hide (hk.tr k1)
  clear c0 c1 c2 hk k1 hdec d2
  go_wp2_with fail
  refine wp_region_plan (.take 0 (.take 1 (.take 3 (.take 4 (.one 2 (.one 5 (.take 6 (.one 7 (.take 8 .done))))))))) (Same w1) (by kernel_rfl) (by kernel_rfl) (Keeps.drew (Keeps.refl (fun _ => True) w1)) ?_
  iterate 4
    (apply pl_take
     case ho => rfl
     case hw => rfl
     case hv =>
       intro w' hw'
       have q0 := Keeps.cell hw' d0 trivial
       have q1 := Keeps.cell hw' d1 trivial
       go_simp
       exact rfl
     go_simp)
  refine pl_one (up_do rfl rfl fun K hK1 => ?_)
  go_simp
  refine cloneBools (HACC.out.same (HK1.out.tr (Keeps.drew (Keeps.refl (fun _ => True) w1)))) H34.out.1 (by have := H34.out.2; omega) ?_; rintro e w2 u2 rfl o2 k2
  obtain ⟨ub, uc, rfl⟩ := ownsRow_shape o2
  refine hK1 (Same w1) _ _ ((Keeps.drew (Keeps.refl (fun _ => True) w1)).tr k2) (fun _ h => h) ?_
  clear hK1 K
  refine pl_one (up_do rfl rfl fun K hK1 => ?_)
  go_simp
  refine storeNew (T : Int) (by omega) (by have := H2.out; omega) ?_; rintro e w3 s rfl s3 k3 f3
  refine hK1 (Same w1) _ _ (((Keeps.drew (Keeps.refl (fun _ => True) w1)).tr k2).tr k3) (fun _ h => h) ?_
  clear hK1 K
  apply pl_take
  case ho => rfl
  case hw => rfl
  case hv => intro w' hw'; go_simp; exact rfl
  go_simp
  refine pl_one (up_do rfl rfl fun K hK1 => ?_)
  go_simp
  have hin : DfaIn (w3.alloc (.cells #[.slice ub acc.length uc, .slice none 0 0, .pointer (some ⟨s, 0, none⟩)] 75)) B w3.heap.size s (.slice ub acc.length uc) (.slice none 0 0) T acc [] [] := by
    have hB1 : B ≤ w1.heap.size := by rw [HBS.out]; exact HK1.out.size
    have hB2 : B ≤ w2.heap.size := Nat.le_trans hB1 k2.size
    have ka : Same w3 (w3.alloc (.cells #[.slice ub acc.length uc, .slice none 0 0, .pointer (some ⟨s, 0, none⟩)] 75)) := (Keeps.refl _ w3).alloc _
    rw [Int.toNat_natCast] at s3
    exact ⟨heap_new _ _, Nat.le_trans hB2 k3.size, ownsRow_below (ownsRow_keep o2 (k3.tr ka) fun _ _ => trivial) hB1, World.ownsRow_nil _ _ _ _, s3.same ka, fun x hx => Nat.le_trans hB2 (s3.foot ka f3 x hx)⟩
  have hk4 : Same w1 (w3.alloc (.cells #[.slice ub acc.length uc, .slice none 0 0, .pointer (some ⟨s, 0, none⟩)] 75)) := (((Keeps.drew (Keeps.refl (fun _ => True) w1)).tr k2).tr k3).alloc _
  refine hK1 (Same w1) _ _ hk4 (fun _ h => h) ?_
  clear hK1 K
  generalize w3.alloc (.cells #[.slice ub acc.length uc, .slice none 0 0, .pointer (some ⟨s, 0, none⟩)] 75) = w4 at hin hk4 ⊢
  generalize w3.heap.size = d at hin ⊢
  apply pl_take
  case ho => rfl
  case hw => rfl
  case hv => intro w' hw'; go_simp; exact rfl
  go_simp
  refine pl_done ?_
  have e2 := Keeps.cell hk4 D2.out trivial
  have HIN := hide hin
  have HK4 := hide (HK1.out.tr hk4)
  clear o2 k2 s3 k3 f3 hin hk4 d0 d1
  go_wp2_with fail
  go_loopw [21] (fun i wr => ∃ (k : Nat) (vr : Value) (L : List Nd) (roots : List Int), i = .int .i64 k ∧ k ≤ next.length ∧ Hid (DfaIn wr B d s (.slice ub acc.length uc) vr T acc L roots ∧ L.length ≤ 127 * k ∧ RootsOk T L roots (next.take k)) ∧ Same w wr) (fun i _ => next.length - (intOf i).toNat)
  case atStart => exact ⟨0, _, [], [], rfl, Nat.zero_le _, hide ⟨HIN.out, Nat.le_refl _, rfl, by simp⟩, HK4.out⟩
  case round =>
    clear e2
    obtain ⟨k, vr, L, roots, rfl, hk, hinv, hK⟩ := hrel
    by_cases hlt : k < next.length
    · obtain ⟨bl, off, rfl, hbl, hcl⟩ := HC.out k hlt
      obtain ⟨u, hu, hiu⟩ := hcl k hlt
      obtain ⟨ua, uuc, rfl, _⟩ := hiu.open
      have hck := Keeps.cell hK hu trivial
      have HROW := hide (HRO.out next[k] (List.getElem_mem hlt))
      have HT := hide (List.take_succ_eq_append_getElem hlt)
      have HIU := hide hiu
      generalize next[k] = row at hck HROW HT HIU
      obtain ⟨hin, hLlen, hro⟩ := hinv.out
      obtain ⟨ra, rc, rfl⟩ := hin.roots.shape
      have HIN := hide hin
      have HL := hide hLlen
      have HRK := hide hro
      have HKW := hide hK
      clear hcl hu hiu hinv hin hLlen hro hK
      go_wp2_with fail
      refine wp_region_planz 15 (.take 0 (.take 1 (.take 2 (.take 3 (.take 4 (.take 5 (.take 6 (.take 7 (.take 8 (.take 9 (.one 10 (.one 11 (.one 12 (.take 13 (.take 14 .last))))))))))))))) (fun w' => w'.heap[d]? = some (.cells #[.slice ub acc.length uc, .slice ra roots.length rc, .pointer (some ⟨s, 0, none⟩)] 75 (0, 0))) (by kernel_rfl) (by kernel_rfl) HIN.out.blk ?_
      iterate 10
        (first
           | (apply pz_pass
              case ho => rfl
              case hw => rfl
              go_simp)
           | (apply pz_take
              case ho => rfl
              case hw => rfl
              case hv =>
                intro w' hS
                (have q1 := cell_at hS 1; have q2 := cell_at hS 2; simp only [List.getElem?_toArray, List.getElem?_cons_zero, List.getElem?_cons_succ] at q1 q2)
                go_simp
                exact rfl
              go_simp))
      refine pz_one (up_do rfl rfl fun K hK1 => ?_)
      go_simp
      have kd : Same wr wr.drew := Keeps.drew (Keeps.refl (fun _ => True) wr)
      have hBw : B ≤ wr.heap.size := by rw [HBS.out]; exact HKW.out.size
      have hind := HIN.out.same kd
      have hiu := HIU.out.same (HKW.out.tr kd)
      have hap : Apart wr.drew s (.slice ua row.length uuc) := Apart.old hind.foot (fun b hb => by rw [HBS.out]; exact HIU.out.lt b hb) hBw
      have hTn : T ≤ 6 := H2.out
      obtain ⟨j, hmade, hval⟩ := OfA_made hind.store.wf HROW.out.1 (HROW.out.all H34.out.2)
      have hlen := OfA_len T L row hTn
      have HCAP : Hid (acc.length ≤ 400) := hide H34.out.2
      have HKN : Hid (k < acc.length) := hide (by rw [← H5.out]; exact hlt)
      refine storeOfC hind.store hiu hap (by have := HL.out; have := HCAP.out; have := HKN.out; omega) ?_; rintro e w2 rfl s2 g2
      rw [hmade.num]
      have hin2 := hind.grew g2 s2 hBw
      have hK2 : Same w w2 := (HKW.out.tr kd).trans g2.keeps fun x hx _ => ⟨trivial, fun hf => by have := hind.foot x hf; rw [HBS.out] at this; omega⟩
      have hro2 := (HRK.out.grow hind.store.wf hmade.wf hmade.pre).snoc hmade.lt hval
      have HRL : Hid (roots.length = k) := hide (by rw [HRK.out.1]; simp; omega)
      obtain ⟨g, cap1, w5, hr, hown2, hk5, hg, _⟩ := append_one (P := Try.prog) w2 40 40 3 Try.underlying40 int_info rfl hin2.roots (by rw [HBS.out]; exact hK2.size) (.int .i64 (j : Int)) rfl (by have := HRL.out; have := HCAP.out; have := HKN.out; omega) (by decide)
      have hown3 : OwnInts w5 B (.slice (some ⟨g, 0, none⟩) (roots.length + 1) cap1) (roots ++ [(j : Int)]) := by unfold OwnInts; simpa using hown2
      have hin5 := hin2.root hk5 hown3
      have hnd : (Value.slice ra roots.length rc).ownBlock ≠ some d := fun e => by
        obtain ⟨_, cur, hc⟩ := ownsRow_block hin2.roots e
        rw [hin2.blk] at hc; simp at hc
      have hb5 := hk5.at hin2.blk hnd
      have hK5 : Same w w5 := hK2.trans hk5 fun x hx _ => ⟨trivial, fun e => by
        have := (ownsRow_block hin2.roots e).1
        rw [HBS.out] at this; omega⟩
      have hK6 : Same w (w5.setCell ⟨d, 1, none⟩ (.slice (some ⟨g, 0, none⟩) (roots.length + 1) cap1)) := hK5.setCell (fun hh => by have := hin2.low; rw [HBS.out] at this; have := hh.1; simp at this; omega) _
      have z1 := cell_at hb5 1
      have z2 := free_at hb5 1
      simp only [List.getElem?_toArray, List.getElem?_cons_zero, List.getElem?_cons_succ] at z1
      have HF := hide (And.intro hin5 (And.intro hro2 hK6))
      have hS2 := hin2.blk
      refine hK1 _ _ _ hS2 (fun _ h => h) ?_
      clear hK1 K hin5 hro2 hK6 hK5 hnd hown3 hown2 hin2 hk5 hind hiu hap hval hmade
      refine pz_one (up_do rfl rfl fun K hK1 => ?_)
      go_simp
      refine hK1 _ _ _ (heap_old hS2 _) (fun _ h => h) ?_
      clear hK1 K
      refine pz_one (up_append _ _ _ rfl rfl rfl ?hs ?hx hr _ hb5 (fun _ h => h) ?_)
      case hs => rfl
      case hx => rfl
      clear hr
      go_simp
      iterate 2
        (first
           | (apply pz_pass
              case ho => rfl
              case hw => rfl
              go_simp)
           | (apply pz_take
              case ho => rfl
              case hw => rfl
              case hv =>
                intro w' hS
                (skip)
                go_simp
                exact rfl
              go_simp))
      refine pz_last rfl rfl fun K hK1 => ?_
      go_simp
      refine hK1 _ _ (np_normal ?_)
      clear hK1 K z1 z2 hb5 hS2
      go_wp2_with fail
      go_roundw
      case rel =>
        refine ⟨k + 1, _, _, _, by go_num, by omega, hide ⟨HF.out.1, ?_, ?_⟩, HF.out.2.2⟩
        · have := HL.out; omega
        · rw [HT.out]; exact HF.out.2.1
      case measure => simp [intOf]; omega
    · obtain rfl : k = next.length := by omega
      obtain ⟨hin, hLlen, hro⟩ := hinv.out
      rw [List.take_length] at hro
      have hD : DFAAt wr B d ⟨(T : Int), acc, next⟩ := ⟨HOK.out, _, _, _, L, roots, by simpa using hin, by have := H5.out; simp only; omega, by simpa using hro⟩
      have HD := hide hD
      have HKF := hide hK
      clear hinv hin hLlen hro hD hK
      go_wp2_with fail
      exact HR.out _ _ d rfl (by have := HD.out; rw [HBS.out] at this; exact this) HKF.out

end Go.Proofs.Ytohhjdadhdibfaa
