/- The walk of sibylref20.Not. -/
import Derived.Test.YtohhjdadhdibfaaProdNot
import Derived.Test.YtohhjdadhdibfaaPkB
namespace Go.Proofs.Ytohhjdadhdibfaa
open Go.RowKit

attribute [local irreducible] wpQuiet wpPlan wpPlanZ wpUp

variable {R : Ending → World → Prop} {w : World} {A : Au} {B x : Nat} {T : Int} {u vn : Value} {acc : List Bool}

/-- On the way: the variable's block x, the answers so far, from B on. -/
structure NotIn (w : World) (B x : Nat) (T : Int) (u vn : Value) (acc : List Bool) : Prop where
  blk : w.heap[x]? = some (.cells #[.int .i64 T, u, vn] 25 (0, 0))
  low : B ≤ x
  acc : OwnBools w B u acc

theorem NotIn.same {w' : World} (h : NotIn w B x T u vn acc) (k : Same w w') : NotIn w' B x T u vn acc :=
  ⟨k.at h.blk trivial, h.low, ownsRow_keep h.acc k fun _ _ => trivial⟩

theorem NotIn.apart (h : NotIn w B x T u vn acc) : u.ownBlock ≠ some x := fun e => by
  obtain ⟨_, cur, hc⟩ := ownsRow_block h.acc e
  rw [h.blk] at hc
  simp at hc

theorem NotIn.step {w' : World} {u' : Value} {acc' : List Bool} (h : NotIn w B x T u vn acc) (k : Keeps (fun b => u.ownBlock ≠ some b) w w') (ha : OwnBools w' B u' acc') : NotIn (w'.setCell ⟨x, 1, none⟩ u') B x T u' vn acc' := by
  have hb := k.at h.blk h.apart
  have ks : Keeps (· ≠ x) w' (w'.setCell ⟨x, 1, none⟩ u') := (Keeps.refl (· ≠ x) w').setCell (fun hh => hh.2 rfl) _
  refine ⟨by rw [heap_setCell_at hb]; simp, h.low, ownsRow_keep ha ks fun b hb2 => ?_⟩
  rintro rfl
  obtain ⟨_, c1, h1⟩ := ownsRow_block ha hb2
  rw [hb] at h1; simp at h1

set_option maxRecDepth 10000 in
set_option maxHeartbeats 2000000 in
theorem refNot {v : Value} (hA : AutoAt w v A) (hok : AuOk A) (hR : ∀ e w' u, e = .returned u → AutoAt w' u (notAu A) → Same w w' → R e w') :
    Calls Try.prog 20 #[v] w R := by
  have HR := hide hR
  clear hR
  have HOK := hide hok
  obtain ⟨T, acc, next⟩ := A
  obtain ⟨⟨h1, h2, h3, h4, h5⟩, hrows⟩ := hok
  obtain ⟨va, vn, rfl, hacc, hnext, hT⟩ := hA
  simp only at h1 h2 h3 h4 h5 hrows hacc hnext hT
  obtain ⟨aa, ac, rfl, hc1, hc2, hcell⟩ := hacc.open
  have HNX := hide hnext
  obtain ⟨na, nc, rfl, hd1, hd2, _⟩ := hnext.open
  unfold maxLen at hc2 hd2
  have HC := hide hcell
  have H4 := hide h4
  have HTI := hide hT
  have g1 := heap_new w (.cells #[.int .i64 T, .slice aa acc.length ac, .slice na next.length nc] 25)
  have e1 : (w.alloc (.cells #[.int .i64 T, .slice aa acc.length ac, .slice na next.length nc] 25)).heap.size = w.heap.size + 1 := by simp
  have k1 : Same w (w.alloc (.cells #[.int .i64 T, .slice aa acc.length ac, .slice na next.length nc] 25)) := (Keeps.refl _ w).alloc _
  have g2 := heap_new (w.alloc (.cells #[.int .i64 T, .slice aa acc.length ac, .slice na next.length nc] 25)) (.cells #[.int .i64 0, .slice none 0 0, .slice none 0 0] 25)
  rw [e1] at g2
  have g3 := heap_old g1 (.cells #[.int .i64 0, .slice none 0 0, .slice none 0 0] 25)
  have k2 := k1.alloc (.cells #[.int .i64 0, .slice none 0 0, .slice none 0 0] 25)
  have c0 := cell_at g3 0
  have c1 := cell_at g3 1
  have c2 := cell_at g3 2
  simp only [List.getElem?_toArray, List.getElem?_cons_zero, List.getElem?_cons_succ] at c0 c1 c2
  clear hacc hnext hT hcell g1 e1 k1 g3 h1 h2 h3 h4 h5 hrows
  go_enter Try.func20, Try.ntmps20
  go_wp2_with fail
  have e2 : ((w.alloc (.cells #[.int .i64 T, .slice aa acc.length ac, .slice na next.length nc] 25)).alloc (.cells #[.int .i64 0, .slice none 0 0, .slice none 0 0] 25)).heap.size = w.heap.size + 1 + 1 := by simp
  generalize (w.alloc (.cells #[.int .i64 T, .slice aa acc.length ac, .slice na next.length nc] 25)).alloc (.cells #[.int .i64 0, .slice none 0 0, .slice none 0 0] 25) = w2 at g2 k2 c0 c1 c2 e2 ⊢
  have g3 := heap_new w2 (.cells #[.int .i64 T, .slice none 0 0, .slice na next.length nc] 25)
  have k3 : Same w2 (w2.alloc (.cells #[.int .i64 T, .slice none 0 0, .slice na next.length nc] 25)) := (Keeps.refl _ w2).alloc _
  rw [e2] at g3
  obtain ⟨W0, hW0⟩ : ∃ W0, W0 = w.heap.size + 1 + 1 := ⟨_, rfl⟩
  have HW0 := hide (hW0.trans e2.symm)
  have hout : NotIn (w2.alloc (.cells #[.int .i64 T, .slice none 0 0, .slice na next.length nc] 25)) W0 (w.heap.size + 1 + 1) T (.slice none 0 0) (.slice na next.length nc) [] := ⟨g3, by rw [hW0]; exact Nat.le_refl _, World.ownsRow_nil _ _ _ _⟩
  generalize w2.alloc (.cells #[.int .i64 T, .slice none 0 0, .slice na next.length nc] 25) = w3 at hout k3 ⊢
  generalize hx : w.heap.size + 1 + 1 = x at hout ⊢
  have C1 := hide c1
  have HG2 := hide g2
  have HK2 := hide k2
  have HK3 := hide k3
  have HOUT := hide hout
  clear g2 k2 c0 c1 c2 e2 g3 k3 hW0 hx hout
  go_loopw [4] (fun i wr => ∃ (k : Nat) (u : Value), i = .int .i64 k ∧ k ≤ acc.length ∧ Hid (NotIn wr W0 x T u (.slice na next.length nc) ((acc.take k).map (!·))) ∧ Same w2 wr) (fun i _ => acc.length - (intOf i).toNat)
  case atStart => exact ⟨0, _, rfl, Nat.zero_le _, hide (by simpa using HOUT.out), HK3.out⟩
  case round =>
    obtain ⟨k, u, rfl, hk, hout, hK⟩ := hrel
    have q1 := Keeps.cell hK C1.out trivial
    by_cases hlt : k < acc.length
    · obtain ⟨bl, off, rfl, _, hcl⟩ := HC.out k hlt
      have HCK := hide (Keeps.cell HK2.out (hcl k hlt) trivial)
      have HTK := hide (show (acc.take (k + 1)).map (!·) = (acc.take k).map (!·) ++ [!acc[k]] by rw [List.take_succ_eq_append_getElem hlt, List.map_append]; rfl)
      have hlen : ((acc.take k).map (!·)).length = k := by simp; omega
      generalize acc[k] = b at HCK HTK
      generalize (acc.take k).map (!·) = pr at hout HTK hlen
      have kd : Same wr wr.drew := Keeps.drew (Keeps.refl (fun _ => True) wr)
      have ho1 := hout.out.same (kd.alloc (.cells #[.bool (!b)] 4))
      have hKd := hK.tr (kd.alloc (.cells #[.bool (!b)] 4))
      obtain ⟨g, cap1, w5, hr, hown2, hk5, hg, _⟩ := append_one (P := Try.prog) wr.drew 22 22 4 Try.underlying22 bool_info rfl (hout.out.same kd).acc (by rw [HW0.out]; exact (hK.tr kd).size) (.bool (!b)) rfl (by have := H4.out; omega) (by decide)
      obtain ⟨ua, uc, rfl⟩ := ownsRow_shape hout.out.acc
      have hod := hout.out.same kd
      have hge : ∀ z, (Value.slice ua pr.length uc).ownBlock = some z → w2.heap.size ≤ z := fun z e => by
        have := (ownsRow_block hod.acc e).1
        rw [HW0.out] at this; exact this
      have hK5 : Same w2 w5 := (hK.tr kd).trans hk5 fun z hz _ => ⟨trivial, fun e => by have := hge z e; omega⟩
      have hb5 := hk5.at hod.blk hod.apart
      have hst := hod.step (acc' := pr ++ [!b]) hk5 (by unfold OwnBools; simpa using hown2)
      have hK6 : Same w2 (w5.setCell ⟨x, 1, none⟩ (.slice (some ⟨g, 0, none⟩) (pr.length + 1) cap1)) := hK5.setCell (fun hh => by
        have h1 := hod.low
        have h2 : x < w2.heap.size := hh.1
        rw [HW0.out] at h1; omega) _
      have HF := hide (And.intro hst hK6)
      have HS0 := hide (And.intro (hK.tr kd) hod.blk)
      have HS1 := hide (And.intro hKd ho1.blk)
      have HS5 := hide (And.intro hK5 hb5)
      have z1 := cell_at hb5 1
      have z2 := free_at hb5 1
      simp only [List.getElem?_toArray, List.getElem?_cons_zero, List.getElem?_cons_succ] at z1
      rw [hlen] at hr z1 HF HS0 HS1 HS5
      clear hout hod hge hK5 hb5 hst hK6 hown2 hk5 hg hcl ho1 hKd kd hK
      go_wp2_with fail
      clear q1
      refine wp_region_planz 11 (.take 0 (.take 1 (.take 2 (.take 3 (.take 4 (.take 5 (.take 6 (.take 7 (.one 8 (.one 9 (.take 10 .last))))))))))) (fun w' => Same w2 w' ∧ ∃ s z, w'.heap[x]? = some (.cells #[.int .i64 T, .slice ua k uc, .slice s z nc] 25 (0, 0))) (by kernel_rfl) (by kernel_rfl) ⟨HS0.out.1, _, _, HS0.out.2⟩ ?_
      iterate 8
        (first
           | (apply pz_pass
              case ho => rfl
              case hw => rfl
              go_simp)
           | (apply pz_take
              case ho => rfl
              case hw => rfl
              case hv =>
                intro w' hS
                (obtain ⟨hSk, s, z, hSb⟩ := hS; have y1 := cell_at hSb 1; have c1 := Keeps.cell hSk C1.out trivial; have ck := Keeps.cell hSk HCK.out trivial; simp only [List.getElem?_toArray, List.getElem?_cons_zero, List.getElem?_cons_succ] at y1)
                go_simp
                exact rfl
              go_simp))
      refine pz_one (up_do rfl rfl fun K hK1 => ?_)
      go_simp
      refine hK1 _ _ _ ⟨HS1.out.1, _, _, HS1.out.2⟩ (fun _ h => h) ?_
      clear hK1 K
      refine pz_one (up_append _ _ _ rfl rfl rfl ?hs ?hx hr _ ⟨HS5.out.1, _, _, HS5.out.2⟩ (fun _ h => h) ?_)
      case hs => rfl
      case hx => rfl
      clear hr
      go_simp
      iterate 1
        (first
           | (apply pz_pass
              case ho => rfl
              case hw => rfl
              go_simp)
           | (apply pz_take
              case ho => rfl
              case hw => rfl
              case hv =>
                intro w' hS
                (skip)
                go_simp
                exact rfl
              go_simp))
      refine pz_last rfl rfl fun K hK1 => ?_
      go_simp
      refine hK1 _ _ (np_normal ?_)
      clear hK1 K z1 z2
      go_wp2_with fail
      go_roundw
      case rel => exact ⟨k + 1, _, by go_num, by omega, hide (by rw [HTK.out]; exact HF.out.1), HF.out.2⟩
      case measure => simp [intOf]; omega
    · obtain rfl : k = acc.length := by omega
      have hout2 := hout.out
      rw [List.take_length] at hout2
      obtain ⟨ma, mc, rfl⟩ := ownsRow_shape hout2.acc
      have x0 : wr.cell? ⟨x, 0, none⟩ = some (.int .i64 T) := cell_at hout2.blk 0
      have x1 : wr.cell? ⟨x, 1, none⟩ = some (.slice ma (acc.map (!·)).length mc) := cell_at hout2.blk 1
      have x2 : wr.cell? ⟨x, 2, none⟩ = some (.slice na next.length nc) := cell_at hout2.blk 2
      have hbr := hK.at HG2.out trivial
      have r0 : wr.cell? ⟨w.heap.size + 1, 0, none⟩ = some (.int .i64 0) := cell_at hbr 0
      have r1 : wr.cell? ⟨w.heap.size + 1, 1, none⟩ = some (.slice none 0 0) := cell_at hbr 1
      have r2 : wr.cell? ⟨w.heap.size + 1, 2, none⟩ = some (.slice none 0 0) := cell_at hbr 2
      have f0 := free_at hbr 0
      have f1 := free_at hbr 1
      have f2 := free_at hbr 2
      have hml : (acc.map (!·)).length = acc.length := by simp
      rw [hml] at x1 hout2
      clear hout hml
      go_wp2_with fail
      have h3 := set3 (a := .int .i64 T) (b := .slice ma acc.length mc) (c := (.slice na next.length nc)) hbr
      have hom : OwnBools _ W0 _ (acc.map (!·)) := ownsRow_keep hout2.acc h3.2 fun b hb2 => by
        rintro rfl
        obtain ⟨_, c1, h1⟩ := ownsRow_block hout2.acc hb2
        rw [hbr] at h1; simp at h1
      have hkf : Same w (((wr.setCell ⟨w.heap.size + 1, 0, none⟩ (.int .i64 T)).setCell ⟨w.heap.size + 1, 1, none⟩ (.slice ma acc.length mc)).setCell ⟨w.heap.size + 1, 2, none⟩ (.slice na next.length nc)) :=
        (((HK2.out.tr hK).setCell (fun hh => by have := hh.1; simp at this; omega) _).setCell (fun hh => by have := hh.1; simp at this; omega) _).setCell (fun hh => by have := hh.1; simp at this; omega) _
      have hb3 := h3.1
      generalize ((wr.setCell ⟨w.heap.size + 1, 0, none⟩ (.int .i64 T)).setCell ⟨w.heap.size + 1, 1, none⟩ (.slice ma acc.length mc)).setCell ⟨w.heap.size + 1, 2, none⟩ (.slice na next.length nc) = wf at hb3 hkf hom ⊢
      have hfin : AutoAt wf (.agg #[.int .i64 T, .slice ma acc.length mc, (.slice na next.length nc)]) (notAu ⟨T, acc, next⟩) := ⟨_, _, rfl, by simpa [notAu] using hom.bools, HNX.out.same hkf, HTI.out⟩
      have y0 : wf.cell? ⟨w.heap.size + 1, 0, none⟩ = some (.int .i64 T) := cell_at hb3 0
      have y1 : wf.cell? ⟨w.heap.size + 1, 1, none⟩ = some (.slice ma acc.length mc) := cell_at hb3 1
      have y2 : wf.cell? ⟨w.heap.size + 1, 2, none⟩ = some (.slice na next.length nc) := cell_at hb3 2
      refine bodyPost_ret (v := .agg #[.int .i64 T, .slice ma acc.length mc, (.slice na next.length nc)]) (by simp [results, Try.results20, go_sem, y0, y1, y2]) rfl ?_
      exact HR.out _ _ _ rfl hfin hkf

end Go.Proofs.Ytohhjdadhdibfaa
