/- The walk of sibylref23.Widen. -/
import Derived.Test.YtgpbjjnfccalbaaTrack2
namespace Go.Proofs.Ytgpbjjnfccalbaa
open Go.RowKit

variable {R : Ending → World → Prop} {w : World} {A : Au} {B x : Nat} {T : Int} {u vn : Value} {rows : List (List Int)}

/-- On the way: the variable's block x, the rows so far, from B on. -/
structure OutIn (w : World) (B x : Nat) (T : Int) (u vn : Value) (rows : List (List Int)) : Prop where
  blk : w.heap[x]? = some (.cells #[.int .i64 T, u, vn] 25 (0, 0))
  low : B ≤ x
  mat : OwnMat w B vn rows

theorem OutIn.same {w' : World} (h : OutIn w B x T u vn rows) (k : Same w w') : OutIn w' B x T u vn rows :=
  ⟨k.at h.blk trivial, h.low, h.mat.same k⟩

theorem OutIn.apart (h : OutIn w B x T u vn rows) : vn.ownBlock ≠ some x := fun e => by
  obtain ⟨vs, h1, _⟩ := h.mat
  obtain ⟨_, cur, hc⟩ := ownsRow_block h1 e
  rw [h.blk] at hc
  simp at hc

/-- A row more. -/
theorem OutIn.step {w' : World} {vn' : Value} {rows' : List (List Int)} (h : OutIn w B x T u vn rows) (k : Keeps (fun b => vn.ownBlock ≠ some b) w w') (hm : OwnMat w' B vn' rows') : OutIn (w'.setCell ⟨x, 2, none⟩ vn') B x T u vn' rows' := by
  have hb := k.at h.blk h.apart
  have ks : Keeps (· ≠ x) w' (w'.setCell ⟨x, 2, none⟩ vn') := (Keeps.refl (· ≠ x) w').setCell (fun hh => hh.2 rfl) _
  refine ⟨by rw [heap_setCell_at hb]; simp, h.low, hm.keepT ks fun b cur e hc he _ => ?_⟩
  rintro rfl
  rw [hb] at hc
  simp only [Option.some.injEq, Obj.cells.injEq] at hc
  obtain ⟨_, rfl, _⟩ := hc
  rcases he with he | he <;> exact absurd he (by decide)

set_option maxRecDepth 10000 in
set_option maxHeartbeats 4000000 in
theorem refWiden {v : Value} {t : Nat} (hA : AutoAt w v A) (hok : AuOk A) (hT6 : A.T < 6) (ht : (t : Int) ≤ A.T)
    (hR : ∀ e w' u, e = .returned (.tuple #[u, .bool true]) → AutoAt w' u (turnAu A (A.T.toNat + 1) (wb t)) → Same w w' → R e w') :
    Calls Try.prog 56 #[v, .int .i64 (t : Int)] w R := by
  have HR := hide hR
  clear hR
  have HOK := hide hok
  have HTO := hide (turnAu_ok hok (T' := A.T.toNat + 1) (g := wb t) (by have := hok.1.1; omega) (fun c hc => wb_lt (by omega) hc))
  obtain ⟨T, acc, next⟩ := A
  obtain ⟨⟨h1, h2, h3, h4, h5⟩, hrows⟩ := hok
  obtain ⟨va, vn, rfl, hacc, hnext, hT⟩ := hA
  simp only at h1 h2 h3 h4 h5 hrows hacc hnext hT hT6 ht
  obtain ⟨T, rfl⟩ := Int.eq_ofNat_of_zero_le h1
  simp only [Int.toNat_natCast] at HTO HR
  obtain ⟨aa, ac, rfl, hc1, hc2, _⟩ := hacc.open
  obtain ⟨na, nc, rfl, hd1, hd2, hcell⟩ := hnext.open
  unfold maxLen at hc2 hd2
  have HC := hide hcell
  have HACC := hide hacc
  have HRO := hide hrows
  have H45 := hide (And.intro h4 h5)
  have htT : t ≤ T := by omega
  have hT5 : T ≤ 5 := by omega
  have hw2 := wrap_two (show T + 1 ≤ 6 by omega)
  have hwt := wrap_two (show t ≤ 6 by omega)
  have HTA : Hid (turnAu ⟨(T : Int), acc, next⟩ (T + 1) (wb t) = ⟨((T + 1 : Nat) : Int), acc, next.map (turnRow (2 ^ (T + 1)) (wb t))⟩) := hide rfl
  have HWB : Hid (∀ c : Nat, c < 2 ^ (T + 1) → wb t c < 2 ^ T) := hide fun c hc => wb_lt htT hc
  have HWV : Hid (∀ c : Nat, c < 2 ^ (T + 1) → bits .or .i64 (bits .and .i64 (c : Int) (wrap64 ((2 : Int) ^ t - 1))) (wrap64 ((c : Int) / 2 ^ (t + 1) * 2 ^ t)) = ((wb t c : Nat) : Int)) := hide fun c hc => widen_val (by omega) (Nat.lt_of_lt_of_le hc (two_le (by omega)))
  have h64 := two_le (show T + 1 ≤ 6 by omega)
  have HRL : Hid (∀ l ∈ next, l.length = 2 ^ T) := hide fun l hl => (hrows l hl).1
  have g1 := heap_new w (.cells #[.int .i64 (T : Int), .slice aa acc.length ac, .slice na next.length nc] 25)
  have e1 : (w.alloc (.cells #[.int .i64 (T : Int), .slice aa acc.length ac, .slice na next.length nc] 25)).heap.size = w.heap.size + 1 := by simp
  have k1 : Same w (w.alloc (.cells #[.int .i64 (T : Int), .slice aa acc.length ac, .slice na next.length nc] 25)) := (Keeps.refl _ w).alloc _
  have g2 := heap_new (w.alloc (.cells #[.int .i64 (T : Int), .slice aa acc.length ac, .slice na next.length nc] 25)) (.cells #[.int .i64 0, .slice none 0 0, .slice none 0 0] 25)
  rw [e1] at g2
  have g3 := heap_old g1 (.cells #[.int .i64 0, .slice none 0 0, .slice none 0 0] 25)
  have k2 := k1.alloc (.cells #[.int .i64 0, .slice none 0 0, .slice none 0 0] 25)
  have c0 := cell_at g3 0
  have c1 := cell_at g3 1
  have c2 := cell_at g3 2
  simp only [List.getElem?_toArray, List.getElem?_cons_zero, List.getElem?_cons_succ] at c0 c1 c2
  clear hacc hnext hT hcell g1 e1 k1 g3 h1 h2 h3 h4 h5 hrows
  generalize hpp : 2 ^ (T + 1) = p at hw2 HTA HWB HWV h64
  go_enter Try.func56, Try.ntmps56
  go_wp2_with fail
  have e2 : ((w.alloc (.cells #[.int .i64 (T : Int), .slice aa acc.length ac, .slice na next.length nc] 25)).alloc (.cells #[.int .i64 0, .slice none 0 0, .slice none 0 0] 25)).heap.size = w.heap.size + 1 + 1 := by simp
  generalize (w.alloc (.cells #[.int .i64 (T : Int), .slice aa acc.length ac, .slice na next.length nc] 25)).alloc (.cells #[.int .i64 0, .slice none 0 0, .slice none 0 0] 25) = w2 at g2 k2 c0 c1 c2 e2 ⊢
  have g3 := heap_new w2 (.cells #[.int .i64 ((T : Int) + 1), .slice aa acc.length ac, .slice none 0 0] 25)
  have k3 : Same w2 (w2.alloc (.cells #[.int .i64 ((T : Int) + 1), .slice aa acc.length ac, .slice none 0 0] 25)) := (Keeps.refl _ w2).alloc _
  rw [e2] at g3
  obtain ⟨W0, hW0⟩ : ∃ W0, W0 = w.heap.size + 1 + 1 := ⟨_, rfl⟩
  have HW0 := hide (hW0.trans e2.symm)
  have hout : OutIn (w2.alloc (.cells #[.int .i64 ((T : Int) + 1), .slice aa acc.length ac, .slice none 0 0] 25)) W0 (w.heap.size + 1 + 1) ((T : Int) + 1) (.slice aa acc.length ac) (.slice none 0 0) [] := ⟨g3, by rw [hW0]; exact Nat.le_refl _, OwnMat.nil _ _⟩
  have HXS := hide (hW0)
  generalize w2.alloc (.cells #[.int .i64 ((T : Int) + 1), .slice aa acc.length ac, .slice none 0 0] 25) = w3 at hout k3 ⊢
  generalize hx : w.heap.size + 1 + 1 = x at hout HXS ⊢
  have C0 := hide c0
  have C1 := hide c1
  have C2 := hide c2
  have HG2 := hide g2
  have HK2 := hide k2
  have HK3 := hide k3
  have HOUT := hide hout
  clear g2 k2 c0 c1 c2 e2 g3 k3 hW0 hx hout hpp
  simp only [show decide (T < t) = false by simp; omega, Bool.or_false]
  go_loopw [7] (fun i wr => ∃ (k : Nat) (vn : Value), i = .int .i64 k ∧ k ≤ next.length ∧ Hid (OutIn wr W0 x ((T : Int) + 1) (.slice aa acc.length ac) vn ((next.take k).map (turnRow p (wb t)))) ∧ Same w2 wr) (fun i _ => next.length - (intOf i).toNat)
  case atStart => exact ⟨0, _, rfl, Nat.zero_le _, hide (by simpa using HOUT.out), HK3.out⟩
  case round =>
    obtain ⟨k, vn, rfl, hk, hout, hK⟩ := hrel
    have q2 := Keeps.cell hK C2.out trivial
    by_cases hlt : k < next.length
    · obtain ⟨bl, off, rfl, _, hcl⟩ := HC.out k hlt
      obtain ⟨u, hu, hiu⟩ := hcl k hlt
      have hrl := HRL.out _ (List.getElem_mem hlt)
      have HTK := hide (show (next.take (k + 1)).map (turnRow p (wb t)) = (next.take k).map (turnRow p (wb t)) ++ [turnRow p (wb t) next[k]] by rw [List.take_succ_eq_append_getElem hlt, List.map_append]; rfl)
      have hrlen : ((next.take k).map (turnRow p (wb t))).length + 1 ≤ 1000000 := by have := H45.out.1; have := H45.out.2; simp; omega
      obtain ⟨ua, uc, rfl, hf1, hf2, hdell⟩ := hiu.open
      unfold maxLen at hf2
      have HU := hide (Keeps.cell HK2.out hu trivial)
      have HD := hide hdell
      generalize next[k] = row at hrl HTK hf1 hdell HU HD
      generalize (next.take k).map (turnRow p (wb t)) = rows at hout HTK hrlen
      have HRLN := hide hrl
      have HRLEN := hide hrlen
      obtain ⟨ma, mc, rfl⟩ := hout.out.mat.shape
      have HO := hide hout.out
      have HKW := hide hK
      obtain ⟨wo, rfl⟩ : ∃ wo : World, wo = wr := ⟨_, rfl⟩
      clear hcl hu hiu hdell hrl hrlen hout hK
      go_wp2_with fail
      go_loopw [8, 9] (fun rv i wr => ∃ m : Nat, i = .int .i64 m ∧ m ≤ p ∧ Hid (OwnInts wr W0 rv ((List.range m).map (fun c => row.getD (wb t c) 0))) ∧ Same wo wr ∧ Hid (∀ b, rv.ownBlock = some b → wo.heap.size ≤ b)) (fun _ i _ => p - (intOf i).toNat)
      case atStart => exact ⟨0, rfl, Nat.zero_le _, hide (World.ownsRow_nil _ _ _ _), Keeps.refl _ _, hide (by intro b hb; simp [Value.ownBlock] at hb)⟩
      case round =>
        clear q2
        obtain ⟨m, rfl, hm, hown, hK2, hnew⟩ := hrel
        have x0 : wr.cell? ⟨x, 0, none⟩ = some (.int .i64 ((T : Int) + 1)) := Keeps.cell hK2 (cell_at HO.out.blk 0) trivial
        by_cases hmp : m < p
        · have q2 := Keeps.cell (HKW.out.tr hK2) C2.out trivial
          have qk := Keeps.cell (HKW.out.tr hK2) HU.out trivial
          have hval := HWV.out m hmp
          have hwl : wb t m < row.length := by rw [HRLN.out]; exact HWB.out m hmp
          obtain ⟨rb, roff, rfl, _, hrcl⟩ := HD.out (wb t m) hwl
          have hrk := Keeps.cell ((HK2.out.tr HKW.out).tr hK2) (hrcl (wb t m) hwl) trivial
          have hge : row.getD (wb t m) 0 = row[wb t m] := by simp [List.getD, List.getElem?_eq_getElem hwl]
          have hrs : (List.range (m + 1)).map (fun c => row.getD (wb t c) 0) = (List.range m).map (fun c => row.getD (wb t c) 0) ++ [row[wb t m]] := by rw [List.range_succ, List.map_append, ← hge]; rfl
          generalize row[wb t m] = y at hrk hrs
          have hcl : ((List.range m).map (fun c => row.getD (wb t c) 0)).length = m := by simp
          generalize (List.range m).map (fun c => row.getD (wb t c) 0) = cur at hown hrs hcl
          obtain ⟨g, cap1, w5, hr, hown2, hk5, hg, _⟩ := append_one (P := Try.prog) wr 26 26 3 Try.underlying26 int_info rfl hown.out (by rw [HW0.out]; exact (HKW.out.tr hK2).size) (.int .i64 y) rfl (by omega) (by decide)
          have hk6 : Same wo w5 := hK2.trans hk5 fun z hz _ => ⟨trivial, fun e => by have := hnew.out z e; omega⟩
          have HF : Hid (OwnInts w5 W0 (.slice (some ⟨g, 0, none⟩) (cur.length + 1) cap1) ((List.range (m + 1)).map (fun c => row.getD (wb t c) 0)) ∧ Same wo w5 ∧ wo.heap.size ≤ g) := hide ⟨by rw [hrs]; unfold OwnInts; simpa using hown2, hk6, by
            rcases hg with hg | hg
            · exact hnew.out g hg
            · exact Nat.le_trans hK2.size hg⟩
          rw [hcl] at hr HF
          obtain ⟨sa, sc, rfl⟩ := hown.out.shape
          rw [hcl] at hr ⊢
          have HWL := hide hwl
          clear hown hown2 hk5 hk6 hg hrs hge hcl hnew hrcl
          go_wp2_with (at_builtin; refine wpList_append_run rfl _ _ _ rfl rfl rfl hr ?_; clear hr)
          go_roundw
          case rel => exact ⟨m + 1, by go_num, by omega, hide HF.out.1, HF.out.2.1, hide (by intro b hb; simp [Value.ownBlock] at hb; subst hb; exact HF.out.2.2)⟩
          case measure => simp [intOf]; omega
        · obtain rfl : m = p := by omega
          have hrow : OwnInts wr W0 _ (turnRow m (wb t) row) := hown.out
          have hlen : (turnRow m (wb t) row).length = m := by simp [turnRow]
          obtain ⟨sa, sc, rfl⟩ := hrow.shape
          have hout := HO.out.same hK2
          have hnewb := hnew.out
          generalize turnRow m (wb t) row = row' at hrow HTK hlen hnewb
          obtain ⟨g, cap, w5, hr, hmat5, hk5, _, _, _⟩ := hout.mat.push (by rw [HW0.out]; exact (HKW.out.tr hK2).size) hrow HRLEN.out
          have hb5 := hk5.at hout.blk hout.apart
          have z1 : w5.cell? ⟨x, 2, none⟩ = some (.slice ma rows.length mc) := cell_at hb5 2
          have z2 := free_at hb5 2
          have x2 : wr.cell? ⟨x, 2, none⟩ = some (.slice ma rows.length mc) := cell_at hout.blk 2
          have hout5 := hout.step hk5 hmat5
          have hK6 : Same w2 (w5.setCell ⟨x, 2, none⟩ (.slice (some ⟨g, 0, none⟩) (rows.length + 1) cap)) := by
            refine ((HKW.out.tr hK2).trans hk5 fun y hy _ => ⟨trivial, fun e => ?_⟩).setCell (fun hh => ?_) _
            · obtain ⟨vs, h1, _⟩ := hout.mat
              have := (ownsRow_block h1 e).1
              rw [HW0.out] at this; omega
            · have h1 := hout.low
              have h2 : x < w2.heap.size := hh.1
              rw [HW0.out] at h1; omega
          have HF := hide (And.intro hout5 hK6)
          rw [hlen] at hr
          rw [hlen]
          clear hout5 hK6 hmat5 hk5 hb5 hout hrow hown hnew hnewb hK2 hlen
          go_wp2_with (at_builtin; refine wpList_append_run rfl _ _ _ rfl rfl rfl hr ?_; clear hr)
          go_roundw
          case rel => exact ⟨k + 1, _, by go_num, by omega, hide (by rw [HTK.out]; exact HF.out.1), HF.out.2⟩
          case measure => simp [intOf]; omega
    · obtain rfl : k = next.length := by omega
      have hout2 := hout.out
      rw [List.take_length] at hout2
      obtain ⟨ma, mc, rfl⟩ := hout2.mat.shape
      have x0 : wr.cell? ⟨x, 0, none⟩ = some (.int .i64 ((T : Int) + 1)) := cell_at hout2.blk 0
      have x1 : wr.cell? ⟨x, 1, none⟩ = some (.slice aa acc.length ac) := cell_at hout2.blk 1
      have x2 : wr.cell? ⟨x, 2, none⟩ = some (.slice ma (next.map (turnRow p (wb t))).length mc) := cell_at hout2.blk 2
      have hbr := hK.at HG2.out trivial
      have r0 : wr.cell? ⟨w.heap.size + 1, 0, none⟩ = some (.int .i64 0) := cell_at hbr 0
      have r1 : wr.cell? ⟨w.heap.size + 1, 1, none⟩ = some (.slice none 0 0) := cell_at hbr 1
      have r2 : wr.cell? ⟨w.heap.size + 1, 2, none⟩ = some (.slice none 0 0) := cell_at hbr 2
      have f0 := free_at hbr 0
      have f1 := free_at hbr 1
      have f2 := free_at hbr 2
      have hml : (next.map (turnRow p (wb t))).length = next.length := by simp
      rw [hml] at x2 hout2
      clear hout hml
      go_wp2_with fail
      have h3 := set3 (a := .int .i64 ((T : Int) + 1)) (b := .slice aa acc.length ac) (c := .slice ma next.length mc) hbr
      have hom := hout2.mat.keepT h3.2 fun b cur e hc he _ => by
        rintro rfl
        rw [hbr] at hc
        simp only [Option.some.injEq, Obj.cells.injEq] at hc
        obtain ⟨_, rfl, _⟩ := hc
        rcases he with he | he <;> exact absurd he (by decide)
      have hkf : Same w (((wr.setCell ⟨w.heap.size + 1, 0, none⟩ (.int .i64 ((T : Int) + 1))).setCell ⟨w.heap.size + 1, 1, none⟩ (.slice aa acc.length ac)).setCell ⟨w.heap.size + 1, 2, none⟩ (.slice ma next.length mc)) :=
        (((HK2.out.tr hK).setCell (fun hh => by have := hh.1; simp at this; omega) _).setCell (fun hh => by have := hh.1; simp at this; omega) _).setCell (fun hh => by have := hh.1; simp at this; omega) _
      have hb3 := h3.1
      generalize ((wr.setCell ⟨w.heap.size + 1, 0, none⟩ (.int .i64 ((T : Int) + 1))).setCell ⟨w.heap.size + 1, 1, none⟩ (.slice aa acc.length ac)).setCell ⟨w.heap.size + 1, 2, none⟩ (.slice ma next.length mc) = wf at hb3 hkf hom ⊢
      have hfin : AutoAt wf (.agg #[.int .i64 ((T : Int) + 1), .slice aa acc.length ac, .slice ma next.length mc]) (turnAu ⟨(T : Int), acc, next⟩ (T + 1) (wb t)) := by
        have hb := HTO.out.bounds
        rw [HTA.out] at hb ⊢
        exact ⟨_, _, by simp, HACC.out.same hkf, hom.rows hb.2, hb.1⟩
      have y0 : wf.cell? ⟨w.heap.size + 1, 0, none⟩ = some (.int .i64 ((T : Int) + 1)) := cell_at hb3 0
      have y1 : wf.cell? ⟨w.heap.size + 1, 1, none⟩ = some (.slice aa acc.length ac) := cell_at hb3 1
      have y2 : wf.cell? ⟨w.heap.size + 1, 2, none⟩ = some (.slice ma next.length mc) := cell_at hb3 2
      refine bodyPost_ret (v := .tuple #[.agg #[.int .i64 ((T : Int) + 1), .slice aa acc.length ac, .slice ma next.length mc], .bool true]) (by simp [results, Try.results56, go_sem, y0, y1, y2]) rfl ?_
      exact HR.out _ _ _ rfl hfin hkf

set_option maxRecDepth 10000 in
set_option maxHeartbeats 2000000 in
theorem refWidenNot {v : Value} {t : Int} (hA : AutoAt w v A) (ht : InI64 t) (hno : ¬ (A.T < 6 ∧ 0 ≤ t ∧ t ≤ A.T))
    (hR : ∀ e w', e = .returned (.tuple #[.agg #[.int .i64 0, .slice none 0 0, .slice none 0 0], .bool false]) → Same w w' → R e w') :
    Calls Try.prog 56 #[v, .int .i64 t] w R := by
  have HR := hide hR
  clear hR
  obtain ⟨va, vn, rfl, hacc, hnext, hT⟩ := hA
  obtain ⟨aa, ac, rfl, _⟩ := hacc.open
  obtain ⟨na, nc, rfl, _⟩ := hnext.open
  unfold InI64 at hT ht
  have g1 := heap_new w (.cells #[.int .i64 A.T, .slice aa A.acc.length ac, .slice na A.next.length nc] 25)
  have e1 : (w.alloc (.cells #[.int .i64 A.T, .slice aa A.acc.length ac, .slice na A.next.length nc] 25)).heap.size = w.heap.size + 1 := by simp
  have k1 : Same w (w.alloc (.cells #[.int .i64 A.T, .slice aa A.acc.length ac, .slice na A.next.length nc] 25)) := (Keeps.refl _ w).alloc _
  have g2 := heap_new (w.alloc (.cells #[.int .i64 A.T, .slice aa A.acc.length ac, .slice na A.next.length nc] 25)) (.cells #[.int .i64 0, .slice none 0 0, .slice none 0 0] 25)
  rw [e1] at g2
  have g3 := heap_old g1 (.cells #[.int .i64 0, .slice none 0 0, .slice none 0 0] 25)
  have k2 := k1.alloc (.cells #[.int .i64 0, .slice none 0 0, .slice none 0 0] 25)
  have c0 := cell_at g3 0
  simp only [List.getElem?_toArray, List.getElem?_cons_zero] at c0
  clear hacc hnext g1 e1 k1 g3
  by_cases h1 : A.T < 6
  · by_cases h2 : 0 ≤ t
    · have h3 : A.T < t := by omega
      clear hno
      go_enter Try.func56, Try.ntmps56
      go_wp2_with fail
      generalize (w.alloc (.cells #[.int .i64 A.T, .slice aa A.acc.length ac, .slice na A.next.length nc] 25)).alloc (.cells #[.int .i64 0, .slice none 0 0, .slice none 0 0] 25) = wz at g2 k2 ⊢
      have y0 : wz.cell? ⟨w.heap.size + 1, 0, none⟩ = some (.int .i64 0) := cell_at g2 0
      have y1 : wz.cell? ⟨w.heap.size + 1, 1, none⟩ = some (.slice none 0 0) := cell_at g2 1
      have y2 : wz.cell? ⟨w.heap.size + 1, 2, none⟩ = some (.slice none 0 0) := cell_at g2 2
      refine bodyPost_ret (v := .tuple #[.agg #[.int .i64 0, .slice none 0 0, .slice none 0 0], .bool false]) (by simp [results, Try.results56, go_sem, y0, y1, y2]) rfl ?_
      exact HR.out _ _ rfl k2
    · have h3 : t < 0 := by omega
      clear hno h2
      go_enter Try.func56, Try.ntmps56
      go_wp2_with fail
      generalize (w.alloc (.cells #[.int .i64 A.T, .slice aa A.acc.length ac, .slice na A.next.length nc] 25)).alloc (.cells #[.int .i64 0, .slice none 0 0, .slice none 0 0] 25) = wz at g2 k2 ⊢
      have y0 : wz.cell? ⟨w.heap.size + 1, 0, none⟩ = some (.int .i64 0) := cell_at g2 0
      have y1 : wz.cell? ⟨w.heap.size + 1, 1, none⟩ = some (.slice none 0 0) := cell_at g2 1
      have y2 : wz.cell? ⟨w.heap.size + 1, 2, none⟩ = some (.slice none 0 0) := cell_at g2 2
      refine bodyPost_ret (v := .tuple #[.agg #[.int .i64 0, .slice none 0 0, .slice none 0 0], .bool false]) (by simp [results, Try.results56, go_sem, y0, y1, y2]) rfl ?_
      exact HR.out _ _ rfl k2
  · have h3 : 6 ≤ A.T := by omega
    clear hno h1
    go_enter Try.func56, Try.ntmps56
    go_wp2_with fail
    generalize (w.alloc (.cells #[.int .i64 A.T, .slice aa A.acc.length ac, .slice na A.next.length nc] 25)).alloc (.cells #[.int .i64 0, .slice none 0 0, .slice none 0 0] 25) = wz at g2 k2 ⊢
    have y0 : wz.cell? ⟨w.heap.size + 1, 0, none⟩ = some (.int .i64 0) := cell_at g2 0
    have y1 : wz.cell? ⟨w.heap.size + 1, 1, none⟩ = some (.slice none 0 0) := cell_at g2 1
    have y2 : wz.cell? ⟨w.heap.size + 1, 2, none⟩ = some (.slice none 0 0) := cell_at g2 2
    refine bodyPost_ret (v := .tuple #[.agg #[.int .i64 0, .slice none 0 0, .slice none 0 0], .bool false]) (by simp [results, Try.results56, go_sem, y0, y1, y2]) rfl ?_
    exact HR.out _ _ rfl k2

end Go.Proofs.Ytgpbjjnfccalbaa
