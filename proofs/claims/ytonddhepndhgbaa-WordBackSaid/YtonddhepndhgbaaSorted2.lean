/- The walk of sibylref15.Sorted. -/
import Derived.Test.YtonddhepndhgbaaSorted
namespace Go.Proofs.Ytonddhepndhgbaa
open Go.RowKit

attribute [local irreducible] wpQuiet

variable {R : Ending → World → Prop} {w : World}

theorem OwnInts.below {B B' : Nat} {v : Value} {l : List Int} (h : OwnInts w B v l) (hB : B' ≤ B) : OwnInts w B' v l := by
  refine ⟨h.1, ?_⟩
  rcases h.2 with h0 | ⟨g, cap, cur, e, hg, rest⟩
  · exact .inl h0
  · exact .inr ⟨g, cap, cur, e, Nat.le_trans hB hg, rest⟩

theorem IntsAt.drop {a : Option Addr} {n c : Nat} {l : List Int} (h : IntsAt w (.slice a n c) l) (k : Nat) (hk : k ≤ n) : IntsAt w (.slice (if c = k then a else a.map (·.add k)) (n - k) (c - k)) (l.drop k) := by
  obtain ⟨⟨a', c', e, h1, h2, h3⟩, h4⟩ := h
  simp only [Value.slice.injEq, List.length_map] at e
  obtain ⟨rfl, rfl, rfl⟩ := e
  simp only [List.length_map] at h1
  refine ⟨⟨if c = k then a else a.map (·.add k), c - k, by simp, by simp; omega, by omega, ?_⟩, fun x hx => h4 x (List.mem_of_mem_drop hx)⟩
  by_cases e : l.drop k = []
  · left; simp [e]
  · right
    rcases h3 with h3 | ⟨b, off, cur, ee, fr, rfl, h5, h6⟩
    · simp at h3; subst h3; simp at e
    · have hlt : k < l.length := by
        rcases Nat.lt_or_ge k l.length with h | h
        · exact h
        · exact absurd (List.drop_of_length_le h) e
      have hadd : (Addr.mk b off none).add k = ⟨b, off + k, none⟩ := by
        unfold Addr.add
        split
        · rename_i h0; subst h0; rfl
        · rfl
      refine ⟨b, off + k, cur, _, fr, by rw [if_neg (by omega)]; simp [hadd], h5, fun i x hx => ?_⟩
      rw [List.map_drop, List.getElem?_drop] at hx
      rw [Nat.add_assoc]
      exact h6 (k + i) x hx

set_option maxHeartbeats 2000000 in
theorem refSorted {v : Value} {l : List Int} (hv : IntsAt w v l) (hl : l.length ≤ 1000)
    (hR : ∀ e w' u, e = .returned u → OwnInts w' w.heap.size u (sortedOf l) → Same w w' → R e w') :
    Calls Try.prog 23 #[v] w R := by
  have HR := hide hR
  clear hR
  have HV := hide hv
  obtain ⟨a, c, rfl, hc1, hc2, hcell⟩ := hv.open
  have HC := hide hcell
  clear hcell hv
  unfold maxLen at hc2
  obtain ⟨B, hBs⟩ : ∃ B, B = w.heap.size := ⟨_, rfl⟩
  rw [← hBs] at HR
  have HBS := hide hBs
  clear hBs
  go_enter Try.func23, Try.ntmps23
  go_wp2_with fail
  go_loopw [3, 4] (fun u i wr => ∃ k : Nat, i = .int .i64 k ∧ k ≤ l.length ∧ OwnInts wr B u (sortedOf (l.take k)) ∧ Same w wr) (fun _ i _ => l.length - (intOf i).toNat)
  case atStart => exact ⟨0, rfl, Nat.zero_le _, World.ownsRow_nil _ _ _ _, Keeps.refl _ _⟩
  case round =>
    rename_i uu
    obtain ⟨k, rfl, hk, hown, hK⟩ := hrel
    by_cases hlt : k < l.length
    · obtain ⟨bl, off, rfl, hbl, hcl⟩ := HC.out k hlt
      have hck := Keeps.cell hK (hcl k hlt) trivial
      have hst : sortedOf (l.take (k + 1)) = ins (sortedOf (l.take k)) l[k] := by rw [List.take_succ_eq_append_getElem hlt, sortedOf_snoc]
      have hin : ∀ y ∈ sortedOf (l.take k), InI64 y := fun y hy => HV.out.2 y (List.mem_of_mem_take (mem_sortedOf.1 hy))
      have HXB := hide (show InI64 l[k] from HV.out.2 _ (List.getElem_mem hlt))
      have hlen : (sortedOf (l.take k)).length ≤ k := Nat.le_trans (sortedOf_len _) (by simp; omega)
      generalize l[k] = x at hck hst HXB
      generalize sortedOf (l.take k) = out at hst hin hlen hown
      have HST := hide hst
      have HO := hide hown
      have HI := hide hin
      obtain ⟨ua, uc, rfl, hd1, hd2, hdell⟩ := (hown.ints hin).open
      have HD := hide hdell
      have HK := hide hK
      unfold maxLen at hd2
      clear hcl hst hin hown hdell hK
      obtain ⟨wo, rfl⟩ : ∃ wo : World, wo = wr := ⟨_, rfl⟩
      have HCK := hide hck
      clear hck
      go_wp2_with fail
      go_loopw [5] (fun i wr => ∃ m : Nat, i = .int .i64 m ∧ m ≤ out.length ∧ Hid (∀ i y, i < m → out[i]? = some y → y < x) ∧ Same wo wr) (fun i _ => out.length - (intOf i).toNat)
      case atStart => exact ⟨0, rfl, Nat.zero_le _, hide (fun i y hi => absurd hi (Nat.not_lt_zero _)), Keeps.refl _ _⟩
      case round =>
        obtain ⟨m, rfl, hm, hall, hK2⟩ := hrel
        have hck := Keeps.cell hK2 HCK.out trivial
        by_cases hlt2 : m < out.length
        · obtain ⟨rl, roff, rfl, hrl, hdl⟩ := HD.out m hlt2
          have hdk := Keeps.cell hK2 (hdl m hlt2) trivial
          have HX := hide (show out[m]? = some out[m] from List.getElem?_eq_getElem hlt2)
          generalize out[m] = y at hdk HX
          clear hdl
          by_cases hyx : y < x
          · go_wp2_with fail
            refine wp_region_same (by kernel_rfl) (by kernel_rfl) ?_
            iterate 15
              (apply wpQuiet_step
               intro K hK
               first
                 | (apply quiet_skip
                    case hw => rfl
                    go_simp
                    refine hK _ ?_; clear hK K)
                 | (apply quiet_do
                    case hw => rfl
                    case h =>
                      intro w' hw'
                      (have q1 := Keeps.cell hw' hck trivial; have q2 := Keeps.cell hw' hdk trivial)
                      go_simp
                      first | exact rfl | (fail)
                    go_simp
                    refine hK _ ?_; clear hK K))
            apply wpQuiet_nil
            intro w1 k1
            go_wp2_with fail
            go_roundw
            case rel =>
              refine ⟨m + 1, by go_num, by omega, hide (fun i z hi hz => ?_), hK2.tr k1⟩
              by_cases e : i = m
              · subst e; rw [HX.out] at hz; obtain rfl := Option.some.inj hz; exact hyx
              · exact hall.out i z (by omega) hz
            case measure => simp [intOf]; omega
          · have HSP := hide (while_split hm hall.out (fun z hz => by rw [HX.out] at hz; obtain rfl := Option.some.inj hz; exact hyx))
            obtain ⟨_, _, e1, hTk⟩ := ((HO.out.ints HI.out).same hK2).take m hm
            simp only [Value.slice.injEq] at e1
            obtain ⟨rfl, _, rfl⟩ := e1
            have hDk := ((HO.out.ints HI.out).same hK2).drop m hm
            by_cases hxe : y = x
            · subst hxe
              have HE := hide (show ins out y = out by unfold ins; rw [HSP.out.2, if_pos (by rw [List.head?_drop, HX.out])])
              go_wp2_with fail
              refine wp_region_same (by kernel_rfl) (by kernel_rfl) ?_
              iterate 15
                (apply wpQuiet_step
                 intro K hK
                 first
                   | (apply quiet_skip
                      case hw => rfl
                      go_simp
                      refine hK _ ?_; clear hK K)
                   | (apply quiet_do
                      case hw => rfl
                      case h =>
                        intro w' hw'
                        (have q1 := Keeps.cell hw' hck trivial; have q2 := Keeps.cell hw' hdk trivial)
                        go_simp
                        first | exact rfl | (fail)
                      go_simp
                      refine hK _ ?_; clear hK K))
              apply wpQuiet_nil
              intro w1 k1
              have hck1 := Keeps.cell k1 hck trivial
              have hdk1 := Keeps.cell k1 hdk trivial
              go_wp2_with fail
              refine wp_region_same (by kernel_rfl) (by kernel_rfl) ?_
              iterate 15
                (apply wpQuiet_step
                 intro K hK
                 first
                   | (apply quiet_skip
                      case hw => rfl
                      go_simp
                      refine hK _ ?_; clear hK K)
                   | (apply quiet_do
                      case hw => rfl
                      case h =>
                        intro w' hw'
                        (have q1 := Keeps.cell hw' hck1 trivial; have q2 := Keeps.cell hw' hdk1 trivial)
                        go_simp
                        first | exact rfl | (fail)
                      go_simp
                      refine hK _ ?_; clear hK K))
              apply wpQuiet_nil
              intro w2 k2
              go_wp2_with fail
              go_roundw
              case rel => exact ⟨k + 1, by go_num, by omega, by rw [HST.out, HE.out]; exact HO.out.same ((hK2.tr k1).tr k2), HK.out.tr ((hK2.tr k1).tr k2)⟩
              case measure => simp [intOf]; omega
            · have HNE := hide (show ¬ (out.dropWhile (· < x)).head? = some x by rw [HSP.out.2, List.head?_drop, HX.out]; intro e; exact hxe (Option.some.inj e))
              go_wp2_with fail
              refine wp_region_same (by kernel_rfl) (by kernel_rfl) ?_
              iterate 15
                (apply wpQuiet_step
                 intro K hK
                 first
                   | (apply quiet_skip
                      case hw => rfl
                      go_simp
                      refine hK _ ?_; clear hK K)
                   | (apply quiet_do
                      case hw => rfl
                      case h =>
                        intro w' hw'
                        (have q1 := Keeps.cell hw' hck trivial; have q2 := Keeps.cell hw' hdk trivial)
                        go_simp
                        first | exact rfl | (fail)
                      go_simp
                      refine hK _ ?_; clear hK K))
              apply wpQuiet_nil
              intro w1 k1
              have hck1 := Keeps.cell k1 hck trivial
              have hdk1 := Keeps.cell k1 hdk trivial
              go_wp2_with fail
              refine wp_region_same (by kernel_rfl) (by kernel_rfl) ?_
              iterate 15
                (apply wpQuiet_step
                 intro K hK
                 first
                   | (apply quiet_skip
                      case hw => rfl
                      go_simp
                      refine hK _ ?_; clear hK K)
                   | (apply quiet_do
                      case hw => rfl
                      case h =>
                        intro w' hw'
                        (have q1 := Keeps.cell hw' hck1 trivial; have q2 := Keeps.cell hw' hdk1 trivial)
                        go_simp
                        first | exact rfl | (fail)
                      go_simp
                      refine hK _ ?_; clear hK K))
              apply wpQuiet_nil
              intro w2 k2
              go_wp2_with fail
              clear hyx hxe hdk hdk1
              have hmc : m ≤ uc := Nat.le_trans hm hd1
              have hck2 := Keeps.cell k2 hck1 trivial
              have HE := hide (show ins out x = out.take m ++ x :: out.drop m by unfold ins; rw [if_neg HNE.out, HSP.out.2, HSP.out.1])
              have HTk := hide (hTk.same (k1.tr k2))
              have HDk := hide (hDk.same (k1.tr k2))
              have HK3 := hide (HK.out.tr (hK2.tr (k1.tr k2)))
              clear hTk hDk k1 k2 hck hck1 hK2
              refine wp_region_plan (.take 1 (.take 2 (.take 3 (.take 5 (.take 6 (.take 7 (.take 8 (.take 11 (.take 12 (.take 13 (.two 0 9 (.two 4 9 (.one 9 (.one 10 (.one 14 (.one 15 .done)))) (.one 4 (.one 10 (.one 14 (.one 15 .done))))) (.one 0 (.one 4 (.one 10 (.one 14 (.one 15 .done)))))))))))))))) (Same w2) (by kernel_rfl) (by kernel_rfl) (Keeps.drew (Keeps.refl (fun _ => True) w2)) ?_
              iterate 10
                (apply pl_take
                 case ho => rfl
                 case hw => rfl
                 case hv =>
                   intro w' hw'
                   have q1 := Keeps.cell hw' hck2 trivial
                   go_simp
                   exact rfl
                 go_simp)
              refine pl_two ?_ ?_
              · (apply up_do
                 case ho => rfl
                 case hw => rfl
                 intro K hK1
                 go_simp
                 refine hK1 (Same w2) _ _ ((Keeps.drew (Keeps.refl (fun _ => True) w2)).alloc (.cells #[] 3)) (fun _ h => h) ?_
                 clear hK1 K
                 go_simp)
                refine pl_two ?_ ?_
                · obtain ⟨v1, x1, r1, o1, g1, a1⟩ := append_more (own_empty w2.drew (B := w2.heap.size) (Nat.le_refl _)) (HTk.out.same ((Keeps.drew (Keeps.refl (fun _ => True) w2)).alloc (.cells #[] 3))) ((Keeps.drew (Keeps.refl (fun _ => True) w2)).alloc (.cells #[] 3)).size (by simp; omega)
                  have k1 : Same w2 x1 := ((Keeps.drew (Keeps.refl (fun _ => True) w2)).alloc (.cells #[] 3)).trans g1 fun z hz _ => ⟨trivial, by simp [Value.ownBlock]; omega⟩
                  refine up_append _ _ _ rfl rfl rfl ?hs ?hx r1 (Same w2) k1 (fun _ h => h) ?_
                  case hs => rfl
                  case hx => first | rfl | (go_simp; done) | (trace_state; fail)
                  go_simp
                  refine pl_one ?_
                  (apply up_do
                   case ho => rfl
                   case hw => rfl
                   intro K hK1
                   go_simp
                   refine hK1 (Same w2) _ _ (k1.alloc (.cells #[.int .i64 x] 3)) (fun _ h => h) ?_
                   clear hK1 K
                   go_simp)
                  have ks := k1.alloc (.cells #[.int .i64 x] 3)
                  have hov := (show OwnInts x1 w2.heap.size v1 (out.take m) by simpa using o1).keep (S := fun _ => True) ((Keeps.refl _ x1).alloc (.cells #[.int .i64 x] 3)) (fun _ _ => trivial)
                  have hxv : IntsAt (x1.alloc (.cells #[.int .i64 x] 3)) (.slice (some ⟨x1.heap.size, 0, none⟩) 1 1) [x] := ints_of_block (heap_new x1 (.cells #[.int .i64 x] 3)) [x] rfl (by simpa using HXB.out) rfl (Nat.le_refl _) (by decide)
                  clear r1 o1 g1 a1 k1
                  refine pl_one ?_
                  obtain ⟨v2, x2, r2, o2, g2, a2⟩ := append_more hov hxv ks.size (by simp; omega)
                  have ks2 : Same w2 x2 := ks.trans g2 fun z hz _ => ⟨trivial, fun e => by have := (hov.low e).1; omega⟩
                  refine up_append _ _ _ rfl rfl rfl ?hs ?hx r2 (Same w2) ks2 (fun _ h => h) ?_
                  case hs => rfl
                  case hx => first | rfl | (go_simp; done) | (trace_state; fail)
                  go_simp
                  refine pl_one ?_
                  obtain ⟨v3, x3, r3, o3, g3, a3⟩ := append_more o2 (HDk.out.same ks2) ks2.size (by simp; omega)
                  have ks3 : Same w2 x3 := ks2.trans g3 fun z hz _ => ⟨trivial, fun e => by have := (o2.low e).1; omega⟩
                  refine up_append _ _ _ rfl rfl rfl ?hs ?hx r3 (Same w2) ks3 (fun _ h => h) ?_
                  case hs => rfl
                  case hx => first | rfl | (go_simp; done) | (trace_state; fail)
                  go_simp
                  refine pl_one ?_
                  apply up_do
                  case ho => rfl
                  case hw => rfl
                  intro K hK1
                  go_simp
                  refine hK1 (Same w2) _ _ ks3 (fun _ h => h) ?_
                  clear hK1 K
                  go_simp
                  refine pl_done ?_
                  have HF := hide (And.intro o3 ks3)
                  clear r2 r3 o2 o3 g2 g3 a2 a3 ks ks2 ks3 hov hxv
                  go_wp2_with fail
                  go_roundw
                  case rel => exact ⟨k + 1, by go_num, by omega, by rw [HST.out, HE.out]; simpa [OwnInts] using OwnInts.below HF.out.1 (HBS.out ▸ HK3.out.size), HK3.out.tr HF.out.2⟩
                  case measure => simp [intOf]; omega
                · (apply up_do
                   case ho => rfl
                   case hw => rfl
                   intro K hK1
                   go_simp
                   refine hK1 (Same w2) _ _ (((Keeps.drew (Keeps.refl (fun _ => True) w2)).alloc (.cells #[] 3)).alloc (.cells #[.int .i64 x] 3)) (fun _ h => h) ?_
                   clear hK1 K
                   go_simp)
                  obtain ⟨v1, x1, r1, o1, g1, a1⟩ := append_more (((own_empty w2.drew (B := w2.heap.size) (Nat.le_refl _))).keep (S := fun _ => True) ((Keeps.refl _ _).alloc (.cells #[.int .i64 x] 3)) (fun _ _ => trivial)) (HTk.out.same (((Keeps.drew (Keeps.refl (fun _ => True) w2)).alloc (.cells #[] 3)).alloc (.cells #[.int .i64 x] 3))) (((Keeps.drew (Keeps.refl (fun _ => True) w2)).alloc (.cells #[] 3)).alloc (.cells #[.int .i64 x] 3)).size (by simp; omega)
                  have ks : Same w2 x1 := (((Keeps.drew (Keeps.refl (fun _ => True) w2)).alloc (.cells #[] 3)).alloc (.cells #[.int .i64 x] 3)).trans g1 fun z hz _ => ⟨trivial, by simp [Value.ownBlock]; omega⟩
                  refine pl_one ?_
                  refine up_append _ _ _ rfl rfl rfl ?hs ?hx r1 (Same w2) ks (fun _ h => h) ?_
                  case hs => rfl
                  case hx => first | rfl | (go_simp; done) | (trace_state; fail)
                  go_simp
                  have hov : OwnInts x1 w2.heap.size v1 (out.take m) := by simpa using o1
                  have hxv := (ints_of_block (heap_new (w2.drew.alloc (.cells #[] 3)) (.cells #[.int .i64 x] 3)) [x] rfl (by simpa using HXB.out) (n := 1) (c := 1) rfl (Nat.le_refl _) (by decide)).keep g1 (by intro b hb; simp [live] at hb; simp [Value.ownBlock]; omega)
                  clear r1 o1 g1 a1
                  refine pl_one ?_
                  obtain ⟨v2, x2, r2, o2, g2, a2⟩ := append_more hov hxv ks.size (by simp; omega)
                  have ks2 : Same w2 x2 := ks.trans g2 fun z hz _ => ⟨trivial, fun e => by have := (hov.low e).1; omega⟩
                  refine up_append _ _ _ rfl rfl rfl ?hs ?hx r2 (Same w2) ks2 (fun _ h => h) ?_
                  case hs => rfl
                  case hx => first | rfl | (go_simp; done) | (trace_state; fail)
                  go_simp
                  refine pl_one ?_
                  obtain ⟨v3, x3, r3, o3, g3, a3⟩ := append_more o2 (HDk.out.same ks2) ks2.size (by simp; omega)
                  have ks3 : Same w2 x3 := ks2.trans g3 fun z hz _ => ⟨trivial, fun e => by have := (o2.low e).1; omega⟩
                  refine up_append _ _ _ rfl rfl rfl ?hs ?hx r3 (Same w2) ks3 (fun _ h => h) ?_
                  case hs => rfl
                  case hx => first | rfl | (go_simp; done) | (trace_state; fail)
                  go_simp
                  refine pl_one ?_
                  apply up_do
                  case ho => rfl
                  case hw => rfl
                  intro K hK1
                  go_simp
                  refine hK1 (Same w2) _ _ ks3 (fun _ h => h) ?_
                  clear hK1 K
                  go_simp
                  refine pl_done ?_
                  have HF := hide (And.intro o3 ks3)
                  clear r2 r3 o2 o3 g2 g3 a2 a3 ks ks2 ks3 hov hxv
                  go_wp2_with fail
                  go_roundw
                  case rel => exact ⟨k + 1, by go_num, by omega, by rw [HST.out, HE.out]; simpa [OwnInts] using OwnInts.below HF.out.1 (HBS.out ▸ HK3.out.size), HK3.out.tr HF.out.2⟩
                  case measure => simp [intOf]; omega
              · (apply up_do
                 case ho => rfl
                 case hw => rfl
                 intro K hK1
                 go_simp
                 refine hK1 (Same w2) _ _ ((Keeps.drew (Keeps.refl (fun _ => True) w2)).alloc (.cells #[.int .i64 x] 3)) (fun _ h => h) ?_
                 clear hK1 K
                 go_simp)
                refine pl_one ?_
                (apply up_do
                 case ho => rfl
                 case hw => rfl
                 intro K hK1
                 go_simp
                 refine hK1 (Same w2) _ _ (((Keeps.drew (Keeps.refl (fun _ => True) w2)).alloc (.cells #[.int .i64 x] 3)).alloc (.cells #[] 3)) (fun _ h => h) ?_
                 clear hK1 K
                 go_simp)
                have hoe := own_empty (w2.drew.alloc (.cells #[.int .i64 x] 3)) (B := w2.heap.size) ((Keeps.drew (Keeps.refl (fun _ => True) w2)).alloc (.cells #[.int .i64 x] 3)).size
                rw [show (w2.drew.alloc (.cells #[.int .i64 x] 3)).heap.size = w2.heap.size + 1 by simp] at hoe
                obtain ⟨v1, x1, r1, o1, g1, a1⟩ := append_more hoe (HTk.out.same (((Keeps.drew (Keeps.refl (fun _ => True) w2)).alloc (.cells #[.int .i64 x] 3)).alloc (.cells #[] 3))) (((Keeps.drew (Keeps.refl (fun _ => True) w2)).alloc (.cells #[.int .i64 x] 3)).alloc (.cells #[] 3)).size (by simp; omega)
                have ks : Same w2 x1 := (((Keeps.drew (Keeps.refl (fun _ => True) w2)).alloc (.cells #[.int .i64 x] 3)).alloc (.cells #[] 3)).trans g1 fun z hz _ => ⟨trivial, by simp [Value.ownBlock]; omega⟩
                refine pl_one ?_
                refine up_append _ _ _ rfl rfl rfl ?hs ?hx r1 (Same w2) ks (fun _ h => h) ?_
                case hs => rfl
                case hx => first | rfl | (go_simp; done) | (trace_state; fail)
                go_simp
                have hov : OwnInts x1 w2.heap.size v1 (out.take m) := by simpa using o1
                have hxv := ((ints_of_block (heap_new w2.drew (.cells #[.int .i64 x] 3)) [x] rfl (by simpa using HXB.out) (n := 1) (c := 1) rfl (Nat.le_refl _) (by decide)).same ((Keeps.refl _ _).alloc (.cells #[] 3))).keep g1 (by intro b hb; simp [live] at hb; simp [Value.ownBlock]; omega)
                clear r1 o1 g1 a1
                refine pl_one ?_
                obtain ⟨v2, x2, r2, o2, g2, a2⟩ := append_more hov hxv ks.size (by simp; omega)
                have ks2 : Same w2 x2 := ks.trans g2 fun z hz _ => ⟨trivial, fun e => by have := (hov.low e).1; omega⟩
                refine up_append _ _ _ rfl rfl rfl ?hs ?hx r2 (Same w2) ks2 (fun _ h => h) ?_
                case hs => rfl
                case hx => first | rfl | (go_simp; done) | (trace_state; fail)
                go_simp
                refine pl_one ?_
                obtain ⟨v3, x3, r3, o3, g3, a3⟩ := append_more o2 (HDk.out.same ks2) ks2.size (by simp; omega)
                have ks3 : Same w2 x3 := ks2.trans g3 fun z hz _ => ⟨trivial, fun e => by have := (o2.low e).1; omega⟩
                refine up_append _ _ _ rfl rfl rfl ?hs ?hx r3 (Same w2) ks3 (fun _ h => h) ?_
                case hs => rfl
                case hx => first | rfl | (go_simp; done) | (trace_state; fail)
                go_simp
                refine pl_one ?_
                apply up_do
                case ho => rfl
                case hw => rfl
                intro K hK1
                go_simp
                refine hK1 (Same w2) _ _ ks3 (fun _ h => h) ?_
                clear hK1 K
                go_simp
                refine pl_done ?_
                have HF := hide (And.intro o3 ks3)
                clear r2 r3 o2 o3 g2 g3 a2 a3 ks ks2 ks3 hov hxv
                go_wp2_with fail
                go_roundw
                case rel => exact ⟨k + 1, by go_num, by omega, by rw [HST.out, HE.out]; simpa [OwnInts] using OwnInts.below HF.out.1 (HBS.out ▸ HK3.out.size), HK3.out.tr HF.out.2⟩
                case measure => simp [intOf]; omega
        · have HNO := hide (show out[m]? = none from List.getElem?_eq_none (by omega))
          have HSP := hide (while_split hm hall.out (fun z hz => by rw [HNO.out] at hz; cases hz))
          obtain ⟨_, _, e1, hTk⟩ := ((HO.out.ints HI.out).same hK2).take m hm
          simp only [Value.slice.injEq] at e1
          obtain ⟨rfl, _, rfl⟩ := e1
          have hDk := ((HO.out.ints HI.out).same hK2).drop m hm
          obtain rfl : m = out.length := by omega
          clear hlt2
          cases ua
          all_goals
            have HNE := hide (show ¬ (out.dropWhile (· < x)).head? = some x by rw [HSP.out.2, List.head?_drop, HNO.out]; intro e; cases e)
            go_wp2_with fail
            refine wp_region_same (by kernel_rfl) (by kernel_rfl) ?_
            iterate 15
              (apply wpQuiet_step
               intro K hK
               first
                 | (apply quiet_skip
                    case hw => rfl
                    go_simp
                    refine hK _ ?_; clear hK K)
                 | (apply quiet_do
                    case hw => rfl
                    case h =>
                      intro w' hw'
                      (have q1 := Keeps.cell hw' hck trivial)
                      go_simp
                      first | exact rfl | (fail)
                    go_simp
                    refine hK _ ?_; clear hK K))
            apply wpQuiet_nil
            intro w1 k1
            have hck1 := Keeps.cell k1 hck trivial
            go_wp2_with fail
            refine wp_region_same (by kernel_rfl) (by kernel_rfl) ?_
            iterate 15
              (apply wpQuiet_step
               intro K hK
               first
                 | (apply quiet_skip
                    case hw => rfl
                    go_simp
                    refine hK _ ?_; clear hK K)
                 | (apply quiet_do
                    case hw => rfl
                    case h =>
                      intro w' hw'
                      (have q1 := Keeps.cell hw' hck1 trivial)
                      go_simp
                      first | exact rfl | (fail)
                    go_simp
                    refine hK _ ?_; clear hK K))
            apply wpQuiet_nil
            intro w2 k2
            go_wp2_with fail
            have hmc : out.length ≤ uc := Nat.le_trans hm hd1
            have hck2 := Keeps.cell k2 hck1 trivial
            have HE := hide (show ins out x = out.take out.length ++ x :: out.drop out.length by unfold ins; rw [if_neg HNE.out, HSP.out.2, HSP.out.1])
            have HTk := hide (hTk.same (k1.tr k2))
            have HDk := hide (hDk.same (k1.tr k2))
            have HK3 := hide (HK.out.tr (hK2.tr (k1.tr k2)))
            clear hTk hDk k1 k2 hck hck1 hK2
            refine wp_region_plan (.take 1 (.take 2 (.take 3 (.take 5 (.take 6 (.take 7 (.take 8 (.take 11 (.take 12 (.take 13 (.two 0 9 (.two 4 9 (.one 9 (.one 10 (.one 14 (.one 15 .done)))) (.one 4 (.one 10 (.one 14 (.one 15 .done))))) (.one 0 (.one 4 (.one 10 (.one 14 (.one 15 .done)))))))))))))))) (Same w2) (by kernel_rfl) (by kernel_rfl) (Keeps.drew (Keeps.refl (fun _ => True) w2)) ?_
            iterate 10
              (apply pl_take
               case ho => rfl
               case hw => rfl
               case hv =>
                 intro w' hw'
                 have q1 := Keeps.cell hw' hck2 trivial
                 go_simp
                 exact rfl
               go_simp)
            refine pl_two ?_ ?_
            · (apply up_do
               case ho => rfl
               case hw => rfl
               intro K hK1
               go_simp
               refine hK1 (Same w2) _ _ ((Keeps.drew (Keeps.refl (fun _ => True) w2)).alloc (.cells #[] 3)) (fun _ h => h) ?_
               clear hK1 K
               go_simp)
              refine pl_two ?_ ?_
              · obtain ⟨v1, x1, r1, o1, g1, a1⟩ := append_more (own_empty w2.drew (B := w2.heap.size) (Nat.le_refl _)) (HTk.out.same ((Keeps.drew (Keeps.refl (fun _ => True) w2)).alloc (.cells #[] 3))) ((Keeps.drew (Keeps.refl (fun _ => True) w2)).alloc (.cells #[] 3)).size (by simp; omega)
                have k1 : Same w2 x1 := ((Keeps.drew (Keeps.refl (fun _ => True) w2)).alloc (.cells #[] 3)).trans g1 fun z hz _ => ⟨trivial, by simp [Value.ownBlock]; omega⟩
                refine up_append _ _ _ rfl rfl rfl ?hs ?hx r1 (Same w2) k1 (fun _ h => h) ?_
                case hs => rfl
                case hx => first | rfl | (go_simp; done) | (trace_state; fail)
                go_simp
                refine pl_one ?_
                (apply up_do
                 case ho => rfl
                 case hw => rfl
                 intro K hK1
                 go_simp
                 refine hK1 (Same w2) _ _ (k1.alloc (.cells #[.int .i64 x] 3)) (fun _ h => h) ?_
                 clear hK1 K
                 go_simp)
                have ks := k1.alloc (.cells #[.int .i64 x] 3)
                have hov := (show OwnInts x1 w2.heap.size v1 (out.take out.length) by simpa using o1).keep (S := fun _ => True) ((Keeps.refl _ x1).alloc (.cells #[.int .i64 x] 3)) (fun _ _ => trivial)
                have hxv : IntsAt (x1.alloc (.cells #[.int .i64 x] 3)) (.slice (some ⟨x1.heap.size, 0, none⟩) 1 1) [x] := ints_of_block (heap_new x1 (.cells #[.int .i64 x] 3)) [x] rfl (by simpa using HXB.out) rfl (Nat.le_refl _) (by decide)
                clear r1 o1 g1 a1 k1
                refine pl_one ?_
                obtain ⟨v2, x2, r2, o2, g2, a2⟩ := append_more hov hxv ks.size (by simp; omega)
                have ks2 : Same w2 x2 := ks.trans g2 fun z hz _ => ⟨trivial, fun e => by have := (hov.low e).1; omega⟩
                refine up_append _ _ _ rfl rfl rfl ?hs ?hx r2 (Same w2) ks2 (fun _ h => h) ?_
                case hs => rfl
                case hx => first | rfl | (go_simp; done) | (trace_state; fail)
                go_simp
                refine pl_one ?_
                obtain ⟨v3, x3, r3, o3, g3, a3⟩ := append_more o2 (HDk.out.same ks2) ks2.size (by simp; omega)
                have ks3 : Same w2 x3 := ks2.trans g3 fun z hz _ => ⟨trivial, fun e => by have := (o2.low e).1; omega⟩
                refine up_append _ _ _ rfl rfl rfl ?hs ?hx r3 (Same w2) ks3 (fun _ h => h) ?_
                case hs => rfl
                case hx => first | rfl | (go_simp; done) | (trace_state; fail)
                go_simp
                refine pl_one ?_
                apply up_do
                case ho => rfl
                case hw => rfl
                intro K hK1
                go_simp
                refine hK1 (Same w2) _ _ ks3 (fun _ h => h) ?_
                clear hK1 K
                go_simp
                refine pl_done ?_
                have HF := hide (And.intro o3 ks3)
                clear r2 r3 o2 o3 g2 g3 a2 a3 ks ks2 ks3 hov hxv
                go_wp2_with fail
                go_roundw
                case rel => exact ⟨k + 1, by go_num, by omega, by rw [HST.out, HE.out]; simpa [OwnInts] using OwnInts.below HF.out.1 (HBS.out ▸ HK3.out.size), HK3.out.tr HF.out.2⟩
                case measure => simp [intOf]; omega
              · (apply up_do
                 case ho => rfl
                 case hw => rfl
                 intro K hK1
                 go_simp
                 refine hK1 (Same w2) _ _ (((Keeps.drew (Keeps.refl (fun _ => True) w2)).alloc (.cells #[] 3)).alloc (.cells #[.int .i64 x] 3)) (fun _ h => h) ?_
                 clear hK1 K
                 go_simp)
                obtain ⟨v1, x1, r1, o1, g1, a1⟩ := append_more (((own_empty w2.drew (B := w2.heap.size) (Nat.le_refl _))).keep (S := fun _ => True) ((Keeps.refl _ _).alloc (.cells #[.int .i64 x] 3)) (fun _ _ => trivial)) (HTk.out.same (((Keeps.drew (Keeps.refl (fun _ => True) w2)).alloc (.cells #[] 3)).alloc (.cells #[.int .i64 x] 3))) (((Keeps.drew (Keeps.refl (fun _ => True) w2)).alloc (.cells #[] 3)).alloc (.cells #[.int .i64 x] 3)).size (by simp; omega)
                have ks : Same w2 x1 := (((Keeps.drew (Keeps.refl (fun _ => True) w2)).alloc (.cells #[] 3)).alloc (.cells #[.int .i64 x] 3)).trans g1 fun z hz _ => ⟨trivial, by simp [Value.ownBlock]; omega⟩
                refine pl_one ?_
                refine up_append _ _ _ rfl rfl rfl ?hs ?hx r1 (Same w2) ks (fun _ h => h) ?_
                case hs => rfl
                case hx => first | rfl | (go_simp; done) | (trace_state; fail)
                go_simp
                have hov : OwnInts x1 w2.heap.size v1 (out.take out.length) := by simpa using o1
                have hxv := (ints_of_block (heap_new (w2.drew.alloc (.cells #[] 3)) (.cells #[.int .i64 x] 3)) [x] rfl (by simpa using HXB.out) (n := 1) (c := 1) rfl (Nat.le_refl _) (by decide)).keep g1 (by intro b hb; simp [live] at hb; simp [Value.ownBlock]; omega)
                clear r1 o1 g1 a1
                refine pl_one ?_
                obtain ⟨v2, x2, r2, o2, g2, a2⟩ := append_more hov hxv ks.size (by simp; omega)
                have ks2 : Same w2 x2 := ks.trans g2 fun z hz _ => ⟨trivial, fun e => by have := (hov.low e).1; omega⟩
                refine up_append _ _ _ rfl rfl rfl ?hs ?hx r2 (Same w2) ks2 (fun _ h => h) ?_
                case hs => rfl
                case hx => first | rfl | (go_simp; done) | (trace_state; fail)
                go_simp
                refine pl_one ?_
                obtain ⟨v3, x3, r3, o3, g3, a3⟩ := append_more o2 (HDk.out.same ks2) ks2.size (by simp; omega)
                have ks3 : Same w2 x3 := ks2.trans g3 fun z hz _ => ⟨trivial, fun e => by have := (o2.low e).1; omega⟩
                refine up_append _ _ _ rfl rfl rfl ?hs ?hx r3 (Same w2) ks3 (fun _ h => h) ?_
                case hs => rfl
                case hx => first | rfl | (go_simp; done) | (trace_state; fail)
                go_simp
                refine pl_one ?_
                apply up_do
                case ho => rfl
                case hw => rfl
                intro K hK1
                go_simp
                refine hK1 (Same w2) _ _ ks3 (fun _ h => h) ?_
                clear hK1 K
                go_simp
                refine pl_done ?_
                have HF := hide (And.intro o3 ks3)
                clear r2 r3 o2 o3 g2 g3 a2 a3 ks ks2 ks3 hov hxv
                go_wp2_with fail
                go_roundw
                case rel => exact ⟨k + 1, by go_num, by omega, by rw [HST.out, HE.out]; simpa [OwnInts] using OwnInts.below HF.out.1 (HBS.out ▸ HK3.out.size), HK3.out.tr HF.out.2⟩
                case measure => simp [intOf]; omega
            · (apply up_do
               case ho => rfl
               case hw => rfl
               intro K hK1
               go_simp
               refine hK1 (Same w2) _ _ ((Keeps.drew (Keeps.refl (fun _ => True) w2)).alloc (.cells #[.int .i64 x] 3)) (fun _ h => h) ?_
               clear hK1 K
               go_simp)
              refine pl_one ?_
              (apply up_do
               case ho => rfl
               case hw => rfl
               intro K hK1
               go_simp
               refine hK1 (Same w2) _ _ (((Keeps.drew (Keeps.refl (fun _ => True) w2)).alloc (.cells #[.int .i64 x] 3)).alloc (.cells #[] 3)) (fun _ h => h) ?_
               clear hK1 K
               go_simp)
              have hoe := own_empty (w2.drew.alloc (.cells #[.int .i64 x] 3)) (B := w2.heap.size) ((Keeps.drew (Keeps.refl (fun _ => True) w2)).alloc (.cells #[.int .i64 x] 3)).size
              rw [show (w2.drew.alloc (.cells #[.int .i64 x] 3)).heap.size = w2.heap.size + 1 by simp] at hoe
              obtain ⟨v1, x1, r1, o1, g1, a1⟩ := append_more hoe (HTk.out.same (((Keeps.drew (Keeps.refl (fun _ => True) w2)).alloc (.cells #[.int .i64 x] 3)).alloc (.cells #[] 3))) (((Keeps.drew (Keeps.refl (fun _ => True) w2)).alloc (.cells #[.int .i64 x] 3)).alloc (.cells #[] 3)).size (by simp; omega)
              have ks : Same w2 x1 := (((Keeps.drew (Keeps.refl (fun _ => True) w2)).alloc (.cells #[.int .i64 x] 3)).alloc (.cells #[] 3)).trans g1 fun z hz _ => ⟨trivial, by simp [Value.ownBlock]; omega⟩
              refine pl_one ?_
              refine up_append _ _ _ rfl rfl rfl ?hs ?hx r1 (Same w2) ks (fun _ h => h) ?_
              case hs => rfl
              case hx => first | rfl | (go_simp; done) | (trace_state; fail)
              go_simp
              have hov : OwnInts x1 w2.heap.size v1 (out.take out.length) := by simpa using o1
              have hxv := ((ints_of_block (heap_new w2.drew (.cells #[.int .i64 x] 3)) [x] rfl (by simpa using HXB.out) (n := 1) (c := 1) rfl (Nat.le_refl _) (by decide)).same ((Keeps.refl _ _).alloc (.cells #[] 3))).keep g1 (by intro b hb; simp [live] at hb; simp [Value.ownBlock]; omega)
              clear r1 o1 g1 a1
              refine pl_one ?_
              obtain ⟨v2, x2, r2, o2, g2, a2⟩ := append_more hov hxv ks.size (by simp; omega)
              have ks2 : Same w2 x2 := ks.trans g2 fun z hz _ => ⟨trivial, fun e => by have := (hov.low e).1; omega⟩
              refine up_append _ _ _ rfl rfl rfl ?hs ?hx r2 (Same w2) ks2 (fun _ h => h) ?_
              case hs => rfl
              case hx => first | rfl | (go_simp; done) | (trace_state; fail)
              go_simp
              refine pl_one ?_
              obtain ⟨v3, x3, r3, o3, g3, a3⟩ := append_more o2 (HDk.out.same ks2) ks2.size (by simp; omega)
              have ks3 : Same w2 x3 := ks2.trans g3 fun z hz _ => ⟨trivial, fun e => by have := (o2.low e).1; omega⟩
              refine up_append _ _ _ rfl rfl rfl ?hs ?hx r3 (Same w2) ks3 (fun _ h => h) ?_
              case hs => rfl
              case hx => first | rfl | (go_simp; done) | (trace_state; fail)
              go_simp
              refine pl_one ?_
              apply up_do
              case ho => rfl
              case hw => rfl
              intro K hK1
              go_simp
              refine hK1 (Same w2) _ _ ks3 (fun _ h => h) ?_
              clear hK1 K
              go_simp
              refine pl_done ?_
              have HF := hide (And.intro o3 ks3)
              clear r2 r3 o2 o3 g2 g3 a2 a3 ks ks2 ks3 hov hxv
              go_wp2_with fail
              go_roundw
              case rel => exact ⟨k + 1, by go_num, by omega, by rw [HST.out, HE.out]; simpa [OwnInts] using OwnInts.below HF.out.1 (HBS.out ▸ HK3.out.size), HK3.out.tr HF.out.2⟩
              case measure => simp [intOf]; omega
    · go_wp2_with fail
      obtain rfl : k = l.length := by omega
      exact HR.out _ _ _ rfl (by rw [List.take_length] at hown; exact hown) hK

end Go.Proofs.Ytonddhepndhgbaa
