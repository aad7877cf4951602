/- The walks of the three laws of chapter 13: for every input they return true and leave what was there. -/
import Derived.Test.YtonddhepndhgbaaLaw13
import Derived.Test.YtonddhepndhgbaaOrd
namespace Go.Proofs.Ytonddhepndhgbaa
open Go.RowKit

set_option maxHeartbeats 1000000 in
theorem meterPlaysWalk (fuel : Int) (v : Value) (l : List Int) (w : World) (hf : InI64 fuel) (hv : IntsAt w v l) :
    Calls Try.prog 3 #[.int .i64 fuel, v] w fun e w' => e = .returned (.bool true) ∧ Below w.heap.size w w' := by
  refine Calls.mono (R := fun e w' => e = .returned (.bool true) ∧ Same w w') ?_ fun e w' h => ⟨h.1, h.2.below⟩
  generalize hR' : (fun e w' => e = Ending.returned (.bool true) ∧ Same w w') = R
  have HR : Hid (∀ e w', e = .returned (.bool true) → Same w w' → R e w') := hide (by subst hR'; exact fun e w' a b => ⟨a, b⟩)
  clear hR'
  obtain ⟨a, c, rfl, hc1, hc2, hcell⟩ := hv.open
  have HV := hide hv.2
  clear hv
  unfold InI64 at hf
  unfold maxLen at hc2
  by_cases hl : 300 < l.length
  · clear hcell
    go_enter Try.func3, Try.ntmps3
    go_wp2_with fail
    exact HR.out _ _ rfl (Keeps.refl _ _)
  · have HC := hide hcell
    clear hcell
    go_enter Try.func3, Try.ntmps3
    go_wp2_with fail
    refine meterNew fuel ?_; rintro e w1 rfl m1 k1
    go_wp2_with fail
    refine rmeterNew fuel ?_; rintro e w2 rfl m2 k2
    have m0 := m1
    replace m1 : MeterAt w2 _ _ _ := Keeps.at k2 m1 trivial
    generalize hm : w.heap.size = am at *
    generalize hx : w1.heap.size = ax at *
    have hne : ax ≠ am := by have := heap_lt m0; omega
    go_wp2_with fail
    go_loopw [7] (fun i wr => ∃ k : Nat, ∃ n b, i = .int .i64 k ∧ k ≤ l.length ∧ 0 ≤ n ∧ n ≤ 9223372036854775807 ∧ MeterAt wr am n b ∧ RMeterAt wr ax n b ∧ Keeps (fun x => x ≠ am ∧ x ≠ ax) w wr) (fun i _ => l.length - (intOf i).toNat)
    case atStart => exact ⟨0, _, _, rfl, Nat.zero_le _, by omega, by omega, m1, m2, (k1.tr k2).mono (by intros; trivial)⟩
    case round =>
      obtain ⟨k, n, b, rfl, hk, hn0, hn1, hM, hX, hK⟩ := hrel
      by_cases hlt : k < l.length
      · obtain ⟨bl, off, rfl, hbl, hcl⟩ := HC.out k hlt
        have hck := Keeps.cell hK (hcl k hlt) ⟨by show bl ≠ am; omega, by show bl ≠ ax; have := k1.size; omega⟩
        clear hcl
        obtain ⟨z, hz⟩ : ∃ z, z = l[k] := ⟨_, rfl⟩
        rw [← hz] at hck
        have hzb : InI64 z := by rw [hz]; exact HV.out _ (List.getElem_mem _)
        clear hz
        obtain ⟨hz1, hz2⟩ := hzb
        go_wp2_with fail
        refine wp_region_ord [(0,true),(1,true),(2,true),(3,true),(4,true),(6,true),(7,true),(8,true),(9,true),(10,true),(5,false),(11,false),(12,true),(13,true),(14,true),(16,true),(17,true),(18,true),(19,true),(15,false),(20,true),(21,true),(22,true),(23,true),(25,true),(26,true),(27,true),(28,true),(24,false),(29,true),(30,true)] (fun w' => w'.cell? ⟨bl, off + k, none⟩ = some (.int .i64 z)) (by kernel_rfl) (by kernel_rfl) (by go_simp) ?_
        iterate 10
          (first
             | (apply ho_pass
                case ho => rfl
                case hw => rfl
                go_simp)
             | (apply ho_take
                case ho => rfl
                case hw => rfl
                case hv =>
                  intro w' hS
                  (skip)
                  go_simp
                  exact rfl
                go_simp))
        apply ho_do
        case ho => rfl
        case hw => rfl
        case h =>
          intro K hK1
          go_simp
          refine spend z (w := wr.drew) hM hz2 hn0 hn1 ?_; rintro e w3 rfl m3 k3
          refine hK1 (fun w' => w'.cell? ⟨bl, off + k, none⟩ = some (.int .i64 z)) _ _ (Keeps.cell k3 (w := wr.drew) hck (by show bl ≠ am; omega)) (fun _ h => h) ?_
          go_simp
          apply ho_do
          case ho => rfl
          case hw => rfl
          case h =>
            intro K2 hK2
            go_simp
            refine rspend z (Keeps.at k3 (w := wr.drew) hX hne) hz2 hn0 hn1 ?_; rintro e w4 rfl m4 k4
            have m5 : MeterAt w4 am _ _ := k4.at m3 (Ne.symm hne)
            have hck4 := Keeps.cell k4 (Keeps.cell k3 (w := wr.drew) hck (by show bl ≠ am; omega)) (by show bl ≠ ax; have := k1.size; omega)
            refine hK2 (fun w' => w'.cell? ⟨bl, off + k, none⟩ = some (.int .i64 z) ∧ MeterAt w' am (spendLeft n z b) (spendOut n z b) ∧ RMeterAt w' ax (spendLeft n z b) (spendOut n z b)) _ _ ⟨hck4, m5, m4⟩ (fun _ h => h.1) ?_
            have M5 := hide m5
            have M4 := hide m4
            have HQ := hide (And.intro k3 k4)
            have hb := spend_bounds (n := n) (k := z) (b := b) hn0 hn1
            clear hck4 m5 m4 m3 k3 k4 hM hX
            generalize spendOk n z b = q
            generalize spendLeft n z b = n2 at M4 M5 hb
            generalize spendOut n z b = b2 at M4 M5
            obtain ⟨hb1, hb2⟩ := hb
            go_simp
            iterate 7
              (first
                 | (apply ho_pass
                    case ho => rfl
                    case hw => rfl
                    go_simp)
                 | (apply ho_take
                    case ho => rfl
                    case hw => rfl
                    case hv =>
                      intro w' hS
                      (have q1 := hS.2.2.c0; have q2 := hS.2.2.c1)
                      go_simp
                      exact rfl
                    go_simp))
            apply ho_do
            case ho => rfl
            case hw => rfl
            case h =>
              intro K3 hK3
              go_simp
              refine meterLeft M5.out ?_; rintro e rfl
              refine hK3 (fun w' => w'.cell? ⟨bl, off + k, none⟩ = some (.int .i64 z) ∧ MeterAt w' am n2 b2 ∧ RMeterAt w' ax n2 b2) _ _ ⟨Keeps.cell HQ.out.2 (Keeps.cell HQ.out.1 (w := wr.drew) hck (by show bl ≠ am; omega)) (by show bl ≠ ax; have := k1.size; omega), M5.out, M4.out⟩ (fun _ h => h) ?_
              go_simp
              iterate 8
                (first
                   | (apply ho_pass
                      case ho => rfl
                      case hw => rfl
                      go_simp)
                   | (apply ho_take
                      case ho => rfl
                      case hw => rfl
                      case hv =>
                        intro w' hS
                        (have q1 := hS.2.2.c0; have q2 := hS.2.2.c1)
                        go_simp
                        exact rfl
                      go_simp))
              apply ho_do
              case ho => rfl
              case hw => rfl
              case h =>
                intro K4 hK4
                go_simp
                refine meterOut M5.out ?_; rintro e rfl
                refine hK4 (fun w' => w'.cell? ⟨bl, off + k, none⟩ = some (.int .i64 z) ∧ MeterAt w' am n2 b2 ∧ RMeterAt w' ax n2 b2) _ _ ⟨Keeps.cell HQ.out.2 (Keeps.cell HQ.out.1 (w := wr.drew) hck (by show bl ≠ am; omega)) (by show bl ≠ ax; have := k1.size; omega), M5.out, M4.out⟩ (fun _ h => h) ?_
                go_simp
                iterate 2
                  (first
                     | (apply ho_pass
                        case ho => rfl
                        case hw => rfl
                        go_simp)
                     | (apply ho_take
                        case ho => rfl
                        case hw => rfl
                        case hv =>
                          intro w' hS
                          (skip)
                          go_simp
                          exact rfl
                        go_simp))
                refine ho_done ?_
                go_wp2_with fail
                go_roundw
                case rel =>
                  refine ⟨k + 1, n2, b2, by go_num, by omega, hb1, hb2, M5.out, M4.out, ?_⟩
                  exact hK.trans (S' := fun x => x ≠ am ∧ x ≠ ax) (Keeps.trans (Keeps.refl (fun _ => True) wr).drew (HQ.out.1.trans (S'' := fun x => x ≠ am ∧ x ≠ ax) HQ.out.2 (fun x _ h => h)) fun x _ h => ⟨trivial, h⟩) fun x _ h => ⟨h, h⟩
                case measure => simp [intOf]; omega
      · have hsame : Same w wr := hK.mono (by intro x hx _; have := k1.size; exact ⟨by omega, by omega⟩)
        have HS := hide hsame
        have q0 := hM.c0
        have q1 := hX.c0
        clear hsame
        have hnn : (n == n) = true := by simp
        go_wp2_with fail
        refine wp_region_same (by kernel_rfl) (by kernel_rfl) ?_
        repeat
          (refine wpQuiet_step (fun K hK => ?_)
           first
             | (apply quiet_skip
                case hw => rfl
                go_simp
                refine hK _ ?_; clear hK K)
             | (apply quiet_do
                case hw => rfl
                case h =>
                  intro w' hw'
                  (have p1 := Keeps.cell hw' q1 trivial)
                  go_simp
                  first | exact rfl | (first | (go_at_call 19; exact meterLeft (Keeps.at hw' hM trivial) (fun e he => ⟨he, hw'⟩)) | (go_at_call 21; exact known13 (fun e w'' he hk => ⟨he, hw'.tr hk⟩)))
                go_simp
                refine hK _ ?_; clear hK K))
        refine wpQuiet_nil ?_
        intro w3 k3
        go_wp2_with fail
        exact HR.out _ _ rfl (HS.out.tr k3)

end Go.Proofs.Ytonddhepndhgbaa
