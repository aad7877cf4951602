/- look.All, given look.Reach. -/
import Derived.Test.YtohhjdadhdibfaaIdx
namespace Go.Proofs.Ytohhjdadhdibfaa
open Go.RowKit

attribute [local irreducible] wpQuiet wpPlan wpPlanZ wpUp

variable {R : Ending → World → Prop} {w : World} {A : Au} {B d : Nat}

theorem callFunc_all (args : Array Value) (w : World) : (callFunc 83 args).run Try.prog w = .ok (.enter 83 args) w := by kernel_rfl

theorem lookAll1 {b : Nat} {x : Int} (h : DFAAt w B d A) (hb : w.heap[b]? = some (.cells #[.pointer (some ⟨d, 0, none⟩)] 27 (0, 0))) (hR : ∀ e w', e = .returned (.bool (!accA A x)) → Same w w' → R e w') :
    Calls Try.prog 83 #[.int .i64 x, .pointer (some ⟨b, 0, none⟩)] w R := by
  have HR := hide hR
  clear hR
  have H := hide h
  have c0 := cell_at hb 0
  simp only [List.getElem?_toArray, List.getElem?_cons_zero] at c0
  clear h hb
  go_enter Try.func83, Try.ntmps83
  go_wp2_with fail
  refine dfaAccepts H.out x ?_; rintro e rfl
  go_wp2_with fail
  exact HR.out _ _ rfl (Keeps.refl _ w)

/-- look.All, given what look.Reach answers. -/
theorem lookAll {l : List Int} (hreach : ∀ (w : World) (R : Ending → World → Prop), DFAAt w B d A → (∀ e w' v, e = .returned v → IntsAt w' v l → Same w w' → R e w') → Calls Try.prog 49 #[.pointer (some ⟨d, 0, none⟩)] w R) (h : DFAAt w B d A)
    (hR : ∀ e w', e = .returned (.bool (!l.any fun x => !accA A x)) → Same w w' → R e w') :
    Calls Try.prog 53 #[.pointer (some ⟨d, 0, none⟩)] w R := by
  have HR := hide hR
  clear hR
  have HRE := hide hreach
  have hbox := heap_new w (.cells #[.pointer (some ⟨d, 0, none⟩)] 27)
  have c0 := cell_at hbox 0
  simp only [List.getElem?_toArray, List.getElem?_cons_zero] at c0
  have hk0 := (Keeps.refl (fun _ => True) w).alloc (.cells #[.pointer (some ⟨d, 0, none⟩)] 27)
  have H := hide (h.same hk0)
  have HK := hide hk0
  have HB := hide hbox
  clear hbox h hreach hk0
  go_enter Try.func53, Try.ntmps53
  go_wp2_with fail
  refine HRE.out _ _ H.out ?_; rintro e w1 v rfl hv k1
  obtain ⟨a, c, rfl, _, _, _⟩ := hv.open
  have HV := hide hv
  have HK1 := hide k1
  clear hv k1
  go_wp2_with fail
  refine containsFunc (p := fun x => !accA A x) (l := l) callFunc_all HV.out (fun x _ w' R k hR => lookAll1 (H.out.same (HK1.out.tr k)) ((HK1.out.tr k).at HB.out trivial) hR) ?_; rintro e w2 rfl k2
  go_wp2_with fail
  exact HR.out _ _ rfl (HK.out.tr (HK1.out.tr k2))

end Go.Proofs.Ytohhjdadhdibfaa
