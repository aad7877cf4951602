/- The walk of sibylref25.Of. -/
import Derived.Test.YtgpgbkoaopfjkaaRef25c
namespace Go.Proofs.Ytgpgbkoaopfjkaa
open Go.RowKit

attribute [local irreducible] wpQuiet wpPlan wpPlanZ wpUp

variable {R : Ending → World → Prop} {w : World}

theorem name_not (o : AOp) : (o.name.toList == [110, 111, 116]) = false := by cases o <;> (rw [ByteArray.toList_eq]; rfl)
theorem name_and (o : AOp) : (o.name.toList == [97, 110, 100]) = false := by cases o <;> (rw [ByteArray.toList_eq]; rfl)

/-- The boxes: the atom, the answer. -/
theorem of_two (cs : Array Value) (t : TypeId) (cs2 : Array Value) (t2 : TypeId) : ((w.alloc (.cells cs t)).alloc (.cells cs2 t2)).heap[w.heap.size]? = some (.cells cs t (0, 0)) ∧ ((w.alloc (.cells cs t)).alloc (.cells cs2 t2)).heap[w.heap.size + 1]? = some (.cells cs2 t2 (0, 0)) ∧ Same w ((w.alloc (.cells cs t)).alloc (.cells cs2 t2)) := by
  have e1 : (w.alloc (.cells cs t)).heap.size = w.heap.size + 1 := by simp
  have h2 := heap_new (w.alloc (.cells cs t)) (.cells cs2 t2)
  rw [e1] at h2
  exact ⟨heap_old (heap_new w _) _, h2, ((Keeps.refl _ w).alloc _).alloc _⟩

set_option maxRecDepth 10000 in
set_option maxHeartbeats 4000000 in
theorem refOfBad {h : Nat} {op : ByteArray} {a b c N n : Int} {ka : Option Addr} {kn kc : Nat} (hv : CoreIn w h (.agg #[.string op, .int .i64 a, .int .i64 b, .int .i64 c, .int .i64 N, .slice ka kn kc])) (hbad : ¬ GoodC op a b c N n kn)
    (hR : ∀ e w', e = .returned (.tuple #[.agg #[.int .i64 0, .slice none 0 0, .slice none 0 0], .bool false]) → Same w w' → R e w') :
    Calls Try.prog 10 #[.agg #[.string op, .int .i64 a, .int .i64 b, .int .i64 c, .int .i64 N, .slice ka kn kc], .int .i64 n] w R := by
  have HR := hide hR
  clear hR
  obtain ⟨hb1, hb2, hk1⟩ := of_two (w := w) #[.string op, .int .i64 a, .int .i64 b, .int .i64 c, .int .i64 N, .slice ka kn kc] 24 #[.int .i64 0, .slice none 0 0, .slice none 0 0] 33
  have HB1 := hide hb1
  have HB2 := hide hb2
  have HK1 := hide hk1
  have HV := hide (CoreIn.same hk1 hv)
  have HBAD := hide hbad
  clear hv hk1 hb1 hb2 hbad
  go_enter Try.func10, Try.ntmps10
  go_wp2_with fail
  generalize (w.alloc (.cells #[.string op, .int .i64 a, .int .i64 b, .int .i64 c, .int .i64 N, .slice ka kn kc] 24)).alloc (.cells #[.int .i64 0, .slice none 0 0, .slice none 0 0] 33) = w1 at HB1 HB2 HK1 HV ⊢
  refine refIs9 HV.out ?_; rintro e w2 r rfl hr _ k2
  have hb1 := k2.at HB1.out trivial
  have hb2 := k2.at HB2.out trivial
  have HK2 := hide (HK1.out.tr k2)
  obtain ⟨hb3, k3⟩ := set3 (a := .int .i64 0) (b := .slice none 0 0) (c := .slice none 0 0) hb2
  have HSM : Hid (Same w (((w2.setCell ⟨w.heap.size + 1, 0, none⟩ (.int .i64 0)).setCell ⟨w.heap.size + 1, 1, none⟩ (.slice none 0 0)).setCell ⟨w.heap.size + 1, 2, none⟩ (.slice none 0 0))) :=
    hide (HK2.out.trans k3 fun b hb _ => ⟨trivial, by omega⟩)
  have q0 := cell_at hb1 0
  have p0 := cell_at hb2 0
  have p1 := cell_at hb2 1
  have p2 := cell_at hb2 2
  have f0 := free_at hb2 0
  have f1 := free_at hb2 1
  have f2 := free_at hb2 2
  have y0 := cell_at hb3 0
  have y1 := cell_at hb3 1
  have y2 := cell_at hb3 2
  simp only [List.getElem?_toArray, List.getElem?_cons_zero, List.getElem?_cons_succ] at q0 p0 p1 p2 y0 y1 y2
  have HR2 : Hid (∀ u, u = ((w2.setCell ⟨w.heap.size + 1, 0, none⟩ (.int .i64 0)).setCell ⟨w.heap.size + 1, 1, none⟩ (.slice none 0 0)).setCell ⟨w.heap.size + 1, 2, none⟩ (.slice none 0 0) → R (.returned (.tuple #[.agg #[.int .i64 0, .slice none 0 0, .slice none 0 0], .bool false])) u) := hide (fun u hu => by rw [hu]; exact HR.out _ _ rfl HSM.out)
  have HH3 := hide (And.intro y0 (And.intro y1 y2))
  clear k2 hb1 hb2 hb3 k3 y0 y1 y2
  cases r with
  | false =>
    clear hr
    go_wp2_with fail
    obtain ⟨y0, y1, y2⟩ := HH3.out
    refine bodyPost_ret (v := .tuple #[.agg #[.int .i64 0, .slice none 0 0, .slice none 0 0], .bool false]) (by simp [results, Try.results10, go_sem, y0, y1, y2]) rfl ?_
    exact HR2.out _ rfl
  | true =>
    obtain ⟨_, ho⟩ := (hr rfl).resolve_left HBAD.out
    clear hr
    rcases ho with rfl | rfl | rfl
    all_goals
      go_wp2_with fail
      obtain ⟨y0, y1, y2⟩ := HH3.out
      refine bodyPost_ret (v := .tuple #[.agg #[.int .i64 0, .slice none 0 0, .slice none 0 0], .bool false]) (by simp [results, Try.results10, go_sem, y0, y1, y2]) rfl ?_
      exact HR2.out _ rfl

set_option maxRecDepth 10000 in
set_option maxHeartbeats 8000000 in
theorem refOfGood {o : AOp} {A B C N n h : Nat} {ka : Option Addr} {kc : Nat} (hN : N ≤ 20) (hn : n ≤ 6) (hA : A ≤ 6) (hB : B ≤ 6) (hC : C ≤ 6) (hF : FieldsOk o A B C N n 0)
    (hv : CoreIn w h (.agg #[.string o.name, .int .i64 (A : Int), .int .i64 (B : Int), .int .i64 (C : Int), .int .i64 (N : Int), .slice ka 0 kc]))
    (hR : ∀ e w' u, e = .returned (.tuple #[u, .bool true]) → AutoAt w' u (minAu (machAu o N A B C n)) → Same w w' → R e w') :
    Calls Try.prog 10 #[.agg #[.string o.name, .int .i64 (A : Int), .int .i64 (B : Int), .int .i64 (C : Int), .int .i64 (N : Int), .slice ka 0 kc], .int .i64 (n : Int)] w R := by
  have HR := hide hR
  clear hR
  have HG := hide (show GoodC o.name (A : Int) (B : Int) (C : Int) (N : Int) (n : Int) 0 from ⟨by omega, by omega, o, rfl, hF⟩)
  obtain ⟨hb1, hb2, hk1⟩ := of_two (w := w) #[.string o.name, .int .i64 (A : Int), .int .i64 (B : Int), .int .i64 (C : Int), .int .i64 (N : Int), .slice ka 0 kc] 24 #[.int .i64 0, .slice none 0 0, .slice none 0 0] 33
  have HB1 := hide hb1
  have HB2 := hide hb2
  have HK1 := hide hk1
  have HV := hide (CoreIn.same hk1 hv)
  have hx1 := name_not o
  have hx2 := name_and o
  have hx3 := name_ex o
  clear hv hk1 hb1 hb2 hF
  go_enter Try.func10, Try.ntmps10
  go_wp2_with fail
  generalize (w.alloc (.cells #[.string o.name, .int .i64 (A : Int), .int .i64 (B : Int), .int .i64 (C : Int), .int .i64 (N : Int), .slice ka 0 kc] 24)).alloc (.cells #[.int .i64 0, .slice none 0 0, .slice none 0 0] 33) = w1 at HB1 HB2 HK1 HV ⊢
  refine refIs9 HV.out ?_; rintro e w2 r rfl _ hr k2
  obtain rfl : r = true := hr HG.out
  have hb1 := k2.at HB1.out trivial
  have HB1 := hide hb1
  have HB2 := hide (k2.at HB2.out trivial)
  have HK2 := hide (HK1.out.tr k2)
  have q0 := cell_at hb1 0
  simp only [List.getElem?_toArray, List.getElem?_cons_zero] at q0
  clear hr k2 hb1 HV HG
  have ka4 : Same w2 (w2.alloc (.cells #[.int .i64 (n : Int), .slice none 0 0, .slice none 0 0] 33)) := (Keeps.refl _ w2).alloc _
  have HTO0 : Hid (ToIn (w2.alloc (.cells #[.int .i64 (n : Int), .slice none 0 0, .slice none 0 0] 33)) w2.heap.size w2.heap.size (n : Int) (.slice none 0 0) (.slice none 0 0) [] []) := hide ⟨heap_new _ _, Nat.le_refl _, World.ownsRow_nil _ _ _ _, OwnMat.nil _ _⟩
  have HKA4 := hide ka4
  clear ka4
  go_wp2_with fail
  generalize w2.alloc (.cells #[.int .i64 (n : Int), .slice none 0 0, .slice none 0 0] 33) = w4 at HTO0 HKA4 ⊢
  obtain ⟨W0, hW0⟩ : ∃ W0, W0 = w2.heap.size := ⟨_, rfl⟩
  rw [← hW0] at HTO0 ⊢
  have HW0 := hide hW0
  obtain ⟨x0, hx0⟩ : ∃ x0, x0 = W0 := ⟨_, rfl⟩
  have HTO1 : Hid (ToIn w4 W0 x0 (n : Int) (.slice none 0 0) (.slice none 0 0) [] []) := hide (by rw [hx0]; exact HTO0.out)
  have HX0 := hide hx0
  rw [show Value.pointer (some ⟨W0, 0, none⟩) = Value.pointer (some ⟨x0, 0, none⟩) by rw [hx0]]
  have HXC : Hid (w.heap.size + 1 < w2.heap.size) := hide (by
    have := HK2.out.size
    have h2 := (Array.getElem?_eq_some_iff.1 HB2.out).1
    omega)
  obtain ⟨xc, hxc⟩ : ∃ z, z = w.heap.size := ⟨_, rfl⟩
  have HXW := hide hxc
  rw [← hxc] at HB1 HB2 HXC ⊢
  clear hW0 hx0 q0 HTO0 hxc
  have hw2 := wrap_two hn
  have h64p := two_le hn
  have h1p : 0 < 2 ^ n := Nat.pow_pos (by decide)
  obtain ⟨p, hpp⟩ : ∃ z, z = 2 ^ n := ⟨_, rfl⟩
  rw [← hpp] at hw2 h64p h1p
  have HPP := hide hpp
  clear hpp
  have hbI : ∀ v : Nat, ∀ l : Nat, l < 64 → bits .and .i64 ((l : Int) / 2 ^ v) 1 = bI (l.testBit v) := fun v l hl => by
    rw [bit_and l v (by omega)]
    rfl
  have HBI := hide hbI
  clear hbI
  go_loopw [7, 8, 9] (fun i _ _ wr => ∃ (k : Nat) (u vn : Value), i = .int .i64 k ∧ k ≤ 31 ∧ Hid (ToIn wr W0 x0 (n : Int) u vn ((List.range k).map (accO o N)) ((List.range k).map fun s => rowR o N A B C s p)) ∧ Same w2 wr) (fun i _ _ _ => 31 - (intOf i).toNat)
  case atStart => exact ⟨0, _, _, rfl, Nat.zero_le _, HTO1, HKA4.out⟩
  case round =>
    obtain ⟨k, ua, vn, rfl, hk, hto, hK⟩ := hrel
    have HTO := hide hto.out
    have HK4 := hide hK
    have HBX4 := hide (hK.at HB1.out trivial)
    clear hto hK
    by_cases hlt : k ≤ 30
    · obtain ⟨wo, hwo⟩ : ∃ wo : World, wo = wr := ⟨_, rfl⟩
      have HST : Hid (Same wo wr) := hide (by rw [hwo]; exact Keeps.refl _ _)
      rw [← hwo] at HTO HK4 HBX4
      clear hwo
      obtain ⟨Wo, hWo⟩ : ∃ z, z = wo.heap.size := ⟨_, rfl⟩
      have HWO := hide hWo
      clear hWo
      go_wp2_with fail
      rw [show decide ((k : Int) ≤ 30) = true from decide_eq_true (by omega)]
      go_loopw [8, 9] (fun u i wi => ∃ l : Nat, i = .int .i64 l ∧ l ≤ p ∧ Hid (OwnInts wi Wo u (rowR o N A B C k l)) ∧ Same wo wi) (fun _ i _ => p - (intOf i).toNat)
      case atStart => exact ⟨0, rfl, Nat.zero_le _, hide (World.ownsRow_nil _ _ _ _), HST.out⟩
      case round =>
        obtain ⟨l, rfl, hl, hown, hKi⟩ := hrel
        by_cases hlt2 : l < p
        · have HAPP : Hid (∀ (W : World) (v : Int), Same wr W → v = (rxO o N A B C k l : Int) → ∃ g cap w', (Builtin.append_ #[42, 42] 42 #[u8, .slice (some ⟨W.heap.size, 0, none⟩) 1 1]).run Try.prog (W.alloc (.cells #[.int .i64 v] 3)) = .ok (.slice (some ⟨g, 0, none⟩) (l + 1) cap) w' ∧ OwnInts w' Wo (.slice (some ⟨g, 0, none⟩) (l + 1) cap) (rowR o N A B C k (l + 1)) ∧ Same wo w') := hide (by
            intro W v hW hv
            have hlen := rowR_len o N A B C k l
            have hown1 := ownsRow_keep hown.out hW fun _ _ => trivial
            obtain ⟨g, cap1, w2', hr, hown2, hk2, hg, _⟩ := append_one (P := Try.prog) W 42 42 3 Try.underlying42 int_info rfl hown1 (by rw [HWO.out]; exact (hKi.tr hW).size) (.int .i64 v) rfl (by rw [hlen]; omega) (by decide)
            rw [hlen] at hr hown2
            refine ⟨g, cap1, w2', hr, ?_, (hKi.tr hW).trans hk2 fun y hy _ => ⟨trivial, fun e => ?_⟩⟩
            · unfold OwnInts
              rw [rowR_succ, List.length_append, List.map_append, hlen, ← hv]
              exact hown2
            · have := (ownsRow_block hown1 e).1
              rw [HWO.out] at this; omega)
          obtain ⟨s4, c4, hu⟩ := hown.out.shape
          rw [rowR_len] at hu
          subst hu
          have HKI := hide hKi
          have hbx := hKi.at HBX4.out trivial
          have q0 := cell_at hbx 0; have q1 := cell_at hbx 1; have q2 := cell_at hbx 2; have q3 := cell_at hbx 3; have q4 := cell_at hbx 4; have q5 := cell_at hbx 5
          simp only [List.getElem?_toArray, List.getElem?_cons_zero, List.getElem?_cons_succ] at q0 q1 q2 q3 q4 q5
          clear hown hKi hbx
          go_wp2_with fail
          rw [HBI.out A l (by omega), HBI.out B l (by omega), HBI.out C l (by omega)]
          refine refStep hN hlt ?_; rintro e w5 rfl k5
          obtain ⟨g, cap, w6, hr, ho6, hk6⟩ := HAPP.out w5 _ k5 rfl
          have HO6 := hide ho6
          have HK6 := hide hk6
          clear ho6 hk6 k5 q0 q1 q2 q3 q4 q5
          go_wp2_with (at_builtin; refine wpList_append_run rfl _ _ _ rfl rfl rfl hr ?_; clear hr)
          go_roundw
          case rel => exact ⟨l + 1, by go_num, by omega, HO6, HK6.out⟩
          case measure => simp [intOf]; omega
        · obtain rfl : l = p := by omega
          have hto := HTO.out.same hKi
          have HK5 := hide (HK4.out.tr hKi)
          have HBX5 := hide (hKi.at HBX4.out trivial)
          have HWW : Hid (W0 ≤ wr.heap.size) := hide (by rw [HW0.out]; exact HK5.out.size)
          have HROW : Hid (OwnInts wr W0 u8 (rowR o N A B C k l)) := hide (ownsRow_below hown.out (by rw [HW0.out, HWO.out]; exact HK4.out.size))
          obtain ⟨s4, c4, hu⟩ := hown.out.shape
          rw [rowR_len] at hu
          subst hu
          clear hown hKi
          go_wp2_with fail
          have kd : Same wr wr.drew := Keeps.drew (Keeps.refl (fun _ => True) wr)
          have htd := hto.same kd
          obtain ⟨ma, mc, rfl⟩ := hto.mat.shape
          obtain ⟨ba, bc, rfl⟩ := ownsRow_shape hto.acc
          rw [List.length_map, List.length_range] at hto htd
          rw [List.length_map, List.length_range] at hto htd
          have hS0 : wr.drew.heap[x0]? = some (.cells #[.int .i64 (n : Int), .slice ba k bc, .slice ma k mc] 33 (0, 0)) ∧ wr.drew.heap[xc]? = some (.cells #[.string o.name, .int .i64 (A : Int), .int .i64 (B : Int), .int .i64 (C : Int), .int .i64 (N : Int), .slice ka 0 kc] 24 (0, 0)) := ⟨htd.blk, kd.at HBX5.out trivial⟩
          have HTD := hide htd
          have HKD := hide (HK5.out.tr kd)
          have HROWD := hide (ownsRow_keep HROW.out kd fun _ _ => trivial)
          clear hto htd kd
          refine wp_region_planz 8 (.take 0 (.take 1 (.take 2 (.take 3 (.one 4 (.one 5 (.one 6 (.take 7 .last)))))))) (fun w' => w'.heap[x0]? = some (.cells #[.int .i64 (n : Int), .slice ba k bc, .slice ma k mc] 33 (0, 0)) ∧ w'.heap[xc]? = some (.cells #[.string o.name, .int .i64 (A : Int), .int .i64 (B : Int), .int .i64 (C : Int), .int .i64 (N : Int), .slice ka 0 kc] 24 (0, 0))) (by kernel_rfl) (by kernel_rfl) hS0 ?_
          iterate 4
            (first
               | (apply pz_pass
                  case ho => rfl
                  case hw => rfl
                  go_simp)
               | (apply pz_take
                  case ho => rfl
                  case hw => rfl
                  case hv =>
                    intro w' hS
                    (have z1 := cell_at hS.1 1; have q0 := cell_at hS.2 0; have q1 := cell_at hS.2 1; have q2 := cell_at hS.2 2; have q3 := cell_at hS.2 3; have q4 := cell_at hS.2 4; have q5 := cell_at hS.2 5; simp only [List.getElem?_toArray, List.getElem?_cons_zero, List.getElem?_cons_succ] at z1 q0 q1 q2 q3 q4 q5)
                    go_simp
                    exact rfl
                  go_simp))
          refine pz_one (up_do rfl rfl fun K hK1 => ?_)
          go_simp
          refine refAcc hN hlt ?_; rintro e w6 rfl k6
          have hS6 := And.intro (k6.at hS0.1 trivial) (k6.at hS0.2 trivial)
          refine hK1 _ _ _ hS6 (fun _ h => h) ?_
          clear hK1 K hS0
          refine pz_one (up_do rfl rfl fun K hK1 => ?_)
          go_simp
          refine hK1 _ _ _ ⟨heap_old hS6.1 _, heap_old hS6.2 _⟩ (fun _ h => h) ?_
          clear hK1 K
          have hto6 := HTD.out.same k6
          have hK6 := HKD.out.tr k6
          have hWW6 : W0 ≤ w6.heap.size := by rw [HW0.out]; exact hK6.size
          have hnb : (Value.slice ba k bc).ownBlock ≠ some x0 := fun e => by
            obtain ⟨_, cur, hc⟩ := ownsRow_block hto6.acc e
            rw [hto6.blk] at hc; simp at hc
          have hnc : (Value.slice ba k bc).ownBlock ≠ some xc := fun e => by
            have := (ownsRow_block hto6.acc e).1
            have := HXC.out
            have := HW0.out
            omega
          obtain ⟨g2, cap2, w7, hr2, hown7, hk7, _, _⟩ := append_one (P := Try.prog) w6 30 30 4 Try.underlying30 bool_info rfl hto6.acc hWW6 (.bool (accO o N k)) rfl (by simp; omega) (by decide)
          rw [List.length_map, List.length_range] at hr2
          have hS7 : w7.heap[x0]? = some (.cells #[.int .i64 (n : Int), .slice ba k bc, .slice ma k mc] 33 (0, 0)) ∧ w7.heap[xc]? = some (.cells #[.string o.name, .int .i64 (A : Int), .int .i64 (B : Int), .int .i64 (C : Int), .int .i64 (N : Int), .slice ka 0 kc] 24 (0, 0)) := ⟨hk7.at hS6.1 hnb, hk7.at hS6.2 hnc⟩
          have hacc7 : OwnBools w7 W0 (.slice (some ⟨g2, 0, none⟩) (k + 1) cap2) ((List.range k).map (accO o N) ++ [accO o N k]) := by
            unfold OwnBools
            rw [List.length_append, List.map_append]
            simp only [List.length_map, List.length_range] at hown7 ⊢
            exact hown7
          have hrow7 : OwnInts w7 W0 (.slice s4 l c4) (rowR o N A B C k l) := ownsRow_keep (ownsRow_keep HROWD.out k6 fun _ _ => trivial) hk7 fun b hb => own_ne (ownsRow_keep HROWD.out k6 fun _ _ => trivial) hto6.acc (by decide) b hb
          have hto8 := hto6.stepA hk7 hacc7
          have hacc6 := hto6.acc
          have hlow := hto6.low
          have hK7 : Same w2 w7 := hK6.trans hk7 fun y hy _ => ⟨trivial, fun e => by
            have := (ownsRow_block hacc6 e).1
            have := HW0.out
            omega⟩
          have hK8 : Same w2 (w7.setCell ⟨x0, 1, none⟩ (.slice (some ⟨g2, 0, none⟩) (k + 1) cap2)) := hK7.setCell (fun hh => absurd hh.1 (Nat.not_lt.2 (by rw [← HW0.out]; exact hlow))) _
          have hrow8 : OwnInts (w7.setCell ⟨x0, 1, none⟩ (.slice (some ⟨g2, 0, none⟩) (k + 1) cap2)) W0 (.slice s4 l c4) (rowR o N A B C k l) := ownsRow_keep hrow7 ((Keeps.refl (· ≠ x0) w7).setCell (fun hh => hh.2 rfl) _) fun b hb e => by
            subst e
            exact own_ne_blk hrow7 hS7.1 (by decide) hb
          refine pz_one (up_append _ _ _ rfl rfl rfl ?hs ?hx hr2 _ hS7 (fun _ h => h) ?_)
          case hs => rfl
          case hx => rfl
          clear hr2
          go_simp
          iterate 1
            (first
               | (apply pz_pass
                  case ho => rfl
                  case hw => rfl
                  go_simp)
               | (apply pz_take
                  case ho => rfl
                  case hw => rfl
                  case hv =>
                    intro w' hS
                    (skip)
                    go_simp
                    exact rfl
                  go_simp))
          have z1 := cell_at hS7.1 1
          have z2 := free_at hS7.1 1
          simp only [List.getElem?_toArray, List.getElem?_cons_zero, List.getElem?_cons_succ] at z1
          refine pz_last rfl rfl fun K hK => ?_
          go_simp
          refine hK _ _ (np_normal ?_)
          generalize w7.setCell ⟨x0, 1, none⟩ (.slice (some ⟨g2, 0, none⟩) (k + 1) cap2) = w8 at hto8 hK8 hrow8 ⊢
          have HTO8 := hide hto8
          have HK8 := hide hK8
          clear hK K z1 z2 hS7 hS6 hto6 hK6 hWW6 hnb hnc hown7 hk7 hacc7 hrow7 hto8 hacc6 hK7 hK8
          have hWW8 : W0 ≤ w8.heap.size := by rw [HW0.out]; exact HK8.out.size
          have hrl : ((List.range k).map fun s => rowR o N A B C s l).length + 1 ≤ 1000000 := by simp; omega
          obtain ⟨g, cap, w9, hr1, hmat9, hk9, hk9b, _, _⟩ := HTO8.out.mat.push hWW8 hrow8 hrl
          have hto9 := HTO8.out.step hk9 hmat9
          have hx2 := cell_at HTO8.out.blk 2
          have hmx : (Value.slice ma k mc).ownBlock ≠ some x0 := fun e => by
            obtain ⟨vs, h1, _⟩ := HTO8.out.mat
            obtain ⟨_, cur, hc⟩ := ownsRow_block h1 e
            rw [HTO8.out.blk] at hc; simp at hc
          have hb9 := hk9.at HTO8.out.blk hmx
          have z5 := cell_at hb9 2
          have f5 := free_at hb9 2
          have hK9 : Same w2 w9 := HK8.out.trans hk9b fun y hy _ => ⟨trivial, by rw [HW0.out]; exact hy⟩
          have hK10 : Same w2 (w9.setCell ⟨x0, 2, none⟩ (.slice (some ⟨g, 0, none⟩) (((List.range k).map fun s => rowR o N A B C s l).length + 1) cap)) := hK9.setCell (fun hh => absurd hh.1 (Nat.not_lt.2 (by rw [← HW0.out]; exact hlow))) _
          have HTO10 : Hid (ToIn (w9.setCell ⟨x0, 2, none⟩ (.slice (some ⟨g, 0, none⟩) (((List.range k).map fun s => rowR o N A B C s l).length + 1) cap)) W0 x0 (n : Int) (.slice (some ⟨g2, 0, none⟩) (k + 1) cap2) (.slice (some ⟨g, 0, none⟩) (((List.range k).map fun s => rowR o N A B C s l).length + 1) cap) ((List.range (k + 1)).map (accO o N)) ((List.range (k + 1)).map fun s => rowR o N A B C s l)) := hide (by
            rw [List.range_succ, List.map_append, List.map_append]
            exact hto9)
          have HK10 := hide hK10
          simp only [List.length_map, List.length_range, List.getElem?_toArray, List.getElem?_cons_zero, List.getElem?_cons_succ] at hr1 hx2 z5 f5 HTO10 HK10
          clear hWW8 hrl hmat9 hk9 hk9b hto9 hmx hb9 hK9 hK10 hrow8 hlow
          go_wp2_with (at_builtin; refine wpList_append_run rfl _ _ _ rfl rfl rfl hr1 ?_; clear hr1)
          go_roundw
          case rel => exact ⟨k + 1, _, _, by go_num, by omega, HTO10, HK10.out⟩
          case measure => simp [intOf]; omega
    · obtain rfl : k = 31 := by omega
      have hto := HTO.out
      have HAU : Hid (AutoAt wr (.agg #[.int .i64 (n : Int), ua, vn]) (refAu o N A B C n)) := hide (by
        refine hto.auto rfl rfl ?_ (by unfold InI64; omega) ?_
        · unfold refAu; rw [HPP.out]
        · intro r hr y hy
          obtain ⟨s, hs, rfl⟩ := List.mem_map.1 hr
          obtain ⟨l, _, rfl⟩ := List.mem_map.1 hy
          have := List.mem_range.1 hs
          have := stepO_le (o := o) (N := N) (s := s) (a := l.testBit A) (b := l.testBit B) (d := l.testBit C) (by omega)
          unfold rxO InI64; omega)
      have HLE : Hid (∀ l ∈ (refAu o N A B C n).next, ∀ y ∈ l, 0 ≤ y ∧ y ≤ 30) := hide (fun r hr y hy => by
        obtain ⟨s, hs, rfl⟩ := List.mem_map.1 hr
        obtain ⟨l, _, rfl⟩ := List.mem_map.1 hy
        have := List.mem_range.1 hs
        have := stepO_le (o := o) (N := N) (s := s) (a := l.testBit A) (b := l.testBit B) (d := l.testBit C) (by omega)
        unfold rxO; omega)
      obtain ⟨ma, mc, rfl⟩ := hto.mat.shape
      obtain ⟨ba, bc, rfl⟩ := ownsRow_shape hto.acc
      have x0' := cell_at hto.blk 0; have x1' := cell_at hto.blk 1; have x2' := cell_at hto.blk 2
      simp only [List.length_map, List.length_range, List.getElem?_toArray, List.getElem?_cons_zero, List.getElem?_cons_succ] at x0' x1' x2' HAU
      have HRM : Hid (minAu (refAu o N A B C n) = minAu (machAu o N A B C n)) := hide (ref_min hN hn)
      have HOKM : Hid (AuOk (minAu (refAu o N A B C n))) := hide (min_ok (refAu_ok hn))
      have HOKR : Hid (AuOk (refAu o N A B C n)) := hide (refAu_ok hn)
      clear hto
      go_wp2_with fail
      refine refBounded HAU.out HLE.out ?_; rintro e w5 rfl k5
      have HAU5 := hide (AutoAt.same HAU.out k5)
      have HK5 := hide (HK4.out.tr k5)
      clear k5 x0' x1' x2'
      go_wp2_with fail
      refine refMinO HAU5.out HOKR.out ?_; rintro e w6 u rfl ho6 k6
      have hK6 := HK5.out.tr k6
      have hs5 := HK5.out.size
      have hlt := HXC.out
      obtain ⟨va, vn6, rfl, ha6, hm6⟩ := ho6
      obtain ⟨aa, ac, rfl⟩ := ownsRow_shape ha6
      obtain ⟨na, nc, rfl⟩ := hm6.shape
      have hb2 := hK6.at HB2.out trivial
      obtain ⟨hb3, k3⟩ := set3 (a := .int .i64 (minAu (refAu o N A B C n)).T) (b := .slice aa (minAu (refAu o N A B C n)).acc.length ac) (c := .slice na (minAu (refAu o N A B C n)).next.length nc) hb2
      have HOA : Hid (AutoAt (((w6.setCell ⟨xc + 1, 0, none⟩ (.int .i64 (minAu (refAu o N A B C n)).T)).setCell ⟨xc + 1, 1, none⟩ (.slice aa (minAu (refAu o N A B C n)).acc.length ac)).setCell ⟨xc + 1, 2, none⟩ (.slice na (minAu (refAu o N A B C n)).next.length nc)) (.agg #[.int .i64 (minAu (refAu o N A B C n)).T, .slice aa (minAu (refAu o N A B C n)).acc.length ac, .slice na (minAu (refAu o N A B C n)).next.length nc]) (minAu (refAu o N A B C n))) :=
        hide (OwnAuto.auto (B := w5.heap.size + 2) ⟨_, _, rfl, ownsRow_keep ha6 k3 fun b hb => by have := (ownsRow_block ha6 hb).1; omega, hm6.keep k3 fun b cur e _ hB => by omega⟩ HOKM.out)
      have HSM : Hid (Same w (((w6.setCell ⟨xc + 1, 0, none⟩ (.int .i64 (minAu (refAu o N A B C n)).T)).setCell ⟨xc + 1, 1, none⟩ (.slice aa (minAu (refAu o N A B C n)).acc.length ac)).setCell ⟨xc + 1, 2, none⟩ (.slice na (minAu (refAu o N A B C n)).next.length nc))) :=
        hide ((HK2.out.tr hK6).trans k3 fun b hb _ => ⟨trivial, by have := HXW.out; omega⟩)
      have p0 := cell_at hb2 0
      have p1 := cell_at hb2 1
      have p2 := cell_at hb2 2
      have f0 := free_at hb2 0
      have f1 := free_at hb2 1
      have f2 := free_at hb2 2
      simp only [List.getElem?_toArray, List.getElem?_cons_zero, List.getElem?_cons_succ] at p0 p1 p2
      generalize minAu (refAu o N A B C n) = M at *
      generalize M.acc.length = m1 at *
      generalize M.next.length = m2 at *
      clear hK6 hs5 hlt ha6 hm6 hb2 k3 k6
      go_wp2_with fail
      clear p0 p1 p2 f0 f1 f2
      generalize ((w6.setCell ⟨xc + 1, 0, none⟩ (.int .i64 M.T)).setCell ⟨xc + 1, 1, none⟩ (.slice aa m1 ac)).setCell ⟨xc + 1, 2, none⟩ (.slice na m2 nc) = wf at hb3 HSM HOA ⊢
      have y0 := cell_at hb3 0
      have y1 := cell_at hb3 1
      have y2 := cell_at hb3 2
      simp only [List.getElem?_toArray, List.getElem?_cons_zero, List.getElem?_cons_succ] at y0 y1 y2
      refine bodyPost_ret (v := .tuple #[.agg #[.int .i64 M.T, .slice aa m1 ac, .slice na m2 nc], .bool true]) (by simp [results, Try.results10, go_sem, y0, y1, y2]) rfl ?_
      have hM := HRM.out
      clear HRM
      subst hM
      exact HR.out _ _ _ rfl HOA.out HSM.out

end Go.Proofs.Ytgpgbkoaopfjkaa
