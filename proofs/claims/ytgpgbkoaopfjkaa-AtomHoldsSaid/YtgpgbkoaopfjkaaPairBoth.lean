/- The walks of pair.is, pair.Both, pair.Map. -/
import Derived.Test.YtgpgbkoaopfjkaaPairNode
namespace Go.Proofs.Ytgpgbkoaopfjkaa
open Go.RowKit

attribute [local irreducible] wpQuiet wpPlan wpUp

variable {R : Ending → World → Prop} {w : World} {a T : Nat} {L : List Nd}

theorem pairIs (h : StoreAt w a T L) (f : Int) (hR : ∀ e, e = .returned (.bool (decide (0 ≤ f ∧ f < L.length))) → R e w) :
    Calls Try.prog 101 #[.pointer (some ⟨a, 0, none⟩), .int .i64 f] w R := by
  have HR := hide hR
  clear hR
  by_cases h1 : 0 ≤ f
  · go_enter Try.func101, Try.ntmps101
    go_wp2_with fail
    refine storeLen h ?_; rintro e rfl
    go_wp2_with fail
    exact HR.out _ (ret_bool (by simp [h1]))
  · go_enter Try.func101, Try.ntmps101
    go_wp2_with fail
    exact HR.out _ (ret_bool (by simp; omega))

/-- One value times a number, and another one; or none. -/
def bothG (k x y : Int) : Option Int := if x * k + y ≤ 1099511627776 then some (x * k + y) else none

/-- A value by a table; or none. -/
def mapG (tl : List Int) (x _y : Int) : Option Int := match tl[x.toNat]? with
  | some v => if isVal v = true then some v else none
  | none => none

theorem leafA_ans {G : Int → Int → Option Int} {x y v : Int} (h : G x y = if isVal v = true then some v else none) : LeafAns G x y (leafA L v).1 (leafA L v).2 := by
  unfold leafA
  by_cases hv : 0 ≤ v ∧ v ≤ 1099511627776
  · rw [if_pos hv]
    rw [if_pos (by simpa [isVal] using hv)] at h
    exact .inl ⟨v, h, _, rfl, idOf_get⟩
  · rw [if_neg hv]
    rw [if_neg (by simpa [isVal] using hv)] at h
    exact .inr ⟨h, rfl⟩

theorem leafA_pre (L : List Nd) (v : Int) : L <+: (leafA L v).1 := by
  unfold leafA; split
  · exact idOf_prefix
  · exact List.prefix_rfl

theorem callFunc_map (args : Array Value) (w : World) : (callFunc 102 args).run Try.prog w = .ok (.enter 102 args) w := by kernel_rfl

set_option maxRecDepth 10000 in
set_option maxHeartbeats 1000000 in
theorem mapLeaf {K : World → Prop} {bs bt : Nat} {tv : Value} {tl : List Int}
    (hK : ∀ w, K w → w.cell? ⟨bs, 0, none⟩ = some (.pointer (some ⟨a, 0, none⟩)) ∧ w.cell? ⟨bt, 0, none⟩ = some tv ∧ IntsAt w tv tl) :
    LeafFn K (mapG tl) a T 102 #[.pointer (some ⟨bt, 0, none⟩), .pointer (some ⟨bs, 0, none⟩)] := by
  intro w L x y R h hw hx hy hlen hkp hR
  have HR := hide hR
  have H := hide h
  obtain ⟨c0, c1, hi⟩ := hK w hw
  have HKP := hide hkp
  have HKK := hide hK
  have HW := hide hw
  clear hR hK hw h hkp
  have hx' : 0 ≤ x ∧ x ≤ 1099511627776 := by simpa [isVal] using hx
  obtain ⟨hx0, hx1⟩ := hx'
  clear hx hy
  obtain ⟨x, rfl⟩ := Int.eq_ofNat_of_zero_le hx0
  obtain ⟨ta, tc, rfl, ht1, ht2, hcell⟩ := hi.open
  unfold maxLen at ht2
  show Calls Try.prog 102 #[.int .i64 x, .int .i64 y, .pointer (some ⟨bt, 0, none⟩), .pointer (some ⟨bs, 0, none⟩)] w R
  by_cases hlt : x < tl.length
  · obtain ⟨b, off, rfl, _, hc⟩ := hcell x hlt
    have c2 := hc x hlt
    have hk3 : ∀ w', K w' → w'.cell? ⟨bs, 0, none⟩ = some (.pointer (some ⟨a, 0, none⟩)) ∧ w'.cell? ⟨bt, 0, none⟩ = some (.slice (some ⟨b, off, none⟩) tl.length tc) ∧ w'.cell? ⟨b, off + x, none⟩ = some (.int .i64 tl[x]) := fun w' hw' => by
      obtain ⟨e0, e1, e2⟩ := HKK.out w' hw'
      obtain ⟨_, _, e3, _, _, e4⟩ := e2.open
      simp only [Value.slice.injEq] at e3
      obtain ⟨rfl, _, _⟩ := e3
      obtain ⟨b', off', e5, _, e6⟩ := e4 x hlt
      simp only [Option.some.injEq, Addr.mk.injEq] at e5
      obtain ⟨rfl, rfl, _⟩ := e5
      exact ⟨e0, e1, e6 x hlt⟩
    have HS := hide (show mapG tl x y = if isVal tl[x] = true then some tl[x] else none by simp [mapG, List.getElem?_eq_getElem hlt])
    clear hcell hc hi
    generalize tl[x] = v at c2 HS hk3
    have HK3 := hide hk3
    clear hk3
    go_enter Try.func102, Try.ntmps102
    go_wp2_with fail
    have kd : Same w w.drew := Keeps.drew (Keeps.refl (fun _ => True) w)
    refine wp_region_plan (.take 0 (.take 1 (.take 2 (.take 3 (.take 4 (.one 5 (.take 6 .done))))))) K (by kernel_rfl) (by kernel_rfl) (HKP.out _ (Grew.under H.out kd)) ?_
    iterate 5
      (apply pl_take
       case ho => rfl
       case hw => rfl
       case hv =>
         intro w' hw'
         obtain ⟨z0, z1, z2⟩ := HK3.out w' hw'
         go_simp
         exact rfl
       go_simp)
    refine pl_one (up_do rfl rfl fun K1 hK1 => ?_)
    go_simp
    refine storeLeaf (H.out.same kd) _ hlen ?_; rintro e w1 rfl s1 g1
    have g2 := (Grew.under H.out kd).trans g1
    refine hK1 K _ _ (HKP.out _ g2) (fun _ h => h) ?_
    clear hK1 K1
    have HF := hide (HR.out _ w1 _ _ rfl s1 g2 (leafA_pre L _) (leafA_len L _) (leafA_ans HS.out))
    clear s1 g1 g2
    apply pl_take
    case ho => rfl
    case hw => rfl
    case hv => intro w' hw'; go_simp; exact rfl
    go_simp
    refine pl_done ?_
    go_wp2_with fail
    exact HF.out
  · have hn : mapG tl x y = none := by simp [mapG, List.getElem?_eq_none (Nat.le_of_not_lt hlt)]
    have HF := hide (HR.out _ w L (-1) rfl H.out (Grew.refl _ _) List.prefix_rfl (by omega) (.inr ⟨hn, rfl⟩))
    clear hn hcell hi
    go_enter Try.func102, Try.ntmps102
    go_wp2_with fail
    exact HF.out

/-- What Both answers. -/
def BothAns (L L' : List Nd) (f g k r : Int) : Prop :=
  L <+: L' ∧ L'.length ≤ L.length + 128 ∧
  ((0 ≤ f ∧ f < L.length ∧ 0 ≤ g ∧ g < L.length ∧ 1 ≤ k ∧ k ≤ 1048576 ∧ PairAns L' (bothG k) f.toNat g.toNat r) ∨ (¬ (0 ≤ f ∧ f < L.length ∧ 0 ≤ g ∧ g < L.length ∧ 1 ≤ k ∧ k ≤ 1048576) ∧ r = -1 ∧ L' = L))

theorem ints_nil (w : World) : IntsAt w (.slice none 0 0) [] := ⟨⟨none, 0, rfl, by simp, by unfold maxLen; omega, .inl rfl⟩, by simp⟩

/-- A maker that is new. -/
def mkOf (a F : Nat) (caps : Array Value) (m mb : Nat) : Nat × Array Value × TypeId := (mb, #[.pointer (some ⟨a, 0, none⟩), .func (.func F) #[] caps, .map (some m)], 124)

theorem pairStart {F m mb : Nat} {caps : Array Value} {G : Int → Int → Option Int} {bs : List (Nat × Array Value × TypeId)} {tv : Value} {tl : List Int} {f g : Nat}
    (h : StoreAt w a T L) (hbs : ∀ p ∈ bs, w.heap[p.1]? = some (.cells p.2.1 p.2.2 (0, 0)) ∧ p.2.2 ≠ 92 ∧ p.2.2 ≠ 99) (hi : IntsAt w tv tl) (hoff : ∀ b, live tv = some b → ¬ Foot w a b)
    (hm : m = w.heap.size) (hmb : mb = w.heap.size + 1)
    (hL : LeafFn (Stand a m (mkOf a F caps m mb :: bs) tv tl) G a T F caps) (hcf : ∀ args w, (callFunc F args).run Try.prog w = .ok (.enter F args) w)
    (hf : f < L.length) (hg : g < L.length) (hb : L.length + 128 ≤ 1099511627776)
    (hR : ∀ e w' r L', e = .returned (.int .i64 r) → StoreAt w' a T L' → Grew a w w' → L <+: L' → L'.length ≤ L.length + 128 → PairAns L' G f g r → R e w') :
    Calls Try.prog 103 #[.pointer (some ⟨mb, 0, none⟩), .int .i64 f, .int .i64 g]
      ((w.alloc (.map #[] 0)).alloc (.cells #[.pointer (some ⟨a, 0, none⟩), .func (.func F) #[] caps, .map (some m)] 124)) R := by
  subst hm hmb
  have h6 := h.wf.six
  have e1 : (w.alloc (.map #[] 0)).heap.size = w.heap.size + 1 := by simp
  have n1 := heap_new w (.map #[] 0)
  have n2 := heap_new (w.alloc (.map #[] 0)) (.cells #[.pointer (some ⟨a, 0, none⟩), .func (.func F) #[] caps, .map (some w.heap.size)] 124)
  have n1' : ((w.alloc (.map #[] 0)).alloc (.cells #[.pointer (some ⟨a, 0, none⟩), .func (.func F) #[] caps, .map (some w.heap.size)] 124)).heap[w.heap.size]? = some (.map #[] 0) := by
    rw [Below.heap_alloc _ _ _ (by rw [e1]; omega)]; exact n1
  rw [e1] at n2
  have ka : Same w ((w.alloc (.map #[] 0)).alloc (.cells #[.pointer (some ⟨a, 0, none⟩), .func (.func F) #[] caps, .map (some w.heap.size)] 124)) := ((Keeps.refl _ w).alloc _).alloc _
  generalize (w.alloc (.map #[] 0)).alloc (.cells #[.pointer (some ⟨a, 0, none⟩), .func (.func F) #[] caps, .map (some w.heap.size)] 124) = w4 at n1' n2 ka ⊢
  have hfoot : ∀ b, Foot w4 a b ↔ Foot w a b := by
    obtain ⟨v, m', e1, _⟩ := h.st
    exact foot_same ((ka.at e1 trivial).trans e1.symm)
  have hs4 := h.same ka
  have hst : Stand a w.heap.size (mkOf a F caps w.heap.size (w.heap.size + 1) :: bs) tv tl w4 := by
    refine ⟨fun p hp => ?_, hi.same ka, fun b hb => ⟨fun hh => hoff b hb ((hfoot b).1 hh), by have := hi.lt b hb; omega⟩⟩
    rcases List.mem_cons.1 hp with rfl | hp
    · exact ⟨n2, not_foot hs4 n2 (by decide) (by decide), by simp [mkOf]⟩
    · obtain ⟨c1, c2, c3⟩ := hbs p hp
      have c4 := ka.at c1 trivial
      exact ⟨c4, not_foot hs4 c4 c2 c3, by have := heap_lt c1; omega⟩
  have h128 : 2 ^ (T - 0 + 1) ≤ 128 := Nat.le_trans (Nat.pow_le_pow_right (by decide) (show T - 0 + 1 ≤ 7 by omega)) (by decide)
  refine pairNode (Stand.safe _ _ _) hL (fun w hw => (hw.cells _ (List.mem_cons_self ..)).1) hcf _ f g 0 L [] w4 R rfl
    ⟨hs4, ⟨#[], 0, n1', rfl⟩, fun hh => by have := foot_old h ((hfoot _).1 hh); omega, fun p hp => (by cases hp), hst⟩ hf hg (fun _ _ _ _ => Nat.zero_le _) (fun _ _ _ _ => Nat.zero_le _) (Nat.zero_le _) (by omega) ?_
  rintro e w' r L' A' rfl ps p x n t
  refine hR _ _ r L' rfl ps.st ⟨ka.trans t.keeps (fun x hx hn => ⟨trivial, fun hh => hn ((hfoot x).1 hh), by omega⟩), fun b hb => ?_⟩ p (by omega) x
  rcases t.foot b hb with h1 | h1
  · exact .inl ((hfoot b).1 h1)
  · exact .inr (Nat.le_trans ka.size h1)

/-- What Map answers. -/
def MapAns (L L' : List Nd) (f : Int) (tl : List Int) (r : Int) : Prop :=
  L <+: L' ∧ L'.length ≤ L.length + 128 ∧
  ((0 ≤ f ∧ f < L.length ∧ PairAns L' (mapG tl) f.toNat f.toNat r) ∨ (¬ (0 ≤ f ∧ f < L.length) ∧ r = -1 ∧ L' = L))

set_option maxRecDepth 10000 in
set_option maxHeartbeats 4000000 in
theorem pairMap {tv : Value} {tl : List Int} (h : StoreAt w a T L) (f : Int) (hi : IntsAt w tv tl) (hoff : ∀ b, live tv = some b → ¬ Foot w a b) (hb : L.length + 128 ≤ 1099511627776)
    (hR : ∀ e w' r L', e = .returned (.int .i64 r) → StoreAt w' a T L' → Grew a w w' → MapAns L L' f tl r → R e w') :
    Calls Try.prog 97 #[.pointer (some ⟨a, 0, none⟩), .int .i64 f, tv] w R := by
  have HR := hide hR
  clear hR
  obtain ⟨ta, tc, rfl, ht1, ht2, _⟩ := hi.open
  have HI := hide hi
  have HOFF := hide hoff
  clear hi hoff
  have kb : Same w ((w.alloc (.cells #[.pointer (some ⟨a, 0, none⟩)] 62)).alloc (.cells #[.slice ta tl.length tc] 42)) := ((Keeps.refl _ w).alloc _).alloc _
  have bb1 : ((w.alloc (.cells #[.pointer (some ⟨a, 0, none⟩)] 62)).alloc (.cells #[.slice ta tl.length tc] 42)).heap[w.heap.size]? = some (.cells #[.pointer (some ⟨a, 0, none⟩)] 62 (0, 0)) := by
    rw [Below.heap_alloc _ _ _ (by simp)]; exact heap_new _ _
  have bb2 := heap_new (w.alloc (.cells #[.pointer (some ⟨a, 0, none⟩)] 62)) (.cells #[.slice ta tl.length tc] 42)
  have e1 : (w.alloc (.cells #[.pointer (some ⟨a, 0, none⟩)] 62)).heap.size = w.heap.size + 1 := by simp
  have e2 : ((w.alloc (.cells #[.pointer (some ⟨a, 0, none⟩)] 62)).alloc (.cells #[.slice ta tl.length tc] 42)).heap.size = w.heap.size + 1 + 1 := by simp
  rw [e1] at bb2
  have c1 := cell_at bb1 0
  have c2 := cell_at bb2 0
  simp only [List.getElem?_toArray, List.getElem?_cons_zero] at c1 c2
  have hfoot : ∀ b, Foot ((w.alloc (.cells #[.pointer (some ⟨a, 0, none⟩)] 62)).alloc (.cells #[.slice ta tl.length tc] 42)) a b ↔ Foot w a b := by
    obtain ⟨v, m', e1, _⟩ := h.st
    exact foot_same ((kb.at e1 trivial).trans e1.symm)
  have HFO := hide hfoot
  have B1 := hide bb1
  have B2 := hide bb2
  have E2 := hide e2
  have KB := hide kb
  clear bb1 bb2 e1 e2 hfoot
  have hmm := @run_makeMap Try.prog
  have h1 := h.same kb
  have GKB := hide (Grew.under h kb)
  have H := hide h
  clear h kb
  by_cases hf : 0 ≤ f ∧ f < L.length
  · have hB : decide (0 ≤ f ∧ f < L.length) = true := decide_eq_true hf
    obtain ⟨f, rfl⟩ := Int.eq_ofNat_of_zero_le hf.1
    have HF0 := hide hf
    clear hf
    go_enter Try.func97, Try.ntmps97
    go_wp2_with fail
    refine pairIs h1 f ?_; rw [hB]; rintro e rfl
    go_wp2_with fail
    refine pairStart (F := 102) (caps := #[.pointer (some ⟨w.heap.size + 1, 0, none⟩), .pointer (some ⟨w.heap.size, 0, none⟩)]) (G := mapG tl) (f := f) (g := f) h1 (bs := [(w.heap.size, #[.pointer (some ⟨a, 0, none⟩)], 62), (w.heap.size + 1, #[.slice ta tl.length tc], 42)]) ?_ (HI.out.same KB.out) (fun b hb hh => HOFF.out b hb ((HFO.out b).1 hh)) ?_ ?_ ?_ callFunc_map (by have := HF0.out; omega) (by have := HF0.out; omega) hb ?_
    · intro p hp
      simp only [List.mem_cons, List.not_mem_nil, or_false] at hp
      rcases hp with rfl | rfl
      · exact ⟨B1.out, by simp, by simp⟩
      · exact ⟨B2.out, by simp, by simp⟩
    · exact E2.out.symm
    · rw [E2.out]
    · refine mapLeaf fun wx hw => ⟨?_, ?_, hw.ints⟩
      · have hc := (hw.cells (w.heap.size, #[.pointer (some ⟨a, 0, none⟩)], 62) (by simp)).1
        exact (cell_at hc 0).trans rfl
      · have hc := (hw.cells (w.heap.size + 1, #[.slice ta tl.length tc], 42) (by simp)).1
        exact (cell_at hc 0).trans rfl
    · rintro e w1 r L1 rfl s1 g1 p1 n1 x1
      have HF := hide (HR.out _ w1 r L1 rfl s1 (GKB.out.trans g1) ⟨p1, n1, .inl ⟨HF0.out.1, HF0.out.2, by simpa using x1⟩⟩)
      clear s1 g1 p1 n1 x1
      go_wp2_with fail
      exact HF.out
  · have hB : decide (0 ≤ f ∧ f < L.length) = false := decide_eq_false hf
    have HF := hide (HR.out _ _ (-1) L rfl h1 GKB.out ⟨List.prefix_rfl, by omega, .inr ⟨hf, rfl, rfl⟩⟩)
    clear hf
    go_enter Try.func97, Try.ntmps97
    go_wp2_with fail
    refine pairIs h1 f ?_; rw [hB]; rintro e rfl
    go_wp2_with fail
    exact HF.out

end Go.Proofs.Ytgpgbkoaopfjkaa
