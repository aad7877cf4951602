/- The walk of sibylref14.Add. -/
import Derived.Test.YtbmpnfibebiaeaaLookLaw
import Derived.Test.YtbmpnfibebiaeaaPkB
namespace Go.Proofs.Ytbmpnfibebiaeaa
open Go.RowKit

attribute [local irreducible] wpQuiet wpPlan wpPlanZ wpUp

variable {R : Ending → World → Prop} {w : World}

/-- A number put in its place. -/
theorem ins_rise {l : List Int} {x : Int} {k : Nat} (h : l.Pairwise (· < ·)) (hlt : ∀ j y, j < k → l[j]? = some y → y < x) (hge : ∀ y, l[k]? = some y → x < y) :
    (l.take k ++ [x] ++ l.drop k).Pairwise (· < ·) ∧ x ∉ l ∧ ∀ y, y ∈ l.take k ++ [x] ++ l.drop k ↔ y = x ∨ y ∈ l := by
  rw [List.append_assoc]
  have ht : ∀ y ∈ l.take k, y < x := fun y hy => by
    obtain ⟨j, hj⟩ := List.getElem?_of_mem hy
    rw [List.getElem?_take] at hj
    split at hj
    · rename_i hjk; exact hlt j y hjk hj
    · cases hj
  have hd : ∀ y ∈ l.drop k, x < y := fun y hy => by
    have hk : k < l.length := by
      apply Classical.byContradiction; intro hno
      rw [List.drop_of_length_le (by omega)] at hy; simp at hy
    have h0 := hge _ (List.getElem?_eq_getElem hk)
    rw [List.drop_eq_getElem_cons hk] at hy
    rcases List.mem_cons.1 hy with rfl | hy
    · exact h0
    · have hp : (l.drop k).Pairwise (· < ·) := h.sublist (List.drop_sublist ..)
      rw [List.drop_eq_getElem_cons hk, List.pairwise_cons] at hp
      have := hp.1 y hy
      omega
  refine ⟨?_, fun hx => ?_, fun y => ?_⟩
  · rw [List.pairwise_append]
    refine ⟨h.sublist (List.take_sublist ..), ?_, fun a ha b hb => ?_⟩
    · rw [List.singleton_append, List.pairwise_cons]
      exact ⟨hd, h.sublist (List.drop_sublist ..)⟩
    · have := ht a ha
      rw [List.singleton_append] at hb
      rcases List.mem_cons.1 hb with rfl | hb
      · exact this
      · have := hd b hb; omega
  · rw [← List.take_append_drop k l] at hx
    rcases List.mem_append.1 hx with hx | hx
    · have := ht x hx; omega
    · have := hd x hx; omega
  · conv => rhs; rhs; rw [← List.take_append_drop k l]
    simp only [List.mem_append, List.mem_singleton]
    constructor
    · rintro (h | h | h)
      · exact .inr (.inl h)
      · exact .inl h
      · exact .inr (.inr h)
    · rintro (h | h | h)
      · exact .inr (.inl h)
      · exact .inl h
      · exact .inr (.inr h)

theorem IntsAt.take1 {v : Value} {l : List Int} (h : IntsAt w v l) (k : Nat) (hk : k ≤ l.length) : ∃ a c, v = .slice a l.length c ∧ IntsAt w (.slice a k c) (l.take k) := by
  obtain ⟨⟨a, c, rfl, h1, h2, h3⟩, h4⟩ := h
  simp only [List.length_map] at *
  refine ⟨a, c, rfl, ⟨a, c, by simp [Nat.min_eq_left hk], by simp; omega, h2, ?_⟩, fun x hx => h4 x (List.mem_of_mem_take hx)⟩
  rcases h3 with h3 | ⟨b, off, cur, e, fr, rfl, h5, h6⟩
  · left; simp at h3; simp [h3]
  · refine .inr ⟨b, off, cur, e, fr, rfl, h5, fun i x hx => h6 i x ?_⟩
    rw [List.map_take, List.getElem?_take] at hx
    split at hx
    · exact hx
    · cases hx

theorem IntsAt.drop1 {a : Option Addr} {n c : Nat} {l : List Int} (h : IntsAt w (.slice a n c) l) (k : Nat) (hk : k ≤ n) : IntsAt w (.slice (if c = k then a else a.map (·.add k)) (n - k) (c - k)) (l.drop k) := by
  obtain ⟨⟨a', c', e, h1, h2, h3⟩, h4⟩ := h
  simp only [Value.slice.injEq, List.length_map] at e
  obtain ⟨rfl, rfl, rfl⟩ := e
  simp only [List.length_map] at h1
  refine ⟨⟨if c = k then a else a.map (·.add k), c - k, by simp, by simp; omega, by omega, ?_⟩, fun x hx => h4 x (List.mem_of_mem_drop hx)⟩
  by_cases e : l.drop k = []
  · left; simp [e]
  · right
    rcases h3 with h3 | ⟨b, off, cur, ee, fr, rfl, h5, h6⟩
    · simp at h3; subst h3; simp at e
    · have hlt : k < l.length := by
        rcases Nat.lt_or_ge k l.length with h | h
        · exact h
        · exact absurd (List.drop_of_length_le h) e
      have hadd : (Addr.mk b off none).add k = ⟨b, off + k, none⟩ := by
        unfold Addr.add
        split
        · rename_i h0; subst h0; rfl
        · rfl
      refine ⟨b, off + k, cur, _, fr, by rw [if_neg (by omega)]; simp [hadd], h5, fun i x hx => ?_⟩
      rw [List.map_drop, List.getElem?_drop] at hx
      rw [Nat.add_assoc]
      exact h6 (k + i) x hx

/-- 'append(s, u...)' of ints, s the call's own. -/
theorem append_all {B : Nat} {v u : Value} {l m : List Int} (hown : OwnInts w B v l) (hu : IntsAt w u m) (hB : B ≤ w.heap.size) (hn : l.length + m.length ≤ 2199023255552) :
    ∃ v' w', (Builtin.append_ #[37, 37] 37 #[v, u]).run Try.prog w = .ok v' w' ∧ OwnInts w' B v' (l ++ m) ∧ Keeps (fun b => v.ownBlock ≠ some b) w w' ∧ (v'.ownBlock = v.ownBlock ∨ v'.ownBlock = some w.heap.size) := by
  obtain ⟨v', w', h1, h2, h3, h4⟩ := append_slice (t := 37) (e := 3) (l := l.map (Value.int .i64)) (m := m.map (Value.int .i64)) Try.underlying37 int_info rfl (by decide) (by rw [List.length_map]; exact hown) hu.1 (by intro x hx; obtain ⟨y, _, rfl⟩ := List.mem_map.1 hx; rfl) hB (by simpa using hn)
  refine ⟨v', w', h1, ?_, h3, h4⟩
  unfold OwnInts
  simpa using h2

theorem own_live {B : Nat} {v : Value} {l : List Int} (h : OwnInts w B v l) {b : Nat} (hb : live v = some b) : B ≤ b := by
  rcases h.2 with ⟨rfl, h0⟩ | ⟨g, cap, cur, e, hB, _⟩
  · simp [live] at hb
  · subst e
    have hs := h.shape
    cases hl : l.length with
    | zero => rw [hl] at hb; simp [live] at hb
    | succ n => rw [hl] at hb; simp [live] at hb; omega

theorem own_none (w : World) {B : Nat} (hB : B ≤ w.heap.size) : OwnInts (w.alloc (.cells #[] 3)) B (.slice (some ⟨w.heap.size, 0, none⟩) 0 0) [] := own_nil w 3 hB

set_option maxRecDepth 10000 in
set_option maxHeartbeats 4000000 in
theorem refAdd {v : Value} {l : List Int} {x : Int} (hv : IntsAt w v l) (hl : l.length ≤ 1000) (hrise : l.Pairwise (· < ·)) (hx : 0 ≤ x ∧ x ≤ 100000)
    (hR : ∀ e w' u l' b, b = (!decide (x ∈ l)) → e = .returned (.tuple #[u, .bool b]) → IntsAt w' u l' → l'.Pairwise (· < ·) → (∀ y, y ∈ l' ↔ y = x ∨ y ∈ l) → l'.length ≤ l.length + 1 → (∀ b, live u = some b → live v = some b ∨ w.heap.size ≤ b) → Same w w' → R e w') :
    Calls Try.prog 30 #[v, .int .i64 x] w R := by
  obtain ⟨a, c, rfl, hc1, hc2, hcell⟩ := hv.open
  have HR : Hid (∀ e w' u l' b, b = (!decide (x ∈ l)) → e = .returned (.tuple #[u, .bool b]) → IntsAt w' u l' → l'.Pairwise (· < ·) → (∀ y, y ∈ l' ↔ y = x ∨ y ∈ l) → l'.length ≤ l.length + 1 → (∀ b, live u = some b → live (.slice a l.length c) = some b ∨ w.heap.size ≤ b) → Same w w' → R e w') := hide hR
  have HRISE := hide hrise
  have HV := hide hv
  have HC := hide hcell
  obtain ⟨hx0, hx1⟩ := hx
  clear hR hrise hcell hv
  unfold maxLen at hc2
  go_enter Try.func30, Try.ntmps30
  go_wp2_with fail
  go_loopw [6] (fun i wr => ∃ k : Nat, i = .int .i64 k ∧ k ≤ l.length ∧ Hid (∀ j y, j < k → l[j]? = some y → y < x) ∧ wr = w) (fun i _ => l.length - (intOf i).toNat)
  case atStart => exact ⟨0, rfl, Nat.zero_le _, hide (fun j y hj _ => absurd hj (Nat.not_lt_zero _)), rfl⟩
  case round =>
    obtain ⟨k, rfl, hk, hall, hwr⟩ := hrel
    have hwr := hwr.symm
    subst hwr
    by_cases hlt : k < l.length
    · obtain ⟨b, off, rfl, _, hcl⟩ := HC.out k hlt
      have hck := hcl k hlt
      obtain ⟨y, hy⟩ : ∃ y, y = l[k] := ⟨_, rfl⟩
      have HY : Hid (l[k]? = some y) := hide (by rw [hy]; exact List.getElem?_eq_getElem hlt)
      rw [← hy] at hck
      clear hcl hy
      by_cases hyx : y < x
      · have HYX := hide hyx
        go_wp2_with fail
        go_roundw
        case rel => exact ⟨k + 1, by go_num, by omega, hide (fun j z hj hz => by
          by_cases e : j = k
          · subst e; rw [HY.out] at hz; obtain rfl := Option.some.inj hz; exact HYX.out
          · exact hall.out j z (by omega) hz), by first | rfl | trivial⟩
        case measure => simp [intOf]; omega
      · by_cases hye : y = x
        · subst hye
          have HMM := hide (List.mem_of_getElem? HY.out)
          go_wp2_with fail
          exact HR.out _ _ _ l false (by simpa using HMM.out) rfl HV.out HRISE.out (fun z => ⟨.inr, fun h => h.elim (fun e => e ▸ HMM.out) id⟩) (Nat.le_succ _) (fun _ hb => .inl hb) (Keeps.refl _ _)
        · have HINS := hide (ins_rise HRISE.out hall.out (fun z hz => by rw [HY.out] at hz; obtain rfl := Option.some.inj hz; omega))
          have HNR := hide HINS.out.1
          have HNX0 : Hid (true = (!decide (x ∈ l))) := hide (by simpa using HINS.out.2.1)
          have HNM := hide HINS.out.2.2
          have HNX : Hid ((l.take k ++ [x] ++ l.drop k).length ≤ l.length + 1) := hide (by simp <;> omega)
          have HXB : Hid (InI64 x) := hide (by unfold InI64; omega)
          have HNB : Hid (∀ y ∈ l.take k ++ [x] ++ l.drop k, InI64 y) := hide (fun y hy => by
            rcases (HNM.out y).1 hy with rfl | hy
            · exact HXB.out
            · exact HV.out.2 y hy)
          obtain ⟨_, _, e1, hTk⟩ := HV.out.take1 k (by omega)
          simp only [Value.slice.injEq] at e1
          obtain ⟨rfl, _, rfl⟩ := e1
          have HTk := hide hTk
          have HDk := hide (HV.out.drop1 k (by omega))
          have hkc : k ≤ c := by omega
          clear hTk hall
          go_wp2_with fail
          refine wp_region_plan (.take 1 (.take 2 (.take 3 (.take 5 (.take 8 (.take 9 (.take 10 (.two 0 6 (.two 4 6 (.one 6 (.one 7 (.one 11 (.one 12 (.one 13 .done))))) (.one 4 (.one 7 (.one 11 (.one 12 (.one 13 .done)))))) (.one 0 (.one 4 (.one 7 (.one 11 (.one 12 (.one 13 .done)))))))))))))) (Same w) (by kernel_rfl) (by kernel_rfl) (Keeps.drew (Keeps.refl (fun _ => True) w)) ?_
          iterate 7
            (apply pl_take
             case ho => rfl
             case hw => rfl
             case hv =>
               intro w' hw'
               go_simp
               exact rfl
             go_simp)
          refine pl_two ?_ ?_
          · (apply up_do
             case ho => rfl
             case hw => rfl
             intro K hK1
             go_simp
             refine hK1 (Same w) _ _ ((Keeps.drew (Keeps.refl (fun _ => True) w)).alloc (.cells #[] 3)) (fun _ h => h) ?_
             clear hK1 K
             go_simp)
            refine pl_two ?_ ?_
            · obtain ⟨v1, x1, r1, o1, g1, a1⟩ := append_all (own_none w.drew (B := w.heap.size) (Nat.le_refl _)) (HTk.out.same ((Keeps.drew (Keeps.refl (fun _ => True) w)).alloc (.cells #[] 3))) ((Keeps.drew (Keeps.refl (fun _ => True) w)).alloc (.cells #[] 3)).size (by simp; omega)
              have k1 : Same w x1 := ((Keeps.drew (Keeps.refl (fun _ => True) w)).alloc (.cells #[] 3)).trans g1 fun z hz _ => ⟨trivial, by simp [Value.ownBlock]; omega⟩
              refine up_append _ _ _ rfl rfl rfl ?hs ?hx r1 (Same w) k1 (fun _ h => h) ?_
              case hs => rfl
              case hx => first | rfl | (go_simp; done) | (trace_state; fail)
              go_simp
              refine pl_one ?_
              (apply up_do
               case ho => rfl
               case hw => rfl
               intro K hK1
               go_simp
               refine hK1 (Same w) _ _ (k1.alloc (.cells #[.int .i64 x] 3)) (fun _ h => h) ?_
               clear hK1 K
               go_simp)
              have ks := k1.alloc (.cells #[.int .i64 x] 3)
              have hov := (show OwnInts x1 w.heap.size v1 (l.take k) by simpa using o1).keep (S := fun _ => True) ((Keeps.refl _ x1).alloc (.cells #[.int .i64 x] 3)) (fun _ _ => trivial)
              have hxv : IntsAt (x1.alloc (.cells #[.int .i64 x] 3)) (.slice (some ⟨x1.heap.size, 0, none⟩) 1 1) [x] := ints_of_block (heap_new x1 (.cells #[.int .i64 x] 3)) [x] rfl (by simpa using HXB.out) rfl (Nat.le_refl _) (by decide)
              clear r1 o1 g1 a1 k1
              refine pl_one ?_
              obtain ⟨v2, x2, r2, o2, g2, a2⟩ := append_all hov hxv ks.size (by simp; omega)
              have ks2 : Same w x2 := ks.trans g2 fun z hz _ => ⟨trivial, fun e => by have := (hov.low e).1; omega⟩
              refine up_append _ _ _ rfl rfl rfl ?hs ?hx r2 (Same w) ks2 (fun _ h => h) ?_
              case hs => rfl
              case hx => first | rfl | (go_simp; done) | (trace_state; fail)
              go_simp
              refine pl_one ?_
              obtain ⟨v3, x3, r3, o3, g3, a3⟩ := append_all o2 (HDk.out.same ks2) ks2.size (by simp; omega)
              have ks3 : Same w x3 := ks2.trans g3 fun z hz _ => ⟨trivial, fun e => by have := (o2.low e).1; omega⟩
              refine up_append _ _ _ rfl rfl rfl ?hs ?hx r3 (Same w) ks3 (fun _ h => h) ?_
              case hs => rfl
              case hx => first | rfl | (go_simp; done) | (trace_state; fail)
              go_simp
              iterate 2
                (refine pl_one ?_
                 apply up_do
                 case ho => rfl
                 case hw => rfl
                 intro K hK1
                 go_simp
                 refine hK1 (Same w) _ _ ks3 (fun _ h => h) ?_
                 clear hK1 K
                 go_simp)
              refine pl_done ?_
              have HF := hide (And.intro o3 ks3)
              clear r2 r3 o2 o3 g2 g3 a2 a3 ks ks2 ks3 hov hxv
              go_wp2_with fail
              all_goals exact HR.out _ _ _ _ _ HNX0.out rfl (HF.out.1.ints HNB.out) HNR.out HNM.out HNX.out (fun _ hb => .inr (own_live HF.out.1 hb)) HF.out.2
            · (apply up_do
               case ho => rfl
               case hw => rfl
               intro K hK1
               go_simp
               refine hK1 (Same w) _ _ (((Keeps.drew (Keeps.refl (fun _ => True) w)).alloc (.cells #[] 3)).alloc (.cells #[.int .i64 x] 3)) (fun _ h => h) ?_
               clear hK1 K
               go_simp)
              obtain ⟨v1, x1, r1, o1, g1, a1⟩ := append_all (((own_none w.drew (B := w.heap.size) (Nat.le_refl _))).keep (S := fun _ => True) ((Keeps.refl _ _).alloc (.cells #[.int .i64 x] 3)) (fun _ _ => trivial)) (HTk.out.same (((Keeps.drew (Keeps.refl (fun _ => True) w)).alloc (.cells #[] 3)).alloc (.cells #[.int .i64 x] 3))) (((Keeps.drew (Keeps.refl (fun _ => True) w)).alloc (.cells #[] 3)).alloc (.cells #[.int .i64 x] 3)).size (by simp; omega)
              have ks : Same w x1 := (((Keeps.drew (Keeps.refl (fun _ => True) w)).alloc (.cells #[] 3)).alloc (.cells #[.int .i64 x] 3)).trans g1 fun z hz _ => ⟨trivial, by simp [Value.ownBlock]; omega⟩
              refine pl_one ?_
              refine up_append _ _ _ rfl rfl rfl ?hs ?hx r1 (Same w) ks (fun _ h => h) ?_
              case hs => rfl
              case hx => first | rfl | (go_simp; done) | (trace_state; fail)
              go_simp
              have hov : OwnInts x1 w.heap.size v1 (l.take k) := by simpa using o1
              have hxv := (ints_of_block (heap_new (w.drew.alloc (.cells #[] 3)) (.cells #[.int .i64 x] 3)) [x] rfl (by simpa using HXB.out) (n := 1) (c := 1) rfl (Nat.le_refl _) (by decide)).keep g1 (by intro b hb; simp [live] at hb; simp [Value.ownBlock]; omega)
              clear r1 o1 g1 a1

              refine pl_one ?_
              obtain ⟨v2, x2, r2, o2, g2, a2⟩ := append_all hov hxv ks.size (by simp; omega)
              have ks2 : Same w x2 := ks.trans g2 fun z hz _ => ⟨trivial, fun e => by have := (hov.low e).1; omega⟩
              refine up_append _ _ _ rfl rfl rfl ?hs ?hx r2 (Same w) ks2 (fun _ h => h) ?_
              case hs => rfl
              case hx => first | rfl | (go_simp; done) | (trace_state; fail)
              go_simp
              refine pl_one ?_
              obtain ⟨v3, x3, r3, o3, g3, a3⟩ := append_all o2 (HDk.out.same ks2) ks2.size (by simp; omega)
              have ks3 : Same w x3 := ks2.trans g3 fun z hz _ => ⟨trivial, fun e => by have := (o2.low e).1; omega⟩
              refine up_append _ _ _ rfl rfl rfl ?hs ?hx r3 (Same w) ks3 (fun _ h => h) ?_
              case hs => rfl
              case hx => first | rfl | (go_simp; done) | (trace_state; fail)
              go_simp
              iterate 2
                (refine pl_one ?_
                 apply up_do
                 case ho => rfl
                 case hw => rfl
                 intro K hK1
                 go_simp
                 refine hK1 (Same w) _ _ ks3 (fun _ h => h) ?_
                 clear hK1 K
                 go_simp)
              refine pl_done ?_
              have HF := hide (And.intro o3 ks3)
              clear r2 r3 o2 o3 g2 g3 a2 a3 ks ks2 ks3 hov hxv
              go_wp2_with fail
              all_goals exact HR.out _ _ _ _ _ HNX0.out rfl (HF.out.1.ints HNB.out) HNR.out HNM.out HNX.out (fun _ hb => .inr (own_live HF.out.1 hb)) HF.out.2
          · (apply up_do
             case ho => rfl
             case hw => rfl
             intro K hK1
             go_simp
             refine hK1 (Same w) _ _ ((Keeps.drew (Keeps.refl (fun _ => True) w)).alloc (.cells #[.int .i64 x] 3)) (fun _ h => h) ?_
             clear hK1 K
             go_simp)
            refine pl_one ?_
            (apply up_do
             case ho => rfl
             case hw => rfl
             intro K hK1
             go_simp
             refine hK1 (Same w) _ _ (((Keeps.drew (Keeps.refl (fun _ => True) w)).alloc (.cells #[.int .i64 x] 3)).alloc (.cells #[] 3)) (fun _ h => h) ?_
             clear hK1 K
             go_simp)
            have hoe := own_none (w.drew.alloc (.cells #[.int .i64 x] 3)) (B := w.heap.size) ((Keeps.drew (Keeps.refl (fun _ => True) w)).alloc (.cells #[.int .i64 x] 3)).size
            rw [show (w.drew.alloc (.cells #[.int .i64 x] 3)).heap.size = w.heap.size + 1 by simp] at hoe
            obtain ⟨v1, x1, r1, o1, g1, a1⟩ := append_all (hoe) (HTk.out.same (((Keeps.drew (Keeps.refl (fun _ => True) w)).alloc (.cells #[.int .i64 x] 3)).alloc (.cells #[] 3))) (((Keeps.drew (Keeps.refl (fun _ => True) w)).alloc (.cells #[.int .i64 x] 3)).alloc (.cells #[] 3)).size (by simp; omega)
            have ks : Same w x1 := (((Keeps.drew (Keeps.refl (fun _ => True) w)).alloc (.cells #[.int .i64 x] 3)).alloc (.cells #[] 3)).trans g1 fun z hz _ => ⟨trivial, by simp [Value.ownBlock]; omega⟩
            refine pl_one ?_
            refine up_append _ _ _ rfl rfl rfl ?hs ?hx r1 (Same w) ks (fun _ h => h) ?_
            case hs => rfl
            case hx => first | rfl | (go_simp; done) | (trace_state; fail)
            go_simp
            have hov : OwnInts x1 w.heap.size v1 (l.take k) := by simpa using o1
            have hxv := ((ints_of_block (heap_new w.drew (.cells #[.int .i64 x] 3)) [x] rfl (by simpa using HXB.out) (n := 1) (c := 1) rfl (Nat.le_refl _) (by decide)).same ((Keeps.refl _ _).alloc (.cells #[] 3))).keep g1 (by intro b hb; simp [live] at hb; simp [Value.ownBlock]; omega)
            clear r1 o1 g1 a1

            refine pl_one ?_
            obtain ⟨v2, x2, r2, o2, g2, a2⟩ := append_all hov hxv ks.size (by simp; omega)
            have ks2 : Same w x2 := ks.trans g2 fun z hz _ => ⟨trivial, fun e => by have := (hov.low e).1; omega⟩
            refine up_append _ _ _ rfl rfl rfl ?hs ?hx r2 (Same w) ks2 (fun _ h => h) ?_
            case hs => rfl
            case hx => first | rfl | (go_simp; done) | (trace_state; fail)
            go_simp
            refine pl_one ?_
            obtain ⟨v3, x3, r3, o3, g3, a3⟩ := append_all o2 (HDk.out.same ks2) ks2.size (by simp; omega)
            have ks3 : Same w x3 := ks2.trans g3 fun z hz _ => ⟨trivial, fun e => by have := (o2.low e).1; omega⟩
            refine up_append _ _ _ rfl rfl rfl ?hs ?hx r3 (Same w) ks3 (fun _ h => h) ?_
            case hs => rfl
            case hx => first | rfl | (go_simp; done) | (trace_state; fail)
            go_simp
            iterate 2
              (refine pl_one ?_
               apply up_do
               case ho => rfl
               case hw => rfl
               intro K hK1
               go_simp
               refine hK1 (Same w) _ _ ks3 (fun _ h => h) ?_
               clear hK1 K
               go_simp)
            refine pl_done ?_
            have HF := hide (And.intro o3 ks3)
            clear r2 r3 o2 o3 g2 g3 a2 a3 ks ks2 ks3 hov hxv
            go_wp2_with fail
            all_goals exact HR.out _ _ _ _ _ HNX0.out rfl (HF.out.1.ints HNB.out) HNR.out HNM.out HNX.out (fun _ hb => .inr (own_live HF.out.1 hb)) HF.out.2
    · obtain rfl : k = l.length := by omega
      have HINS := hide (ins_rise HRISE.out hall.out (fun z hz => by rw [List.getElem?_eq_none (Nat.le_refl _)] at hz; cases hz))
      cases a
      all_goals
        have HNR := hide HINS.out.1
        have HNX0 : Hid (true = (!decide (x ∈ l))) := hide (by simpa using HINS.out.2.1)
        have HNM := hide HINS.out.2.2
        have HNX : Hid ((l.take l.length ++ [x] ++ l.drop l.length).length ≤ l.length + 1) := hide (by simp <;> omega)
        have HXB : Hid (InI64 x) := hide (by unfold InI64; omega)
        have HNB : Hid (∀ y ∈ l.take l.length ++ [x] ++ l.drop l.length, InI64 y) := hide (fun y hy => by
          rcases (HNM.out y).1 hy with rfl | hy
          · exact HXB.out
          · exact HV.out.2 y hy)
        obtain ⟨_, _, e1, hTk⟩ := HV.out.take1 l.length (by omega)
        simp only [Value.slice.injEq] at e1
        obtain ⟨rfl, _, rfl⟩ := e1
        have HTk := hide hTk
        have HDk := hide (HV.out.drop1 l.length (by omega))
        have hkc : l.length ≤ c := by omega
        clear hTk hall
        go_wp2_with fail
        refine wp_region_plan (.take 1 (.take 2 (.take 3 (.take 5 (.take 8 (.take 9 (.take 10 (.two 0 6 (.two 4 6 (.one 6 (.one 7 (.one 11 (.one 12 (.one 13 .done))))) (.one 4 (.one 7 (.one 11 (.one 12 (.one 13 .done)))))) (.one 0 (.one 4 (.one 7 (.one 11 (.one 12 (.one 13 .done)))))))))))))) (Same w) (by kernel_rfl) (by kernel_rfl) (Keeps.drew (Keeps.refl (fun _ => True) w)) ?_
        iterate 7
          (apply pl_take
           case ho => rfl
           case hw => rfl
           case hv =>
             intro w' hw'
             go_simp
             exact rfl
           go_simp)
        refine pl_two ?_ ?_
        · (apply up_do
           case ho => rfl
           case hw => rfl
           intro K hK1
           go_simp
           refine hK1 (Same w) _ _ ((Keeps.drew (Keeps.refl (fun _ => True) w)).alloc (.cells #[] 3)) (fun _ h => h) ?_
           clear hK1 K
           go_simp)
          refine pl_two ?_ ?_
          · obtain ⟨v1, x1, r1, o1, g1, a1⟩ := append_all (own_none w.drew (B := w.heap.size) (Nat.le_refl _)) (HTk.out.same ((Keeps.drew (Keeps.refl (fun _ => True) w)).alloc (.cells #[] 3))) ((Keeps.drew (Keeps.refl (fun _ => True) w)).alloc (.cells #[] 3)).size (by simp; omega)
            have k1 : Same w x1 := ((Keeps.drew (Keeps.refl (fun _ => True) w)).alloc (.cells #[] 3)).trans g1 fun z hz _ => ⟨trivial, by simp [Value.ownBlock]; omega⟩
            refine up_append _ _ _ rfl rfl rfl ?hs ?hx r1 (Same w) k1 (fun _ h => h) ?_
            case hs => rfl
            case hx => first | rfl | (go_simp; done) | (trace_state; fail)
            go_simp
            refine pl_one ?_
            (apply up_do
             case ho => rfl
             case hw => rfl
             intro K hK1
             go_simp
             refine hK1 (Same w) _ _ (k1.alloc (.cells #[.int .i64 x] 3)) (fun _ h => h) ?_
             clear hK1 K
             go_simp)
            have ks := k1.alloc (.cells #[.int .i64 x] 3)
            have hov := (show OwnInts x1 w.heap.size v1 (l.take l.length) by simpa using o1).keep (S := fun _ => True) ((Keeps.refl _ x1).alloc (.cells #[.int .i64 x] 3)) (fun _ _ => trivial)
            have hxv : IntsAt (x1.alloc (.cells #[.int .i64 x] 3)) (.slice (some ⟨x1.heap.size, 0, none⟩) 1 1) [x] := ints_of_block (heap_new x1 (.cells #[.int .i64 x] 3)) [x] rfl (by simpa using HXB.out) rfl (Nat.le_refl _) (by decide)
            clear r1 o1 g1 a1 k1
            refine pl_one ?_
            obtain ⟨v2, x2, r2, o2, g2, a2⟩ := append_all hov hxv ks.size (by simp; omega)
            have ks2 : Same w x2 := ks.trans g2 fun z hz _ => ⟨trivial, fun e => by have := (hov.low e).1; omega⟩
            refine up_append _ _ _ rfl rfl rfl ?hs ?hx r2 (Same w) ks2 (fun _ h => h) ?_
            case hs => rfl
            case hx => first | rfl | (go_simp; done) | (trace_state; fail)
            go_simp
            refine pl_one ?_
            obtain ⟨v3, x3, r3, o3, g3, a3⟩ := append_all o2 (HDk.out.same ks2) ks2.size (by simp; omega)
            have ks3 : Same w x3 := ks2.trans g3 fun z hz _ => ⟨trivial, fun e => by have := (o2.low e).1; omega⟩
            refine up_append _ _ _ rfl rfl rfl ?hs ?hx r3 (Same w) ks3 (fun _ h => h) ?_
            case hs => rfl
            case hx => first | rfl | (go_simp; done) | (trace_state; fail)
            go_simp
            iterate 2
              (refine pl_one ?_
               apply up_do
               case ho => rfl
               case hw => rfl
               intro K hK1
               go_simp
               refine hK1 (Same w) _ _ ks3 (fun _ h => h) ?_
               clear hK1 K
               go_simp)
            refine pl_done ?_
            have HF := hide (And.intro o3 ks3)
            clear r2 r3 o2 o3 g2 g3 a2 a3 ks ks2 ks3 hov hxv
            go_wp2_with fail
            all_goals exact HR.out _ _ _ _ _ HNX0.out rfl (HF.out.1.ints HNB.out) HNR.out HNM.out HNX.out (fun _ hb => .inr (own_live HF.out.1 hb)) HF.out.2
          · (apply up_do
             case ho => rfl
             case hw => rfl
             intro K hK1
             go_simp
             refine hK1 (Same w) _ _ (((Keeps.drew (Keeps.refl (fun _ => True) w)).alloc (.cells #[] 3)).alloc (.cells #[.int .i64 x] 3)) (fun _ h => h) ?_
             clear hK1 K
             go_simp)
            obtain ⟨v1, x1, r1, o1, g1, a1⟩ := append_all (((own_none w.drew (B := w.heap.size) (Nat.le_refl _))).keep (S := fun _ => True) ((Keeps.refl _ _).alloc (.cells #[.int .i64 x] 3)) (fun _ _ => trivial)) (HTk.out.same (((Keeps.drew (Keeps.refl (fun _ => True) w)).alloc (.cells #[] 3)).alloc (.cells #[.int .i64 x] 3))) (((Keeps.drew (Keeps.refl (fun _ => True) w)).alloc (.cells #[] 3)).alloc (.cells #[.int .i64 x] 3)).size (by simp; omega)
            have ks : Same w x1 := (((Keeps.drew (Keeps.refl (fun _ => True) w)).alloc (.cells #[] 3)).alloc (.cells #[.int .i64 x] 3)).trans g1 fun z hz _ => ⟨trivial, by simp [Value.ownBlock]; omega⟩
            refine pl_one ?_
            refine up_append _ _ _ rfl rfl rfl ?hs ?hx r1 (Same w) ks (fun _ h => h) ?_
            case hs => rfl
            case hx => first | rfl | (go_simp; done) | (trace_state; fail)
            go_simp
            have hov : OwnInts x1 w.heap.size v1 (l.take l.length) := by simpa using o1
            have hxv := (ints_of_block (heap_new (w.drew.alloc (.cells #[] 3)) (.cells #[.int .i64 x] 3)) [x] rfl (by simpa using HXB.out) (n := 1) (c := 1) rfl (Nat.le_refl _) (by decide)).keep g1 (by intro b hb; simp [live] at hb; simp [Value.ownBlock]; omega)
            clear r1 o1 g1 a1

            refine pl_one ?_
            obtain ⟨v2, x2, r2, o2, g2, a2⟩ := append_all hov hxv ks.size (by simp; omega)
            have ks2 : Same w x2 := ks.trans g2 fun z hz _ => ⟨trivial, fun e => by have := (hov.low e).1; omega⟩
            refine up_append _ _ _ rfl rfl rfl ?hs ?hx r2 (Same w) ks2 (fun _ h => h) ?_
            case hs => rfl
            case hx => first | rfl | (go_simp; done) | (trace_state; fail)
            go_simp
            refine pl_one ?_
            obtain ⟨v3, x3, r3, o3, g3, a3⟩ := append_all o2 (HDk.out.same ks2) ks2.size (by simp; omega)
            have ks3 : Same w x3 := ks2.trans g3 fun z hz _ => ⟨trivial, fun e => by have := (o2.low e).1; omega⟩
            refine up_append _ _ _ rfl rfl rfl ?hs ?hx r3 (Same w) ks3 (fun _ h => h) ?_
            case hs => rfl
            case hx => first | rfl | (go_simp; done) | (trace_state; fail)
            go_simp
            iterate 2
              (refine pl_one ?_
               apply up_do
               case ho => rfl
               case hw => rfl
               intro K hK1
               go_simp
               refine hK1 (Same w) _ _ ks3 (fun _ h => h) ?_
               clear hK1 K
               go_simp)
            refine pl_done ?_
            have HF := hide (And.intro o3 ks3)
            clear r2 r3 o2 o3 g2 g3 a2 a3 ks ks2 ks3 hov hxv
            go_wp2_with fail
            all_goals exact HR.out _ _ _ _ _ HNX0.out rfl (HF.out.1.ints HNB.out) HNR.out HNM.out HNX.out (fun _ hb => .inr (own_live HF.out.1 hb)) HF.out.2
        · (apply up_do
           case ho => rfl
           case hw => rfl
           intro K hK1
           go_simp
           refine hK1 (Same w) _ _ ((Keeps.drew (Keeps.refl (fun _ => True) w)).alloc (.cells #[.int .i64 x] 3)) (fun _ h => h) ?_
           clear hK1 K
           go_simp)
          refine pl_one ?_
          (apply up_do
           case ho => rfl
           case hw => rfl
           intro K hK1
           go_simp
           refine hK1 (Same w) _ _ (((Keeps.drew (Keeps.refl (fun _ => True) w)).alloc (.cells #[.int .i64 x] 3)).alloc (.cells #[] 3)) (fun _ h => h) ?_
           clear hK1 K
           go_simp)
          have hoe := own_none (w.drew.alloc (.cells #[.int .i64 x] 3)) (B := w.heap.size) ((Keeps.drew (Keeps.refl (fun _ => True) w)).alloc (.cells #[.int .i64 x] 3)).size
          rw [show (w.drew.alloc (.cells #[.int .i64 x] 3)).heap.size = w.heap.size + 1 by simp] at hoe
          obtain ⟨v1, x1, r1, o1, g1, a1⟩ := append_all (hoe) (HTk.out.same (((Keeps.drew (Keeps.refl (fun _ => True) w)).alloc (.cells #[.int .i64 x] 3)).alloc (.cells #[] 3))) (((Keeps.drew (Keeps.refl (fun _ => True) w)).alloc (.cells #[.int .i64 x] 3)).alloc (.cells #[] 3)).size (by simp; omega)
          have ks : Same w x1 := (((Keeps.drew (Keeps.refl (fun _ => True) w)).alloc (.cells #[.int .i64 x] 3)).alloc (.cells #[] 3)).trans g1 fun z hz _ => ⟨trivial, by simp [Value.ownBlock]; omega⟩
          refine pl_one ?_
          refine up_append _ _ _ rfl rfl rfl ?hs ?hx r1 (Same w) ks (fun _ h => h) ?_
          case hs => rfl
          case hx => first | rfl | (go_simp; done) | (trace_state; fail)
          go_simp
          have hov : OwnInts x1 w.heap.size v1 (l.take l.length) := by simpa using o1
          have hxv := ((ints_of_block (heap_new w.drew (.cells #[.int .i64 x] 3)) [x] rfl (by simpa using HXB.out) (n := 1) (c := 1) rfl (Nat.le_refl _) (by decide)).same ((Keeps.refl _ _).alloc (.cells #[] 3))).keep g1 (by intro b hb; simp [live] at hb; simp [Value.ownBlock]; omega)
          clear r1 o1 g1 a1

          refine pl_one ?_
          obtain ⟨v2, x2, r2, o2, g2, a2⟩ := append_all hov hxv ks.size (by simp; omega)
          have ks2 : Same w x2 := ks.trans g2 fun z hz _ => ⟨trivial, fun e => by have := (hov.low e).1; omega⟩
          refine up_append _ _ _ rfl rfl rfl ?hs ?hx r2 (Same w) ks2 (fun _ h => h) ?_
          case hs => rfl
          case hx => first | rfl | (go_simp; done) | (trace_state; fail)
          go_simp
          refine pl_one ?_
          obtain ⟨v3, x3, r3, o3, g3, a3⟩ := append_all o2 (HDk.out.same ks2) ks2.size (by simp; omega)
          have ks3 : Same w x3 := ks2.trans g3 fun z hz _ => ⟨trivial, fun e => by have := (o2.low e).1; omega⟩
          refine up_append _ _ _ rfl rfl rfl ?hs ?hx r3 (Same w) ks3 (fun _ h => h) ?_
          case hs => rfl
          case hx => first | rfl | (go_simp; done) | (trace_state; fail)
          go_simp
          iterate 2
            (refine pl_one ?_
             apply up_do
             case ho => rfl
             case hw => rfl
             intro K hK1
             go_simp
             refine hK1 (Same w) _ _ ks3 (fun _ h => h) ?_
             clear hK1 K
             go_simp)
          refine pl_done ?_
          have HF := hide (And.intro o3 ks3)
          clear r2 r3 o2 o3 g2 g3 a2 a3 ks ks2 ks3 hov hxv
          go_wp2_with fail
          all_goals exact HR.out _ _ _ _ _ HNX0.out rfl (HF.out.1.ints HNB.out) HNR.out HNM.out HNX.out (fun _ hb => .inr (own_live HF.out.1 hb)) HF.out.2

end Go.Proofs.Ytbmpnfibebiaeaa
