/- The walks of prod.bit, prod.maker.id. -/
import Derived.Test.YtohhjdadhdibfaaPair
import Derived.Test.YtohhjdadhdibfaaMeter
import Derived.Test.YtohhjdadhdibfaaNumb
import Derived.Test.YtohhjdadhdibfaaPkB
namespace Go.Proofs.Ytohhjdadhdibfaa
open Go.RowKit

attribute [local irreducible] wpPlanZ wpPlan wpUp wpQuiet

variable {R : Ending → World → Prop} {w : World}

theorem pair_info : (Try.prog.info? 82).map (fun i => (i.zero, i.size, i.bytes)) = some (some (.agg #[.int .i64 0, .int .i64 0]), 2, 16) := by kernel_rfl

def pairCells (l : List (Int × Int)) : List Value := l.flatMap fun p => [.int .i64 p.1, .int .i64 p.2]

theorem pairCells_length (l : List (Int × Int)) : (pairCells l).length = l.length * 2 := by
  induction l with
  | nil => rfl
  | cons p l ih => unfold pairCells at ih ⊢; rw [List.flatMap_cons, List.length_append, ih]; simp; omega

theorem pairCells_snoc (l : List (Int × Int)) (p : Int × Int) : pairCells (l ++ [p]) = pairCells l ++ [.int .i64 p.1, .int .i64 p.2] := by simp [pairCells]

theorem pairCells_get : ∀ (l : List (Int × Int)) (k : Nat) (h : k < l.length), (pairCells l)[k * 2]? = some (.int .i64 (l[k]).1) ∧ (pairCells l)[k * 2 + 1]? = some (.int .i64 (l[k]).2)
  | [], k, h => absurd h (Nat.not_lt_zero _)
  | p :: l, 0, _ => by simp [pairCells]
  | p :: l, k + 1, h => by
    have ih := pairCells_get l k (by simpa using h)
    have e : pairCells (p :: l) = [.int .i64 p.1, .int .i64 p.2] ++ pairCells l := by simp [pairCells]
    rw [e, List.getElem?_append_right (by simp; omega), List.getElem?_append_right (by simp; omega)]
    simp only [List.length_cons, List.length_nil, List.getElem_cons_succ]
    rw [show (k + 1) * 2 - (0 + 1 + 1) = k * 2 by omega, show (k + 1) * 2 + 1 - (0 + 1 + 1) = k * 2 + 1 by omega]
    exact ih

/-- A slice of pairs, the call's own. -/
def OwnPairs (w : World) (B : Nat) (v : Value) (l : List (Int × Int)) : Prop := w.ownsRow B 82 2 v l.length (pairCells l)

theorem own_len {e : TypeId} {z B n : Nat} {v : Value} {xs : List Value} (h : w.ownsRow B e z v n xs) : n ≤ maxLen := by
  rcases h.2 with ⟨_, rfl⟩ | ⟨g, cap, cur, _, _, _, h1, h2, _⟩
  · exact Nat.zero_le _
  · exact Nat.le_trans h1 h2

/-- A pair more at the end. -/
theorem OwnPairs.push {B : Nat} {v : Value} {l : List (Int × Int)} (h : OwnPairs w B v l) (hB : B ≤ w.heap.size) (p : Int × Int) (hn : l.length + 1 ≤ 1000000) :
    ∃ g cap w', (Builtin.append_ #[78, 78] 78 #[v, .slice (some ⟨w.heap.size, 0, none⟩) 1 1]).run Try.prog (w.alloc (.cells #[.int .i64 p.1, .int .i64 p.2] 82)) = .ok (.slice (some ⟨g, 0, none⟩) (l.length + 1) cap) w' ∧
      OwnPairs w' B (.slice (some ⟨g, 0, none⟩) (l.length + 1) cap) (l ++ [p]) ∧ Keeps (fun b => v.ownBlock ≠ some b) w w' ∧ (v.ownBlock = some g ∨ w.heap.size ≤ g) ∧ g < w'.heap.size := by
  obtain ⟨i0, hi0, hz0, hz1, hz2⟩ := info_parts pair_info
  have hb : (l.length + 1) * 16 ≤ 140737488355328 := by omega
  obtain ⟨g, cap, w', h1, h2, h3, h4, h5⟩ := run_append_lies (P := Try.prog) _ 78 78 B 82 i0 _ 2 16 Try.underlying78 hi0 hz0 hz1 hz2 rfl (by decide) v l.length (pairCells l) (h.alloc (.cells #[.int .i64 p.1, .int .i64 p.2] 82))
    ⟨w.heap.size, 0, none⟩ 1 1 [.int .i64 p.1, .int .i64 p.2] rfl (World.news_of_block (cs := #[.int .i64 p.1, .int .i64 p.2]) (heap_new w (.cells #[.int .i64 p.1, .int .i64 p.2] 82))) (by simp; exact ⟨rfl, rfl⟩) (by decide) (by unfold maxLen; omega) hb (by simp; omega) (w.heap.size + 1) (by simp)
  refine ⟨g, cap, w', h1, ?_, ((Keeps.refl _ w).alloc _).grown h3 (by intro k hk hh; exact hh.2 hk), ?_, h5⟩
  · unfold OwnPairs
    rw [pairCells_snoc]
    simpa using h2
  · rcases h4 with h4 | h4
    · exact .inl h4
    · exact .inr (by omega)

/-- The numbers of what is listed, as a map's entries. -/
def numPairs {α : Type} (l : List α) : List (α × Value) := l.zipIdx.map fun p => (p.1, .int .i64 (p.2 : Int))

theorem lookup_num {α : Type} [DecidableEq α] (n : α) : ∀ (L : List α) (i : Nat), ((L.zipIdx i).map fun p => (p.1, Value.int .i64 (p.2 : Int))).lookup n = if n ∈ L then some (.int .i64 ((i + L.idxOf n : Nat) : Int)) else none
  | [], _ => by simp
  | x :: L, i => by
    by_cases h : n = x
    · subst h; simp
    · have h1 : (n == x) = false := by simpa using h
      have h2 : (x == n) = false := by simpa using fun e => h e.symm
      simp only [List.zipIdx_cons, List.map_cons, List.lookup, h1, lookup_num n L (i + 1), List.mem_cons, h, false_or, List.idxOf_cons, h2]
      simp [Nat.add_assoc, Nat.add_comm 1]

theorem lookup_numPairs {α : Type} [DecidableEq α] (n : α) (L : List α) : (numPairs L).lookup n = if n ∈ L then some (.int .i64 ((L.idxOf n : Nat) : Int)) else none := by
  have := lookup_num n L 0
  simpa [numPairs] using this

theorem numPairs_snoc {α : Type} (L : List α) (n : α) : numPairs (L ++ [n]) = numPairs L ++ [(n, .int .i64 (L.length : Int))] := by
  simp [numPairs, List.zipIdx_append]

/-- The maker: its map, its list, its meter, of which n is left. -/
structure MkSt (w : World) (B mb mm mt : Nat) (vl : Value) (l : List (Int × Int)) (n : Int) : Prop where
  blk : w.heap[mb]? = some (.cells #[.map (some mm), vl, .pointer (some ⟨mt, 0, none⟩)] 80 (0, 0))
  map : MapAt pairV w mm (numPairs l)
  own : OwnPairs w B vl l
  met : MeterAt w mt n false

theorem MkSt.same {w' : World} {B mb mm mt : Nat} {vl : Value} {l : List (Int × Int)} {n : Int} (h : MkSt w B mb mm mt vl l n) (k : Same w w') : MkSt w' B mb mm mt vl l n :=
  ⟨k.at h.blk trivial, h.map.keep k trivial, ownsRow_keep h.own k fun _ _ => trivial, k.at h.met trivial⟩

theorem prodBit (b : Bool) (hR : ∀ e, e = .returned (.int .i64 (if b then 1 else 0)) → R e w) : Calls Try.prog 63 #[.bool b] w R := by
  have HR := hide hR
  clear hR
  cases b
  all_goals
    go_enter Try.func63, Try.ntmps63
    go_wp2_with fail
    exact HR.out _ rfl

/-- A number that is there. -/
theorem prodIdHave {B mb mm mt : Nat} {vl : Value} {l : List (Int × Int)} {n : Int} (h : MkSt w B mb mm mt vl l n) (p : Int × Int) (hp : p ∈ l)
    (hR : ∀ e w', e = .returned (.tuple #[.int .i64 ((idxP l p : Nat) : Int), .bool true]) → Same w w' → R e w') :
    Calls Try.prog 62 #[.pointer (some ⟨mb, 0, none⟩), pairV p] w R := by
  have HR := hide hR
  have H := hide h
  have HL : Hid (∀ w' : World, Same w w' → (Instr.lookup 77 (.map (some mm)) (pairV p) true).run Try.prog w' = .ok (.tuple #[.int .i64 ((idxP l p : Nat) : Int), .bool true]) w') := hide fun w' hk => by
    have := run_lookup_at pairKeys Try.underlying77 (int_zero w') (h.map.keep hk trivial) p
    rw [lookup_numPairs, if_pos hp] at this
    exact this
  obtain ⟨p0, p1⟩ := p
  have hbox := heap_new w (.cells #[.int .i64 p0, .int .i64 p1] 82)
  have hka : Same w (w.alloc (.cells #[.int .i64 p0, .int .i64 p1] 82)) := (Keeps.refl _ w).alloc _
  clear hR h hp
  unfold pairV at HL ⊢
  simp only at HL ⊢
  go_enter Try.func62, Try.ntmps62
  go_wp2_with fail
  generalize w.alloc (.cells #[.int .i64 p0, .int .i64 p1] 82) = w1 at hbox hka ⊢
  have HB := hide hbox
  have HK := hide hka
  have HM := hide (hka.at H.out.blk trivial)
  clear hbox hka
  refine wp_region_same (by kernel_rfl) (by kernel_rfl) ?_
  iterate 11
    (apply wpQuiet_step
     intro K hK
     first
       | (apply quiet_skip
          case hw => rfl
          go_simp
          refine hK _ ?_; clear hK K)
       | (apply quiet_do
          case hw => rfl
          case h =>
            intro w' hw'
            (have b0 := cell_at (hw'.at HM.out trivial) 0; have c0 := cell_at (hw'.at HB.out trivial) 0; have c1 := cell_at (hw'.at HB.out trivial) 1; have hl := HL.out _ (HK.out.tr hw'); simp only [List.getElem?_toArray, List.getElem?_cons_zero, List.getElem?_cons_succ] at b0 c0 c1)
            go_simp
            first | exact rfl | (fail)
          go_simp
          refine hK _ ?_; clear hK K))
  apply wpQuiet_nil
  intro w2 k2
  have HF := hide (HR.out _ w2 rfl (HK.out.tr k2))
  go_wp2_with fail
  exact HF.out

/-- A number that is new. -/
theorem prodIdNew {B mb mm mt : Nat} {vl : Value} {l : List (Int × Int)} {n : Int} (h : MkSt w B mb mm mt vl l n) (p : Int × Int) (hp : p ∉ l) (hB : B ≤ w.heap.size) (hl : l.length + 1 ≤ 1000000) (h0 : 0 ≤ n) (hn : n ≤ 9223372036854775807)
    (hR : ∀ e w' vl', e = .returned (.tuple #[.int .i64 (l.length : Int), .bool (decide (1 ≤ n) && decide (l.length + 1 ≤ 400))]) → (1 ≤ n → MkSt w' B mb mm mt vl' (l ++ [p]) (n - 1)) →
      Keeps (fun b => b ≠ mb ∧ b ≠ mm ∧ b ≠ mt ∧ vl.ownBlock ≠ some b) w w' → (∀ b, vl'.ownBlock = some b → vl.ownBlock = some b ∨ w.heap.size ≤ b) → R e w') :
    Calls Try.prog 62 #[.pointer (some ⟨mb, 0, none⟩), pairV p] w R := by
  have HR := hide hR
  have H := hide h
  have HP := hide hp
  have HLL := hide hl
  have HN := hide (And.intro h0 hn)
  have HBB := hide hB
  obtain ⟨va, vc, rfl⟩ := ownsRow_shape h.own
  obtain ⟨pp, hpp⟩ : ∃ pp, pp = p := ⟨_, rfl⟩
  have HPP := hide hpp
  obtain ⟨p0, p1⟩ := p
  have hbox := heap_new w (.cells #[.int .i64 p0, .int .i64 p1] 82)
  have hka : Same w (w.alloc (.cells #[.int .i64 p0, .int .i64 p1] 82)) := (Keeps.refl _ w).alloc _
  have hws : w.heap.size < (w.alloc (.cells #[.int .i64 p0, .int .i64 p1] 82)).heap.size := by simp
  have hll : l.length ≤ 1000000 := by omega
  clear hR h hp hl h0 hn hB hpp
  unfold pairV
  simp only
  go_enter Try.func62, Try.ntmps62
  go_wp2_with fail
  obtain ⟨bx, hbx⟩ : ∃ bx, bx = w.heap.size := ⟨_, rfl⟩
  rw [← hbx] at hbox ⊢
  generalize hw1 : w.alloc (.cells #[.int .i64 p0, .int .i64 p1] 82) = w1 at hbox hka hws ⊢
  have HBX := hide hbx
  have HB := hide hbox
  have HK := hide hka
  have HWS := hide hws
  have st1 := H.out.same hka
  have HM := hide st1.blk
  have HL : Hid (∀ w' : World, Same w1 w' → (Instr.lookup 77 (.map (some mm)) (.agg #[.int .i64 p0, .int .i64 p1]) true).run Try.prog w' = .ok (.tuple #[.int .i64 0, .bool false]) w') := hide fun w' hk => by
    have := run_lookup_at pairKeys Try.underlying77 (int_zero w') (st1.map.keep hk trivial) (p0, p1)
    rw [lookup_numPairs, if_neg HP.out] at this
    exact this
  clear hbox hka hbx hws hw1
  refine wp_region_same (by kernel_rfl) (by kernel_rfl) ?_
  iterate 11
    (apply wpQuiet_step
     intro K hK
     first
       | (apply quiet_skip
          case hw => rfl
          go_simp
          refine hK _ ?_; clear hK K)
       | (apply quiet_do
          case hw => rfl
          case h =>
            intro w' hw'
            (have b0 := cell_at (hw'.at HM.out trivial) 0; have c0 := cell_at (hw'.at HB.out trivial) 0; have c1 := cell_at (hw'.at HB.out trivial) 1; have hl := HL.out _ hw'; simp only [List.getElem?_toArray, List.getElem?_cons_zero, List.getElem?_cons_succ] at b0 c0 c1)
            go_simp
            first | exact rfl | (fail)
          go_simp
          refine hK _ ?_; clear hK K))
  apply wpQuiet_nil
  intro w2 k2
  have st2 := st1.same k2
  have b1 := cell_at st2.blk 1
  simp only [List.getElem?_toArray, List.getElem?_cons_zero, List.getElem?_cons_succ] at b1
  have HB2 := hide (k2.at HB.out trivial)
  have HK2 := hide (HK.out.tr k2)
  have HWS2 : Hid (bx < w2.heap.size) := hide (by rw [HBX.out]; exact Nat.lt_of_lt_of_le HWS.out k2.size)
  have ST2 := hide st2
  clear st1 st2 k2
  go_wp2_with fail
  have kd : Same w2 w2.drew := Keeps.drew (Keeps.refl (fun _ => True) w2)
  have st3 := ST2.out.same kd
  have b3 := kd.at HB2.out trivial
  clear b1
  refine wp_region_plan (.take 0 (.take 1 (.take 2 (.take 3 (.take 4 (.take 5 (.one 6 .done))))))) (fun w' => w'.heap[mb]? = some (.cells #[.map (some mm), .slice va l.length vc, .pointer (some ⟨mt, 0, none⟩)] 80 (0, 0)) ∧ w'.heap[bx]? = some (.cells #[.int .i64 p0, .int .i64 p1] 82 (0, 0))) (by kernel_rfl) (by kernel_rfl) ⟨st3.blk, b3⟩ ?_
  iterate 6
    (first
       | (apply pl_pass
          case ho => rfl
          case hw => rfl
          go_simp)
       | (apply pl_take
          case ho => rfl
          case hw => rfl
          case hv =>
            intro w' hS
            (have b0 := cell_at hS.1 0; have c0 := cell_at hS.2 0; have c1 := cell_at hS.2 1; simp only [List.getElem?_toArray, List.getElem?_cons_zero, List.getElem?_cons_succ] at b0 c0 c1)
            go_simp
            exact rfl
          go_simp))
  obtain ⟨w4, hr4, m4, k4⟩ := run_update_new pairKeys Try.underlying77 st3.map (p0, p1) (.int .i64 (l.length : Int)) (by rw [lookup_numPairs, if_neg HP.out])
  rw [← numPairs_snoc] at m4
  have hmm : ∀ {b : Nat} {cs : Array Value} {t : TypeId}, w2.drew.heap[b]? = some (.cells cs t (0, 0)) → b ≠ mm := fun hb e => by
    obtain ⟨es, clk, hm, _⟩ := st3.map
    subst e; rw [hm] at hb; cases hb
  have blk4 := k4.at st3.blk (hmm st3.blk)
  have b4 := k4.at b3 (hmm b3)
  have own4 : OwnPairs w4 B (.slice va l.length vc) l := ownsRow_keep st3.own k4 fun b hb => by
    obtain ⟨_, cur, hc⟩ := ownsRow_block st3.own hb
    exact hmm hc
  have met4 : MeterAt w4 mt n false := k4.at st3.met (hmm st3.met)
  have HK4 : Hid (Keeps (· ≠ mm) w w4) := hide (((HK2.out.tr kd).mono fun _ _ _ => trivial).tr k4)
  have HM4 := hide m4
  have HWS4 : Hid (bx < w4.heap.size) := hide (Nat.lt_of_lt_of_le HWS2.out k4.size)
  unfold pairV at hr4
  simp only at hr4
  clear m4 k4 hmm st3 kd
  refine pl_one (up_do rfl rfl fun K hK1 => ?_)
  go_simp
  refine hK1 _ _ _ ⟨blk4, b4⟩ (fun _ h => h) ?_
  clear hK1 K hr4
  refine pl_done ?_
  have hB4 : B ≤ w4.heap.size := Nat.le_trans HBB.out HK4.out.size
  have kd4 : Same w4 w4.drew := Keeps.drew (Keeps.refl (fun _ => True) w4)
  have own5 : OwnPairs w4.drew B (.slice va l.length vc) l := ownsRow_keep own4 kd4 fun _ _ => trivial
  obtain ⟨g, cap, w6, hr6, own6, k6, hg6, hg6l⟩ := own5.push hB4 (p0, p1) HLL.out
  have hne : ∀ {b : Nat} {cs : Array Value} {t : TypeId}, w4.heap[b]? = some (.cells cs t (0, 0)) → t ≠ 82 → (Value.slice va l.length vc).ownBlock ≠ some b := fun hb ht e => by
    obtain ⟨_, cur, hc⟩ := ownsRow_block own4 e
    rw [hb] at hc
    simp only [Option.some.injEq, Obj.cells.injEq] at hc
    exact ht hc.2.1
  have blk6 := k6.at blk4 (hne blk4 (by decide))
  have met6 : MeterAt w6 mt n false := k6.at met4 (hne met4 (by decide))
  have map6 : MapAt pairV w6 mm (numPairs (l ++ [(p0, p1)])) := (HM4.out.keep kd4 trivial).keep k6 (show (Value.slice va l.length vc).ownBlock ≠ some mm from fun e => by
    obtain ⟨_, cur, hc⟩ := ownsRow_block own4 e
    obtain ⟨es, clk, hm, _⟩ := HM4.out
    rw [hm] at hc; cases hc)
  have HB6 : Hid (∀ {cs : Array Value} {t : TypeId}, w4.drew.heap[bx]? = some (.cells cs t (0, 0)) → w6.heap[bx]? = some (.cells cs t (0, 0))) := hide fun hb => k6.at hb fun e => by
    obtain ⟨_, cur, hc⟩ := ownsRow_block H.out.own e
    have := heap_lt hc
    rw [HBX.out] at this; exact Nat.lt_irrefl _ this
  have HK6 : Hid (Keeps (fun b => b ≠ mm ∧ (Value.slice va l.length vc).ownBlock ≠ some b) w w6) := hide (HK4.out.drew.trans k6 fun x _ hx => ⟨hx.1, hx.2⟩)
  have HBK4 := hide blk4
  have HB4 := hide b4
  have HG6 : Hid (∀ b, some g = some b → (Value.slice va l.length vc).ownBlock = some b ∨ w.heap.size ≤ b) := hide fun b hb => by
    obtain rfl := Option.some.inj hb
    rcases hg6 with h | h
    · exact .inl h
    · exact .inr (Nat.le_trans HK4.out.size h)
  have hgmb : g ≠ mb := fun e => by
    subst e
    rcases hg6 with h | h
    · exact hne blk4 (by decide) h
    · have := heap_lt blk4
      have h2 : w4.heap.size ≤ g := h
      omega
  have hgmt : mt ≠ mb := fun e => by
    subst e
    have h1 := met6
    unfold MeterAt at h1
    rw [blk6] at h1
    simp at h1
  have hmmb : mm ≠ mb := fun e => by
    subst e
    obtain ⟨es, clk, hm, _⟩ := map6
    rw [blk6] at hm; cases hm
  have z1 := cell_at blk6 1
  have z2 := free_at blk6 1
  simp only [List.getElem?_toArray, List.getElem?_cons_zero, List.getElem?_cons_succ] at z1
  have k7 : Keeps (· ≠ mb) w6 (w6.setCell ⟨mb, 1, none⟩ (.slice (some ⟨g, 0, none⟩) (l.length + 1) cap)) := (Keeps.refl (· ≠ mb) w6).setCell (fun hh => hh.2 rfl) _
  have st7 : MkSt (w6.setCell ⟨mb, 1, none⟩ (.slice (some ⟨g, 0, none⟩) (l.length + 1) cap)) B mb mm mt (.slice (some ⟨g, 0, none⟩) (l.length + 1) cap) (l ++ [(p0, p1)]) n :=
    ⟨by rw [heap_setCell_at blk6]; simp, map6.keep k7 hmmb, ownsRow_keep own6 k7 fun b hb => by (simp [Value.ownBlock] at hb; subst hb; exact hgmb), k7.at met6 hgmt⟩
  have HST7 := hide st7
  have HK7 : Hid (Keeps (fun b => b ≠ mb ∧ b ≠ mm ∧ (Value.slice va l.length vc).ownBlock ≠ some b) w (w6.setCell ⟨mb, 1, none⟩ (.slice (some ⟨g, 0, none⟩) (l.length + 1) cap))) := hide (HK6.out.trans k7 fun x _ hx => ⟨hx.2, hx.1⟩)
  clear st7 k7 own6 k6 own5 own4 met4 met6 map6 blk4 b4 hne hg6 hgmb hgmt hmmb hB4
  go_wp2_with fail
  have b5 := kd4.at HB4.out trivial
  refine wp_region_planz 10 (.take 0 (.take 1 (.take 2 (.take 3 (.take 4 (.take 5 (.one 6 (.one 7 (.take 8 (.take 9 .last)))))))))) (fun w' => w'.heap[mb]? = some (.cells #[.map (some mm), .slice va l.length vc, .pointer (some ⟨mt, 0, none⟩)] 80 (0, 0)) ∧ w'.heap[bx]? = some (.cells #[.int .i64 p0, .int .i64 p1] 82 (0, 0))) (by kernel_rfl) (by kernel_rfl) ⟨kd4.at HBK4.out trivial, b5⟩ ?_
  iterate 6
    (first
       | (apply pz_pass
          case ho => rfl
          case hw => rfl
          go_simp)
       | (apply pz_take
          case ho => rfl
          case hw => rfl
          case hv =>
            intro w' hS
            (have b1 := cell_at hS.1 1; have c0 := cell_at hS.2 0; have c1 := cell_at hS.2 1; simp only [List.getElem?_toArray, List.getElem?_cons_zero, List.getElem?_cons_succ] at b1 c0 c1)
            go_simp
            exact rfl
          go_simp))
  have b6 : w6.heap[bx]? = some (.cells #[.int .i64 p0, .int .i64 p1] 82 (0, 0)) := HB6.out b5
  have blk5 := kd4.at HBK4.out trivial
  refine pz_one (up_do rfl rfl fun K hK1 => ?_)
  go_simp
  refine hK1 _ _ _ ⟨heap_old blk5 _, heap_old b5 _⟩ (fun _ h => h) ?_
  clear hK1 K
  refine pz_one (up_append _ _ _ rfl rfl rfl ?hs ?hx hr6 _ ⟨blk6, b6⟩ (fun _ h => h) ?_)
  case hs => rfl
  case hx => rfl
  clear hr6
  go_simp
  iterate 2
    (first
       | (apply pz_pass
          case ho => rfl
          case hw => rfl
          go_simp)
       | (apply pz_take
          case ho => rfl
          case hw => rfl
          case hv =>
            intro w' hS
            (skip)
            go_simp
            exact rfl
          go_simp))
  refine pz_last rfl rfl fun K hK1 => ?_
  go_simp
  refine hK1 _ _ (np_normal ?_)
  clear hK1 K z1 z2 b6 b5 blk5 blk6
  generalize w6.setCell ⟨mb, 1, none⟩ (.slice (some ⟨g, 0, none⟩) (l.length + 1) cap) = w7 at HST7 HK7 ⊢
  go_wp2_with fail
  have kd7 : Same w7 w7.drew := Keeps.drew (Keeps.refl (fun _ => True) w7)
  have st8 := HST7.out.same kd7
  refine wp_region_plan (.take 0 (.take 1 (.take 2 (.take 3 (.take 4 (.one 5 (.take 6 (.take 7 (.take 8 (.take 9 (.take 10 (.take 11 (.take 12 (.take 13 (.take 14 (.take 15 .done)))))))))))))))) (fun w' => w'.heap[mb]? = some (.cells #[.map (some mm), .slice (some ⟨g, 0, none⟩) (l.length + 1) cap, .pointer (some ⟨mt, 0, none⟩)] 80 (0, 0))) (by kernel_rfl) (by kernel_rfl) st8.blk ?_
  iterate 5
    (first
       | (apply pl_pass
          case ho => rfl
          case hw => rfl
          go_simp)
       | (apply pl_take
          case ho => rfl
          case hw => rfl
          case hv =>
            intro w' hS
            (have b1 := cell_at hS 1; have b2 := cell_at hS 2; simp only [List.getElem?_toArray, List.getElem?_cons_zero, List.getElem?_cons_succ] at b1 b2)
            go_simp
            exact rfl
          go_simp))
  refine pl_one (up_do rfl rfl fun K hK1 => ?_)
  go_simp
  refine spend 1 st8.met (by decide) HN.out.1 HN.out.2 ?_; rintro e w9 rfl m9 k9
  have hmbmt : mb ≠ mt := fun e => by
    subst e
    have h1 := st8.met
    unfold MeterAt at h1
    rw [st8.blk] at h1
    simp at h1
  have hmmmt : mm ≠ mt := fun e => by
    subst e
    have h1 := st8.met
    unfold MeterAt at h1
    obtain ⟨es, clk, hm, _⟩ := st8.map
    rw [hm] at h1; cases h1
  have blk9 := k9.at st8.blk hmbmt
  have own9 : OwnPairs w9 B (.slice (some ⟨g, 0, none⟩) (l.length + 1) cap) (l ++ [(p0, p1)]) := ownsRow_keep st8.own k9 fun b hb e => by
    subst e
    obtain ⟨_, cur, hc⟩ := ownsRow_block st8.own hb
    have h1 := st8.met
    unfold MeterAt at h1
    rw [hc] at h1
    simp at h1
  have map9 := st8.map.keep k9 hmmmt
  have hk9 : Keeps (fun b => b ≠ mb ∧ b ≠ mm ∧ b ≠ mt ∧ (Value.slice va l.length vc).ownBlock ≠ some b) w w9 := (HK7.out.trans kd7 fun x _ hx => ⟨⟨hx.1, hx.2.1, hx.2.2.2⟩, trivial⟩).trans k9 fun x _ hx => ⟨hx, hx.2.2.1⟩
  have hso : spendOk n 1 false = decide (1 ≤ n) := by simp [spendOk]
  rw [hso]
  have HF : Hid (∀ bb, bb = (decide (1 ≤ n) && decide (l.length + 1 ≤ 400)) → R (.returned (.tuple #[.int .i64 (l.length : Int), .bool bb])) w9) := hide fun bb hbb => by
    subst hbb
    refine HR.out _ w9 _ rfl (fun h1 => ⟨blk9, map9, own9, ?_⟩) hk9 (fun b hb => HG6.out b (by simpa [Value.ownBlock] using hb))
    rw [show spendLeft n 1 false = n - 1 by unfold spendLeft; rw [if_neg (by simp), if_pos h1], show spendOut n 1 false = false by simp [spendOut]; omega] at m9
    exact m9
  have B9 := hide blk9
  clear m9 k9 map9 own9 hk9 hmbmt hmmmt st8 hso
  refine hK1 _ _ _ B9.out (fun _ h => h) ?_
  clear hK1 K
  by_cases h1 : 1 ≤ n
  · have hd : decide (1 ≤ n) = true := decide_eq_true h1
    rw [hd] at HF ⊢
    clear hd
    iterate 10
      (first
         | (apply pl_pass
            case ho => rfl
            case hw => rfl
            go_simp)
         | (apply pl_take
            case ho => rfl
            case hw => rfl
            case hv =>
              intro w' hS
              (have b1 := cell_at hS 1; simp only [List.getElem?_toArray, List.getElem?_cons_zero, List.getElem?_cons_succ] at b1)
              go_simp
              exact rfl
            go_simp))
    refine pl_done ?_
    go_wp2_with fail
    exact HF.out _ (by simp; omega)
  · have hd : decide (1 ≤ n) = false := decide_eq_false h1
    rw [hd] at HF ⊢
    clear hd
    iterate 10
      (first
         | (apply pl_pass
            case ho => rfl
            case hw => rfl
            go_simp)
         | (apply pl_take
            case ho => rfl
            case hw => rfl
            case hv =>
              intro w' hS
              (skip)
              go_simp
              exact rfl
            go_simp))
    refine pl_done ?_
    go_wp2_with fail
    exact HF.out _ (by simp)

end Go.Proofs.Ytohhjdadhdibfaa
