/- The walk of minim.numbered. -/
import Derived.Test.YtgpgbkoaopfjkaaPkB
import Derived.Test.YtgpgbkoaopfjkaaMinLaw
namespace Go.Proofs.Ytgpgbkoaopfjkaa
open Go.RowKit

attribute [local irreducible] wpQuiet wpPlan wpPlanZ wpUp

variable {R : Ending → World → Prop} {w : World} {A : Au} {B d : Nat}

/-- The numbers of what is listed, as a map's entries. -/
def numI (l : List Int) : List (Int × Value) := l.zipIdx.map fun p => (p.1, .int .i64 (p.2 : Int))

theorem lookup_numI0 (n : Int) : ∀ (L : List Int) (i : Nat), ((L.zipIdx i).map fun p => (p.1, Value.int .i64 (p.2 : Int))).lookup n = if n ∈ L then some (.int .i64 ((i + L.idxOf n : Nat) : Int)) else none
  | [], _ => by simp
  | x :: L, i => by
    by_cases h : n = x
    · subst h; simp
    · have h1 : (n == x) = false := by simpa using h
      have h2 : (x == n) = false := by simpa using fun e => h e.symm
      simp only [List.zipIdx_cons, List.map_cons, List.lookup, h1, lookup_numI0 n L (i + 1), List.mem_cons, h, false_or, List.idxOf_cons, h2]
      simp [Nat.add_assoc, Nat.add_comm 1]

theorem lookup_numI (n : Int) (L : List Int) : (numI L).lookup n = if n ∈ L then some (.int .i64 ((L.idxOf n : Nat) : Int)) else none := by
  have := lookup_numI0 n L 0
  simpa [numI] using this

theorem numI_snoc (L : List Int) (n : Int) : numI (L ++ [n]) = numI L ++ [(n, .int .i64 (L.length : Int))] := by
  simp [numI, List.zipIdx_append]



theorem keysI : KeyT Try.prog 3 (Value.int .i64) := intKeys Try.underlying3

/-- The state: the map m of numbers, what is told so far. -/
structure NmSt (w wr : World) (m : Nat) (l : List Int) (u : Value) (o : List Int) : Prop where
  keep : Same w wr
  map : MapAt (Value.int .i64) wr m (numI l)
  own : OwnInts wr w.heap.size u o
  low : w.heap.size ≤ m

theorem NmSt.apart {wr : World} {m : Nat} {l o : List Int} {u : Value} (h : NmSt w wr m l u o) : u.ownBlock ≠ some m := fun e => by
  obtain ⟨_, cur, hc⟩ := ownsRow_block h.own e
  obtain ⟨es, clk, hm, _⟩ := h.map
  rw [hm] at hc; cases hc

theorem NmSt.push {wr : World} {m : Nat} {l o : List Int} {u : Value} (h : NmSt w wr m l u o) (x : Int) (hl : o.length ≤ 1000) :
    ∃ g cap w', (Builtin.append_ #[42, 42] 42 #[u, .slice (some ⟨wr.heap.size, 0, none⟩) 1 1]).run Try.prog (wr.alloc (.cells #[.int .i64 x] 3)) = .ok (.slice (some ⟨g, 0, none⟩) (o.length + 1) cap) w' ∧
      NmSt w w' m l (.slice (some ⟨g, 0, none⟩) (o.length + 1) cap) (o ++ [x]) := by
  obtain ⟨g, cap, w', hr, hown2, hk2, _, _⟩ := append_one (P := Try.prog) wr 42 42 3 Try.underlying42 int_info rfl h.own h.keep.size (.int .i64 x) rfl (by omega) (by decide)
  refine ⟨g, cap, w', hr, h.keep.trans hk2 fun y hy _ => ⟨trivial, fun e => ?_⟩, h.map.keep hk2 h.apart, ?_, h.low⟩
  · have := (h.own.low e).1; omega
  · unfold OwnInts; simpa using hown2

theorem NmSt.put {wr : World} {m : Nat} {l o : List Int} {u : Value} (h : NmSt w wr m l u o) {x : Int} (hx : x ∉ l) :
    ∃ w', (Instr.mapUpdate 75 (.map (some m)) (.int .i64 x) (.int .i64 (l.length : Int))).run Try.prog wr = .ok () w' ∧ NmSt w w' m (l ++ [x]) u o := by
  obtain ⟨w', hr, m4, k4⟩ := run_update_new keysI Try.underlying75 h.map x (.int .i64 (l.length : Int)) (by rw [lookup_numI, if_neg hx])
  rw [← numI_snoc] at m4
  refine ⟨w', hr, h.keep.trans k4 fun y hy _ => ⟨trivial, fun e => ?_⟩, m4, h.own.keep k4 fun b hb => ?_, h.low⟩
  · have := h.low; omega
  · rintro rfl; exact h.apart hb

theorem NmSt.look {wr : World} {m : Nat} {l o : List Int} {u : Value} (h : NmSt w wr m l u o) (x : Int) :
    (Instr.lookup 75 (.map (some m)) (.int .i64 x) true).run Try.prog wr = .ok (.tuple #[if x ∈ l then .int .i64 ((l.idxOf x : Nat) : Int) else .int .i64 0, .bool (decide (x ∈ l))]) wr := by
  have := run_lookup_at keysI Try.underlying75 (int_zero wr) h.map x
  rw [lookup_numI] at this
  rw [this]
  by_cases hx : x ∈ l <;> simp [hx]

theorem NmSt.len {wr : World} {m : Nat} {l o : List Int} {u : Value} (h : NmSt w wr m l u o) (ty : TypeId) : (Builtin.len_ #[75] ty #[.map (some m)]).run Try.prog wr = .ok (.int .i64 (l.length : Int)) wr := by
  obtain ⟨es, clk, h1, h2⟩ := h.map
  have hl : es.size = l.length := by simpa [numI] using congrArg List.length h2
  simp [Builtin.len_, run_underlying Try.underlying75, MapKept.run_getObj_map h1, goInt, hl]

set_option maxRecDepth 10000 in
set_option maxHeartbeats 2000000 in
theorem minNumbered {v : Value} {l : List Int} (hv : IntsAt w v l) (hl : l.length ≤ 900) (hR : ∀ e w' u, e = .returned u → OwnInts w' w.heap.size u ((numb l).map Int.ofNat) → Same w w' → R e w') :
    Calls Try.prog 84 #[v] w R := by
  have HR := hide hR
  clear hR
  obtain ⟨la, lc, rfl, hc1, hc2, hcell⟩ := hv.open
  unfold maxLen at hc2
  have HC := hide hcell
  have hmm := @run_makeMap Try.prog
  clear hv hcell
  go_enter Try.func84, Try.ntmps84
  go_wp2_with fail
  have hst : NmSt w (w.alloc (.map #[] 0)) w.heap.size [] (.slice none 0 0) [] :=
    ⟨(Keeps.refl _ w).alloc _, ⟨#[], 0, heap_new w _, rfl⟩, World.ownsRow_nil _ _ _ _, Nat.le_refl _⟩
  generalize w.alloc (.map #[] 0) = w1 at hst ⊢
  generalize w.heap.size = m at hst ⊢
  have HST := hide hst
  clear hst hmm
  go_loopw [4, 6, 12] (fun u _ i wr => ∃ k : Nat, i = .int .i64 k ∧ k ≤ l.length ∧ Hid (NmSt w wr m (nub (l.take k)) u ((numb (l.take k)).map Int.ofNat))) (fun _ _ i _ => l.length - (intOf i).toNat)
  case atStart => exact ⟨0, rfl, Nat.zero_le _, by rw [List.take_zero]; exact HST.out⟩
  case round =>
    obtain ⟨k, rfl, hk, hst⟩ := hrel
    obtain ⟨ua, uc, rfl⟩ := hst.out.own.shape
    by_cases hlt : k < l.length
    · obtain ⟨b, off, rfl, _, hcl⟩ := HC.out k hlt
      have hck := Keeps.cell hst.out.keep (hcl k hlt) trivial
      have HTK := hide (List.take_succ_eq_append_getElem hlt)
      have hnl : ((numb (l.take k)).map Int.ofNat).length = k := by rw [List.length_map, numb_length, List.length_take]; omega
      have HNS := hide (numb_snoc (l.take k) l[k])
      have HNB := hide (nub_snoc (l.take k) l[k])
      have hnb : (nub (l.take k)).length ≤ 900 := Nat.le_trans (nub_le _) (by rw [List.length_take]; omega)
      generalize l[k] = x at hck HTK HNS HNB
      generalize l.take k = pre at hst HTK HNS HNB hnl hnb
      rw [hnl]
      have HS := hide hst.out
      have HNL := hide hnl
      have hlk := hst.out.look x
      clear hst hcl hnl
      by_cases hin : x ∈ nub pre
      · rw [if_pos hin, decide_eq_true hin] at hlk
        obtain ⟨g, cap, w3, hr, hst3⟩ := HS.out.push (((nub pre).idxOf x : Nat) : Int) (by have := HNL.out; omega)
        have hadd : addN (nub pre) x = nub pre := if_pos hin
        rw [HNL.out] at hr hst3
        have HF : Hid (NmSt w w3 m (nub (pre ++ [x])) (.slice (some ⟨g, 0, none⟩) (k + 1) cap) ((numb (pre ++ [x])).map Int.ofNat)) := hide (by
          rw [HNS.out, HNB.out, hadd, List.map_append]; exact hst3)
        clear hst3 hadd hin
        go_wp2_with (at_builtin; refine wpList_append_run rfl _ _ _ rfl rfl rfl hr ?_; clear hr)
        go_roundw
        case rel => exact ⟨k + 1, by go_num, by omega, by rw [HTK.out]; exact HF.out⟩
        case measure => simp [intOf]; omega
      · rw [if_neg hin, decide_eq_false hin] at hlk
        have hlen := HS.out.len
        obtain ⟨w2, hru, hst2⟩ := HS.out.put hin
        have HS2 := hide hst2
        obtain ⟨g, cap, w3, hr, hst3⟩ := HS2.out.push ((nub pre).length : Int) (by have := HNL.out; omega)
        have hadd : addN (nub pre) x = nub pre ++ [x] := if_neg hin
        have hidx : (nub pre ++ [x]).idxOf x = (nub pre).length := by
          rw [List.idxOf_append, if_neg hin]; simp
        rw [HNL.out] at hr hst3
        have HF : Hid (NmSt w w3 m (nub (pre ++ [x])) (.slice (some ⟨g, 0, none⟩) (k + 1) cap) ((numb (pre ++ [x])).map Int.ofNat)) := hide (by
          rw [HNS.out, HNB.out, hadd, List.map_append, hidx]; exact hst3)
        clear hst2 hst3 hadd hidx hin
        go_wp2_with (at_builtin; refine wpList_append_run rfl _ _ _ rfl rfl rfl hr ?_; clear hr)
        go_roundw
        case rel => exact ⟨k + 1, by go_num, by omega, by rw [HTK.out]; exact HF.out⟩
        case measure => simp [intOf]; omega
    · obtain rfl : k = l.length := by omega
      have hnl : ((numb (l.take l.length)).map Int.ofNat).length = l.length := by rw [List.length_map, numb_length, List.length_take]; omega
      rw [hnl]
      have HF : Hid (OwnInts wr w.heap.size (.slice ua l.length uc) ((numb l).map Int.ofNat)) := hide (by have := hst.out.own; rw [hnl, List.take_length] at this; exact this)
      have HKF := hide hst.out.keep
      clear hst
      go_wp2_with fail
      exact HR.out _ _ _ rfl HF.out HKF.out

end Go.Proofs.Ytgpgbkoaopfjkaa
