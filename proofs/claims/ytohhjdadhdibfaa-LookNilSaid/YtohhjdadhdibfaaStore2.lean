/- The walks of bdd.New, id, Leaf, Mk, below, Track, Kids. -/
import Derived.Test.YtohhjdadhdibfaaStore
namespace Go.Proofs.Ytohhjdadhdibfaa
open Go.RowKit

variable {R : Ending → World → Prop} {w : World} {a T : Nat} {L : List Nd}

theorem node_info : (Try.prog.info? 98).map (fun i => (i.zero, i.size, i.bytes)) = some (some .nilIface, 1, 16) := by kernel_rfl
theorem int_zero (w : World) : (zeroValue 3).run Try.prog w = .ok (.int .i64 0) w := by kernel_rfl

theorem Nd.val_oneCell (n : Nd) : n.val.oneCell' = true := by cases n <;> rfl

set_option maxHeartbeats 1000000 in
theorem storeId (h : StoreAt w a T L) (n : Nd) (hn : NdOk T L L.length n) (hb : L.length < 1099511627776)
    (hR : ∀ e w', e = .returned (.int .i64 ((idOf L n).2 : Nat)) → StoreAt w' a T (idOf L n).1 → Grew a w w' → R e w') :
    Calls Try.prog 76 #[.pointer (some ⟨a, 0, none⟩), n.val] w R := by
  have HR := hide hR
  clear hR
  obtain ⟨v, m, e1, e2, e3⟩ := h.st
  have c2 : w.cell? ⟨a, 2, none⟩ = some (.map (some m)) := cell_at e1 2
  have hl := run_lookup_at nodeKeys Try.underlying88 (int_zero w) e3 n
  rw [lookup_idPairs] at hl
  by_cases hm : n ∈ L
  · rw [if_pos hm] at hl
    simp only [Option.getD_some, Option.isSome_some] at hl
    rw [idOf_mem hm] at HR
    have H := hide h
    clear e1 e2 e3 h hn
    go_enter Try.func76, Try.ntmps76
    go_wp2_with fail
    exact HR.out _ _ rfl H.out (Grew.refl _ _)
  · rw [if_neg hm] at hl
    simp only [Option.getD_none, Option.isSome_none] at hl
    rw [idOf_new hm] at HR
    obtain ⟨sa, cap, hv⟩ : ∃ sa cap, v = .slice sa L.length cap := by
      rcases e2.2 with ⟨h1, h2⟩ | ⟨g, cap, cur, h1, _⟩
      · exact ⟨none, 0, by rw [h1, h2]⟩
      · exact ⟨_, cap, h1⟩
    subst hv
    have c1 : w.cell? ⟨a, 1, none⟩ = some (.slice sa L.length cap) := cell_at e1 1
    obtain ⟨g, cap1, w1, hr, hown, kal, hg, _⟩ := append_one (P := Try.prog) w 89 89 98 Try.underlying89 node_info rfl e2 (Nat.zero_le _) n.val n.val_oneCell (by omega) (by decide)
    have hav : (Value.slice sa L.length cap).ownBlock ≠ some a := by
      intro hx
      rcases e2.2 with ⟨h1, _⟩ | ⟨g, cap', cur, h1, _, hg, _⟩
      · rw [h1] at hx; simp [Value.ownBlock] at hx
      · rw [h1] at hx; simp [Value.ownBlock] at hx; subst hx; rw [e1] at hg; simp at hg
    have f1 := kal.at e1 hav
    have g1 : w1.cell? ⟨a, 1, none⟩ = some (.slice sa L.length cap) := cell_at f1 1
    have g2 : w1.cell? ⟨a, 2, none⟩ = some (.map (some m)) := cell_at f1 2
    have z1 : w1.frozen? ⟨a, 1, none⟩ = false := free_at f1 1
    obtain ⟨es, clk, e4, e5⟩ := e3
    have hmv : (Value.slice sa L.length cap).ownBlock ≠ some m := by
      intro hx
      rcases e2.2 with ⟨h1, _⟩ | ⟨g, cap', cur, h1, _, hg, _⟩
      · rw [h1] at hx; simp [Value.ownBlock] at hx
      · rw [h1] at hx; simp [Value.ownBlock] at hx; subst hx; rw [e4] at hg; cases hg
    have hma : m ≠ a := by rintro rfl; rw [e1] at e4; cases e4
    have m2 : MapAt Nd.val (w1.setCell ⟨a, 1, none⟩ (.slice (some ⟨g, 0, none⟩) (L.length + 1) cap1)) m (idPairs L) := ⟨es, clk, (heap_setCell_ne hma 1 _).trans (kal.at e4 hmv), e5⟩
    obtain ⟨w2, hr2, m3, k3⟩ := run_update_new nodeKeys Try.underlying88 m2 n (.int .i64 (L.length : Int)) (by rw [lookup_idPairs, if_neg hm])
    have s2 := k3.at (heap_setCell_at f1 1 (.slice (some ⟨g, 0, none⟩) (L.length + 1) cap1)) (Ne.symm hma)
    have HF : Hid (StoreAt w2 a T (L ++ [n]) ∧ Grew a w w2) := by
      obtain ⟨hown1, hown2⟩ := hown
      rcases hown2 with ⟨h1, _⟩ | ⟨g', cap', cur, h1, _, hgg, hrest⟩
      · simp at h1
      · simp only [Value.slice.injEq, Option.some.injEq, Addr.mk.injEq, and_true, true_and] at h1
        obtain ⟨rfl, rfl⟩ := h1
        have hga : g ≠ a := by rintro rfl; rw [f1] at hgg; simp at hgg
        have hgm : g ≠ m := by
          rintro rfl
          have := kal.at e4 hmv
          rw [this] at hgg; cases hgg
        have hgg2 := k3.at ((heap_setCell_ne hga 1 (.slice (some ⟨g, 0, none⟩) (L.length + 1) cap1)).trans hgg) hgm
        refine ⟨⟨h.wf.snoc hn hm, _, m, by simpa using s2, ⟨by simp, .inr ⟨g, cap1, cur, by simp, Nat.zero_le _, hgg2, by simpa using hrest⟩⟩, by rw [idPairs_snoc]; exact m3⟩, ?_, ?_⟩
        · refine (kal.trans (S' := fun b => b ≠ a ∧ b ≠ m) ((Keeps.setCell (Keeps.refl _ _) (by simp) _).trans k3 fun x _ hx => ⟨hx, hx.2⟩) fun x hx hnf => ?_)
          have q1 : x ≠ a := fun e => hnf (.inl e)
          have q2 : x ≠ m := fun e => hnf (.inr ⟨_, _, _, e1, .inl e⟩)
          have q3 : (Value.slice sa L.length cap).ownBlock ≠ some x := fun e => hnf (.inr ⟨_, _, _, e1, .inr e⟩)
          exact ⟨q3, q1, q2⟩
        · intro b hb
          rcases hb with rfl | ⟨t', v', m', e6, e7⟩
          · exact .inl (.inl rfl)
          · rw [s2] at e6
            simp at e6
            obtain ⟨_, rfl, rfl⟩ := e6
            rcases e7 with rfl | e7
            · exact .inl (.inr ⟨_, _, _, e1, .inl rfl⟩)
            · simp [Value.ownBlock] at e7
              subst e7
              rcases hg with hg | hg
              · exact .inl (.inr ⟨_, _, _, e1, .inr hg⟩)
              · exact .inr hg
    have HM := hide hm
    clear h e1 e2 e4 e5 hown kal hav hmv m2 m3 k3 f1 s2 hn hm hb hma hg
    cases n
    all_goals
      simp only [Nd.val] at hl hr hr2 ⊢
      go_enter Try.func76, Try.ntmps76
      go_wp2_with (at_builtin; refine wpList_append_run rfl _ _ _ rfl rfl rfl hr ?_; clear hr)
      exact HR.out _ _ rfl HF.out.1 HF.out.2


theorem assert_fork (x : Value) (w : World) : (Instr.typeAssert (.iface 95 x) 98 95 true).run Try.prog w = .ok (.tuple #[x, .bool true]) w := by kernel_rfl
theorem assert_leaf (x : Value) (w : World) : (Instr.typeAssert (.iface 103 x) 98 95 true).run Try.prog w = .ok (.tuple #[.agg #[.int .i64 0, .int .i64 0, .int .i64 0], .bool false]) w := by kernel_rfl
attribute [go_sem] assert_fork assert_leaf

/-- A node of a Store in memory. -/
theorem StoreAt.node (h : StoreAt w a T L) : ∃ sa cap, w.cell? ⟨a, 1, none⟩ = some (.slice sa L.length cap) ∧ w.cell? ⟨a, 0, none⟩ = some (.int .i64 T) ∧ L.length ≤ cap ∧ cap ≤ maxLen ∧
    ∀ k (_ : k < L.length), ∃ g, sa = some ⟨g, 0, none⟩ ∧ ∀ i n, L[i]? = some n → w.cell? ⟨g, i, none⟩ = some n.val := by
  obtain ⟨v, m, e1, e2, e3⟩ := h.st
  rcases e2.2 with ⟨rfl, h0⟩ | ⟨g, cap, cur, rfl, _, hg, h1, h2, h3, h4⟩
  · refine ⟨none, 0, ?_, cell_at e1 0, by omega, by unfold maxLen; omega, fun k hk => by omega⟩
    rw [h0]; exact cell_at e1 1
  · refine ⟨_, cap, cell_at e1 1, cell_at e1 0, h1, h2, fun k hk => ⟨g, rfl, fun i n hn => ?_⟩⟩
    rw [cell_at hg]
    rw [Nat.mul_one] at h4
    have hi := (List.getElem?_eq_some_iff.1 hn).1
    have : (cur.toList.take L.length)[i]? = some n.val := by rw [h4]; simp [hn]
    rw [List.getElem?_take, if_pos hi] at this
    simpa using this

/-- Below a track: the program's own test. -/
def underB (L : List Nd) (i t : Int) : Bool :=
  decide (0 ≤ i) && decide (i < L.length) && (match L[i.toNat]? with | some (.fork u _ _) => decide (t < u) | _ => true)

theorem underB_iff {i t : Nat} : underB L i t = true ↔ Under L i t := by
  unfold underB Under
  by_cases h : i < L.length
  · simp only [h, Bool.and_eq_true, decide_eq_true_eq, Int.toNat_natCast, true_and]
    obtain ⟨n, hn⟩ : ∃ n, L[i]? = some n := ⟨_, List.getElem?_eq_getElem h⟩
    rw [hn]
    cases n with
    | leaf v => simp; omega
    | fork u lo hi => simp; omega
  · simp [h]

theorem storeBelow (h : StoreAt w a T L) (i t : Int) (hR : ∀ e w', e = .returned (.bool (underB L i t)) → Same w w' → R e w') :
    Calls Try.prog 77 #[.pointer (some ⟨a, 0, none⟩), .int .i64 i, .int .i64 t] w R := by
  have HR := hide hR
  clear hR
  by_cases hi : 0 ≤ i ∧ i < L.length
  · obtain ⟨k, rfl⟩ := Int.eq_ofNat_of_zero_le hi.1
    have hk : k < L.length := by omega
    obtain ⟨sa, cap, c1, c0, b1, b2, hn⟩ := h.node
    obtain ⟨g, rfl, hq⟩ := hn k hk
    obtain ⟨n, hnk⟩ : ∃ n, L[k]? = some n := ⟨_, List.getElem?_eq_getElem hk⟩
    have cn := hq k n hnk
    unfold maxLen at b2
    have H := hide h
    have hu : underB L k t = (match L[k]? with | some (.fork u _ _) => decide (t < (u : Int)) | _ => true) := by unfold underB; rw [Int.toNat_natCast]; simp [hk]
    rw [hnk] at hu
    clear h hn hq hnk
    cases n with
    | leaf v =>
      simp only [Nd.val] at cn
      simp only [] at hu
      rw [hu] at HR
      clear hu
      go_enter Try.func77, Try.ntmps77
      go_wp2_with fail
      refine storeIs H.out _ ?_; rintro e rfl
      rw [show (decide (0 ≤ (k : Int)) && decide ((k : Int) < L.length)) = true by simp; omega]
      go_wp2_with fail
      exact HR.out _ _ rfl ((Keeps.refl _ _).alloc _)
    | fork u lo hi =>
      simp only [Nd.val] at cn
      simp only [] at hu
      rw [hu] at HR
      clear hu
      go_enter Try.func77, Try.ntmps77
      go_wp2_with fail
      refine storeIs H.out _ ?_; rintro e rfl
      rw [show (decide (0 ≤ (k : Int)) && decide ((k : Int) < L.length)) = true by simp; omega]
      go_wp2_with fail
      exact HR.out _ _ rfl ((Keeps.refl _ _).alloc _)
  · go_enter Try.func77, Try.ntmps77
    go_wp2_with fail
    refine storeIs h _ ?_; rintro e rfl
    rw [show (decide (0 ≤ i) && decide (i < L.length)) = false by simp; omega]
    go_wp2_with fail
    refine HR.out _ _ (ret_bool ?_) (Keeps.refl _ _)
    unfold underB; simp; omega

end Go.Proofs.Ytohhjdadhdibfaa
