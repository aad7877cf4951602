/- A Store in memory, and the walks of bdd's small functions. -/
import Derived.Test.YtohhjdadhdibfaaChecked
import Derived.Test.YtohhjdadhdibfaaMap
import Derived.Test.YtohhjdadhdibfaaNode
namespace Go.Proofs.Ytohhjdadhdibfaa
open Go.RowKit

/-- A node as a value of the interface. -/
def Nd.val : Nd → Value
  | .leaf v => .iface 103 (.agg #[.int .i64 v])
  | .fork t lo hi => .iface 95 (.agg #[.int .i64 t, .int .i64 lo, .int .i64 hi])

theorem info_leaf : (Try.prog.info? 103).map (·.comparable) = some true := by kernel_rfl
theorem info_fork : (Try.prog.info? 95).map (·.comparable) = some true := by kernel_rfl

/-- Two interface values of one type. -/
theorem equal_iface {P : Program} {kt t : TypeId} {ms : Array (String × TypeId)} {x y : Value} {w : World} (hk : P.underlying kt = some (.interface ms)) (hc : (P.info? t).map (·.comparable) = some true) :
    (Op.equal kt (.iface t x) (.iface t y)).run P w = (Op.equalIn 9999 t x y).run P w := by
  obtain ⟨i, hi, hi2⟩ := Option.map_eq_some_iff.1 hc
  show (Op.equalIn (9999 + 1) kt (.iface t x) (.iface t y)).run P w = _
  conv => lhs; unfold Op.equalIn
  simp [run_underlying hk, typeInfo, hi, hi2]

theorem unequal_iface {P : Program} {kt t u : TypeId} {ms : Array (String × TypeId)} {x y : Value} {w : World} (hk : P.underlying kt = some (.interface ms)) (hc : t ≠ u) :
    (Op.equal kt (.iface t x) (.iface u y)).run P w = .ok false w := by
  show (Op.equalIn (9999 + 1) kt (.iface t x) (.iface u y)).run P w = _
  unfold Op.equalIn
  simp [run_underlying hk, hc]

theorem nodeEq (x y : Nd) (w : World) : (Op.equal 98 x.val y.val).run Try.prog w = .ok (decide (x = y)) w := by
  cases x with
  | leaf v => cases y with
    | leaf u =>
      refine (equal_iface Try.underlying98 info_leaf).trans ?_
      simp [go_sem]
      by_cases h : v = u <;> simp [h]
    | fork t lo hi => rw [show Op.equal 98 (Nd.leaf v).val (Nd.fork t lo hi).val = Op.equal 98 (.iface 103 _) (.iface 95 _) from rfl, unequal_iface Try.underlying98 (by decide)]; simp
  | fork t lo hi => cases y with
    | leaf u => rw [show Op.equal 98 (Nd.fork t lo hi).val (Nd.leaf u).val = Op.equal 98 (.iface 95 _) (.iface 103 _) from rfl, unequal_iface Try.underlying98 (by decide)]; simp
    | fork t' lo' hi' =>
      refine (equal_iface Try.underlying98 info_fork).trans ?_
      simp [go_sem]
      by_cases h1 : t = t' <;> by_cases h2 : lo = lo' <;> by_cases h3 : hi = hi' <;> simp [h1, h2, h3, Int.ofNat_inj]

theorem nodeKeys : KeyT Try.prog 98 Nd.val where
  find := find_slow (fun d _ x y => by cases x <;> cases d <;> rfl) nodeEq Try.underlying98
  check := fun b x w => by cases x <;> (cases b <;> kernel_rfl)
  stays := fun x w => by
    unfold Instr.keyThatStays
    rw [if_pos]
    · rfl
    · cases x
      · show Instr.sameBits (9998 + 1 + 1) (.iface _ (.agg _)) (.iface _ (.agg _)) = true
        simp [Instr.sameBits]
      · show Instr.sameBits (9998 + 1 + 1) (.iface _ (.agg _)) (.iface _ (.agg _)) = true
        simp [Instr.sameBits]

/-- The pairs of a store's map. -/
def idPairs (L : List Nd) : List (Nd × Value) := L.zipIdx.map fun p => (p.1, .int .i64 (p.2 : Int))

theorem lookup_zip (n : Nd) : ∀ (L : List Nd) (i : Nat), ((L.zipIdx i).map fun p => (p.1, Value.int .i64 (p.2 : Int))).lookup n = if n ∈ L then some (.int .i64 ((i + L.idxOf n : Nat) : Int)) else none
  | [], _ => by simp
  | x :: L, i => by
    by_cases h : n = x
    · subst h; simp
    · have h1 : (n == x) = false := by simpa using h
      have h2 : (x == n) = false := by simpa using fun e => h e.symm
      simp only [List.zipIdx_cons, List.map_cons, List.lookup, h1, lookup_zip n L (i + 1), List.mem_cons, h, false_or, List.idxOf_cons, h2]
      simp [Nat.add_assoc, Nat.add_comm 1]

theorem lookup_idPairs (n : Nd) (L : List Nd) : (idPairs L).lookup n = if n ∈ L then some (.int .i64 ((L.idxOf n : Nat) : Int)) else none := by
  have := lookup_zip n L 0
  simpa [idPairs] using this

theorem idPairs_snoc (L : List Nd) (n : Nd) : idPairs (L ++ [n]) = idPairs L ++ [(n, .int .i64 (L.length : Int))] := by
  simp [idPairs, List.zipIdx_append]

/-- The Store at block a: its tracks, its nodes. -/
structure StoreAt (w : World) (a : Nat) (T : Nat) (L : List Nd) : Prop where
  wf : WF T L
  st : ∃ v m, w.heap[a]? = some (.cells #[.int .i64 T, v, .map (some m)] 91 (0, 0)) ∧ w.ownsRow 0 98 1 v L.length (L.map Nd.val) ∧ MapAt Nd.val w m (idPairs L)

/-- The blocks that the Store at block a is made of. -/
def Foot (w : World) (a b : Nat) : Prop := b = a ∨ ∃ t v m, w.heap[a]? = some (.cells #[t, v, .map (some m)] 91 (0, 0)) ∧ (b = m ∨ v.ownBlock = some b)

/-- The Store at block a may have grown; nothing else that was there has turned. -/
structure Grew (a : Nat) (w w' : World) : Prop where
  keeps : Keeps (fun b => ¬ Foot w a b) w w'
  foot : ∀ b, Foot w' a b → Foot w a b ∨ w.heap.size ≤ b

theorem Grew.refl (a : Nat) (w : World) : Grew a w w := ⟨Keeps.refl _ _, fun _ h => .inl h⟩

theorem Grew.trans {a : Nat} {w w1 w2 : World} (h : Grew a w w1) (k : Grew a w1 w2) : Grew a w w2 :=
  ⟨h.keeps.trans k.keeps fun x hx hn => ⟨hn, fun hf => (h.foot x hf).elim hn (by omega)⟩,
    fun b hb => (k.foot b hb).elim (fun h1 => h.foot b h1) fun h1 => .inr (Nat.le_trans h.keeps.size h1)⟩

theorem foot_same {a : Nat} {w w' : World} (h : w'.heap[a]? = w.heap[a]?) (b : Nat) : Foot w' a b ↔ Foot w a b := by
  unfold Foot; rw [h]

theorem Grew.of_same {a : Nat} {w w' : World} {o : Obj} (h : w.heap[a]? = some o) (k : Same w w') : Grew a w w' :=
  ⟨k.mono fun _ _ _ => trivial, fun b hb => .inl ((foot_same ((k.at h trivial).trans h.symm) b).1 hb)⟩

/-- What lies below every block of the Store is kept. -/
theorem Grew.below {a B : Nat} {w w' : World} (h : Grew a w w') (hf : ∀ b, Foot w a b → B ≤ b) : Keeps (· < B) w w' :=
  h.keeps.mono fun x _ hx hn => by have := hf x hn; omega

theorem Grew.footB {a B : Nat} {w w' : World} (h : Grew a w w') (hf : ∀ b, Foot w a b → B ≤ b) (hB : B ≤ w.heap.size) : ∀ b, Foot w' a b → B ≤ b :=
  fun b hb => (h.foot b hb).elim (hf b) fun h1 => Nat.le_trans hB h1

/-- Of a Store's blocks: none holds cells of another type. -/
theorem not_foot {w : World} {a b T : Nat} {L : List Nd} {cs : Array Value} {t : TypeId} {fr : Nat × Nat} (h : StoreAt w a T L) (hb : w.heap[b]? = some (.cells cs t fr)) (h1 : t ≠ 91) (h2 : t ≠ 98) : ¬ Foot w a b := by
  obtain ⟨v, m, e1, e2, es, clk, e3, _⟩ := h.st
  rintro (rfl | ⟨t', v', m', e4, e5⟩)
  · rw [e1] at hb; simp at hb; exact h1 hb.2.1.symm
  · rw [e1] at e4
    simp only [Option.some.injEq, Obj.cells.injEq, Array.mk.injEq, List.cons.injEq, Value.map.injEq] at e4
    obtain ⟨⟨_, rfl, rfl, _⟩, _⟩ := e4
    rcases e5 with rfl | e5
    · rw [e3] at hb; cases hb
    · rcases e2.2 with ⟨rfl, _⟩ | ⟨g, cap, cur, rfl, _, hg, _⟩
      · simp [Value.ownBlock] at e5
      · simp [Value.ownBlock] at e5
        subst e5
        rw [hg] at hb; simp at hb; exact h2 hb.2.1.symm

theorem StoreAt.same {w w' : World} {a T : Nat} {L : List Nd} (h : StoreAt w a T L) (k : Same w w') : StoreAt w' a T L := by
  obtain ⟨v, m, e1, e2, e3⟩ := h.st
  refine ⟨h.wf, v, m, k.at e1 trivial, ?_, e3.keep k trivial⟩
  refine ⟨e2.1, ?_⟩
  rcases e2.2 with e4 | ⟨g, cap, cur, rfl, hb, hg, rest⟩
  · exact .inl e4
  · exact .inr ⟨g, cap, cur, rfl, hb, k.at hg trivial, rest⟩

/-- A Store keeps when its own blocks are kept. -/
theorem StoreAt.keep {S : Nat → Prop} {w w' : World} {a T : Nat} {L : List Nd} (h : StoreAt w a T L) (k : Keeps S w w') (hs : ∀ b, Foot w a b → S b) : StoreAt w' a T L := by
  obtain ⟨v, m, e1, e2, e3⟩ := h.st
  refine ⟨h.wf, v, m, k.at e1 (hs _ (.inl rfl)), ?_, e3.keep k (hs _ (.inr ⟨_, _, _, e1, .inl rfl⟩))⟩
  refine ⟨e2.1, ?_⟩
  rcases e2.2 with e4 | ⟨g, cap, cur, rfl, hb, hg, rest⟩
  · exact .inl e4
  · exact .inr ⟨g, cap, cur, rfl, hb, k.at hg (hs _ (.inr ⟨_, _, _, e1, .inr rfl⟩)), rest⟩

variable {R : Ending → World → Prop} {w : World} {a T : Nat} {L : List Nd}

theorem storeLen (h : StoreAt w a T L) (hR : ∀ e, e = .returned (.int .i64 (L.length : Int)) → R e w) : Calls Try.prog 33 #[.pointer (some ⟨a, 0, none⟩)] w R := by
  have HR := hide hR
  clear hR
  obtain ⟨v, m, e1, e2, e3⟩ := h.st
  have c1 : w.cell? ⟨a, 1, none⟩ = some v := cell_at e1 1
  rcases e2.2 with ⟨rfl, h0⟩ | ⟨g, cap, cur, rfl, _⟩
  · rw [h0] at HR
    clear e1 e2 e3 h h0
    go_enter Try.func33, Try.ntmps33
    go_wp2_with fail
    exact HR.out _ rfl
  · clear e1 e2 e3 h
    go_enter Try.func33, Try.ntmps33
    go_wp2_with fail
    exact HR.out _ rfl

theorem storeTracks (h : StoreAt w a T L) (hR : ∀ e, e = .returned (.int .i64 (T : Int)) → R e w) : Calls Try.prog 41 #[.pointer (some ⟨a, 0, none⟩)] w R := by
  have HR := hide hR
  clear hR
  obtain ⟨v, m, e1, _⟩ := h.st
  have c1 : w.cell? ⟨a, 0, none⟩ = some (.int .i64 T) := cell_at e1 0
  clear e1 h
  go_enter Try.func41, Try.ntmps41
  go_wp2_with fail
  exact HR.out _ rfl

theorem storeIs (h : StoreAt w a T L) (i : Int) (hR : ∀ e, e = .returned (.bool (decide (0 ≤ i) && decide (i < L.length))) → R e w) :
    Calls Try.prog 73 #[.pointer (some ⟨a, 0, none⟩), .int .i64 i] w R := by
  have HR := hide hR
  clear hR
  by_cases h0 : 0 ≤ i
  · go_enter Try.func73, Try.ntmps73
    go_wp2_with fail
    refine storeLen h ?_; rintro e rfl
    go_wp2_with fail
    exact HR.out _ (ret_bool (by simp [h0]))
  · go_enter Try.func73, Try.ntmps73
    go_wp2_with fail
    exact HR.out _ (ret_bool (by simp; omega))

theorem isValue (i : Int) (hR : ∀ e, e = .returned (.bool (decide (0 ≤ i) && decide (i ≤ 1099511627776))) → R e w) :
    Calls Try.prog 71 #[.int .i64 i] w R := by
  have HR := hide hR
  clear hR
  by_cases h0 : 0 ≤ i
  · go_enter Try.func71, Try.ntmps71
    go_wp2_with fail
    exact HR.out _ (ret_bool (by simp [h0]))
  · go_enter Try.func71, Try.ntmps71
    go_wp2_with fail
    exact HR.out _ (ret_bool (by simp; omega))

end Go.Proofs.Ytohhjdadhdibfaa
