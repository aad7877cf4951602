/- The walk of prod.Both. -/
import Derived.Test.YtohhjdadhdibfaaProd
import Derived.Test.YtohhjdadhdibfaaProdLaw
namespace Go.Proofs.Ytohhjdadhdibfaa
open Go.RowKit

attribute [local irreducible] wpPlanZ wpPlan wpUp wpQuiet

variable {R : Ending → World → Prop} {w : World} {A B : Au}

/-- A list of pairs, as ints. -/
def castP (l : List (Nat × Nat)) : List (Int × Int) := l.map fun p => ((p.1 : Int), (p.2 : Int))

theorem castP_inj {p q : Nat × Nat} (h : ((p.1 : Int), (p.2 : Int)) = ((q.1 : Int), (q.2 : Int))) : p = q := by
  simp only [Prod.mk.injEq, Int.ofNat_inj] at h
  exact Prod.ext h.1 h.2

theorem castP_mem {l : List (Nat × Nat)} {p : Nat × Nat} : ((p.1 : Int), (p.2 : Int)) ∈ castP l ↔ p ∈ l := by
  unfold castP
  rw [List.mem_map]
  constructor
  · rintro ⟨q, hq, e⟩
    exact castP_inj e ▸ hq
  · intro h
    exact ⟨p, h, rfl⟩

theorem castP_idx (l : List (Nat × Nat)) (p : Nat × Nat) : idxP (castP l) ((p.1 : Int), (p.2 : Int)) = idxP l p :=
  idxP_map (fun p : Nat × Nat => ((p.1 : Int), (p.2 : Int))) fun _ _ h => castP_inj h

theorem castP_snoc (l : List (Nat × Nat)) (p : Nat × Nat) : castP (l ++ [p]) = castP l ++ [((p.1 : Int), (p.2 : Int))] := by simp [castP]

theorem castP_len (l : List (Nat × Nat)) : (castP l).length = l.length := by simp [castP]

/-- All blocks of type t are kept. -/
def CovT (S : Nat → Prop) (w : World) (t : TypeId) : Prop := ∀ b cur, w.heap[b]? = some (.cells cur t (0, 0)) → S b

/-- The automaton on the way. -/
structure OutP (w : World) (B x : Nat) (T : Int) (va vn : Value) (acc : List Bool) (rows : List (List Int)) : Prop where
  blk : w.heap[x]? = some (.cells #[.int .i64 T, va, vn] 25 (0, 0))
  acc : OwnBools w B va acc
  mat : OwnMat w B vn rows

variable {N0 N2 x mb mm mt : Nat} {T n : Int} {va vn vl : Value} {acc : List Bool} {rows : List (List Int)} {l : List (Int × Int)} {S : Nat → Prop} {w' : World}

theorem OutP.keep (h : OutP w N2 x T va vn acc rows) (k : Keeps S w w') (h1 : CovT S w 25) (h2 : CovT S w 4) (h3 : CovT S w 40) (h4 : CovT S w 3) : OutP w' N2 x T va vn acc rows := by
  refine ⟨k.at h.blk (h1 _ _ h.blk), ownsRow_keep h.acc k fun b hb => ?_, h.mat.keepT k fun b cur e hc he _ => ?_⟩
  · obtain ⟨_, cur, hc⟩ := ownsRow_block h.acc hb
    exact h2 _ _ hc
  · rcases he with rfl | rfl
    · exact h3 _ _ hc
    · exact h4 _ _ hc

theorem MkSt.keep (h : MkSt w N0 mb mm mt vl l n) (k : Keeps S w w') (h1 : CovT S w 80) (h2 : CovT S w 82) (h3 : CovT S w 85) (h4 : ∀ b es clk, w.heap[b]? = some (.map es clk) → S b) : MkSt w' N0 mb mm mt vl l n := by
  refine ⟨k.at h.blk (h1 _ _ h.blk), ?_, ownsRow_keep h.own k fun b hb => ?_, k.at h.met (h3 _ _ h.met)⟩
  · obtain ⟨es, clk, hm, _⟩ := id h.map
    exact h.map.keep k (h4 _ _ _ hm)
  · obtain ⟨_, cur, hc⟩ := ownsRow_block h.own hb
    exact h2 _ _ hc

theorem MkSt.cov (h : MkSt w N0 mb mm mt vl l n) {t : TypeId} (h1 : t ≠ 80) (h2 : t ≠ 82) (h3 : t ≠ 85) : CovT (fun b => b ≠ mb ∧ b ≠ mm ∧ b ≠ mt ∧ vl.ownBlock ≠ some b) w t := fun b cur hb => by
  refine ⟨fun e => ?_, fun e => ?_, fun e => ?_, fun e => ?_⟩
  · subst e; have := h.blk; rw [hb] at this; simp at this; exact h1 this.2
  · subst e; obtain ⟨es, clk, hm, _⟩ := h.map; rw [hb] at hm; cases hm
  · subst e; have := h.met; unfold MeterAt at this; rw [hb] at this; simp at this; exact h3 this.2
  · obtain ⟨_, cur', hc⟩ := ownsRow_block h.own e
    rw [hb] at hc; simp at hc; exact h2 hc.2

theorem cov_ne {t u : TypeId} {g : Nat} {cur : Array Value} (hg : w.heap[g]? = some (.cells cur u (0, 0))) (h : t ≠ u) : CovT (· ≠ g) w t := fun b cur' hb e => by
  subst e; rw [hg] at hb; simp at hb; exact h hb.2.symm

theorem cov_own {t u : TypeId} {z N k : Nat} {v : Value} {xs : List Value} (hv : w.ownsRow N u z v k xs) (h : t ≠ u) : CovT (fun b => v.ownBlock ≠ some b) w t := fun b cur hb e => by
  obtain ⟨_, cur', hc⟩ := ownsRow_block hv e
  rw [hb] at hc; simp at hc; exact h hc.2

theorem OutP.next {vn' : Value} {rows' : List (List Int)} (h : OutP w N2 x T va vn acc rows) (k : Keeps (fun b => vn.ownBlock ≠ some b) w w') (hm : OwnMat w' N2 vn' rows') : OutP (w'.setCell ⟨x, 2, none⟩ vn') N2 x T va vn' acc rows' := by
  obtain ⟨vs, h1, _⟩ := h.mat
  have hb := k.at h.blk (cov_own h1 (by decide) _ _ h.blk)
  have ks : Keeps (· ≠ x) w' (w'.setCell ⟨x, 2, none⟩ vn') := (Keeps.refl (· ≠ x) w').setCell (fun hh => hh.2 rfl) _
  have ha : OwnBools w' N2 va acc := ownsRow_keep h.acc k fun b hbb => by
    obtain ⟨_, cur, hc⟩ := ownsRow_block h.acc hbb
    exact cov_own h1 (by decide) _ _ hc
  refine ⟨by rw [heap_setCell_at hb]; simp, ownsRow_keep ha ks fun b hbb => ?_, hm.keepT ks fun b cur e hc he _ => ?_⟩
  · obtain ⟨_, cur, hc⟩ := ownsRow_block ha hbb
    exact cov_ne hb (by decide) _ _ hc
  · rcases he with rfl | rfl
    · exact cov_ne hb (by decide) _ _ hc
    · exact cov_ne hb (by decide) _ _ hc

theorem OutP.accNext {va' : Value} {acc' : List Bool} (h : OutP w N2 x T va vn acc rows) (k : Keeps (fun b => va.ownBlock ≠ some b) w w') (ha : OwnBools w' N2 va' acc') : OutP (w'.setCell ⟨x, 1, none⟩ va') N2 x T va' vn acc' rows := by
  have hb := k.at h.blk (cov_own h.acc (by decide) _ _ h.blk)
  have ks : Keeps (· ≠ x) w' (w'.setCell ⟨x, 1, none⟩ va') := (Keeps.refl (· ≠ x) w').setCell (fun hh => hh.2 rfl) _
  have hm : OwnMat w' N2 vn rows := h.mat.keepT k fun b cur e hc he _ => by
    rcases he with rfl | rfl
    · exact cov_own h.acc (by decide) _ _ hc
    · exact cov_own h.acc (by decide) _ _ hc
  refine ⟨by rw [heap_setCell_at hb]; simp, ownsRow_keep ha ks fun b hbb => ?_, hm.keepT ks fun b cur e hc he _ => ?_⟩
  · obtain ⟨_, cur, hc⟩ := ownsRow_block ha hbb
    exact cov_ne hb (by decide) _ _ hc
  · rcases he with rfl | rfl
    · exact cov_ne hb (by decide) _ _ hc
    · exact cov_ne hb (by decide) _ _ hc

/-- The maker is kept where only the automaton on the way is written. -/
theorem MkSt.far {u : TypeId} {z N k : Nat} {v : Value} {xs : List Value} (h : MkSt w N0 mb mm mt vl l n) (hv : w.ownsRow N u z v k xs) (h1 : 80 ≠ u) (h2 : 82 ≠ u) (h3 : 85 ≠ u) (kk : Keeps (fun b => v.ownBlock ≠ some b) w w') : MkSt w' N0 mb mm mt vl l n :=
  h.keep kk (cov_own hv h1) (cov_own hv h2) (cov_own hv h3) fun b es clk hb e => by
    obtain ⟨_, cur, hc⟩ := ownsRow_block hv e
    rw [hb] at hc; cases hc

theorem MkSt.set {c : Nat} {v : Value} {cur : Array Value} (h : MkSt w N0 mb mm mt vl l n) (hx : w.heap[x]? = some (.cells cur 25 (0, 0))) : MkSt (w.setCell ⟨x, c, none⟩ v) N0 mb mm mt vl l n := by
  have ks : Keeps (· ≠ x) w (w.setCell ⟨x, c, none⟩ v) := (Keeps.refl (· ≠ x) w).setCell (fun hh => hh.2 rfl) _
  exact h.keep ks (cov_ne hx (by decide)) (cov_ne hx (by decide)) (cov_ne hx (by decide)) fun b es clk hb e => by
    subst e; rw [hx] at hb; cases hb

set_option maxRecDepth 10000 in
theorem prodBothNil (v u : Value) (t : Int) (m : Value) (h : v = .pointer none ∨ u = .pointer none) (hv : ∃ p, v = .pointer p) (hu : ∃ p, u = .pointer p) (hR : ∀ e, e = .returned (.tuple #[.pointer none, .int .i64 1]) → R e w) :
    Calls Try.prog 22 #[v, u, .int .i64 t, m] w R := by
  have HR := hide hR
  clear hR
  obtain ⟨p, rfl⟩ := hv
  obtain ⟨q, rfl⟩ := hu
  cases p with
  | none =>
    clear h
    go_enter Try.func22, Try.ntmps22
    go_wp2_with fail
    exact HR.out _ rfl
  | some p =>
    have h2 : q = none := by simpa using h
    subst h2
    clear h
    go_enter Try.func22, Try.ntmps22
    go_wp2_with fail
    exact HR.out _ rfl

set_option maxRecDepth 10000 in
theorem prodBothOdd {Ba Bb da db : Nat} (hA : DFAAt w Ba da A) (hB : DFAAt w Bb db B) (t : Int) (m : Value) (h : A.T ≠ B.T ∨ t < 0 ∨ 15 < t) (hR : ∀ e, e = .returned (.tuple #[.pointer none, .int .i64 1]) → R e w) :
    Calls Try.prog 22 #[.pointer (some ⟨da, 0, none⟩), .pointer (some ⟨db, 0, none⟩), .int .i64 t, m] w R := by
  have HR := hide hR
  clear hR
  by_cases hT : A.T = B.T
  · have hne : (A.T != B.T) = false := by simp [hT]
    have h2 : t < 0 ∨ 15 < t := by
      rcases h with h | h
      · exact absurd hT h
      · exact h
    clear h hT
    rcases h2 with h2 | h2
    all_goals
      go_enter Try.func22, Try.ntmps22
      go_wp2_with fail
      refine dfaTracks hA ?_; rintro e rfl
      go_wp2_with fail
      refine dfaTracks hB ?_; rintro e rfl
      go_wp2_with fail
      exact HR.out _ rfl
  · have hne : (A.T != B.T) = true := by simp [hT]
    clear h hT
    go_enter Try.func22, Try.ntmps22
    go_wp2_with fail
    refine dfaTracks hA ?_; rintro e rfl
    go_wp2_with fail
    refine dfaTracks hB ?_; rintro e rfl
    go_wp2_with fail
    exact HR.out _ rfl

theorem field_next (a b c : Value) (w : World) : (Instr.field 25 (.agg #[a, b, c]) 2).run Try.prog w = .ok c w := by kernel_rfl
attribute [local go_sem] field_next

theorem OwnPairs.elem {B g m c k : Nat} {l : List (Int × Int)} (h : OwnPairs w B (.slice (some ⟨g, 0, none⟩) m c) l) (hk : k < l.length) : w.cell? ⟨g, k * 2, none⟩ = some (.int .i64 (l[k]).1) ∧ w.cell? ⟨g, k * 2 + 1, none⟩ = some (.int .i64 (l[k]).2) := by
  rcases h with ⟨h0, ⟨h1, _⟩ | ⟨g', cap, cur, e1, hB, hg, q1, q2, q3, q4⟩⟩
  · cases h1
  · simp only [Value.slice.injEq, Option.some.injEq, Addr.mk.injEq, and_true] at e1
    obtain ⟨rfl, _, rfl⟩ := e1
    obtain ⟨c1, c2⟩ := pairCells_get l k hk
    rw [← q4] at c1 c2
    rw [List.getElem?_take] at c1 c2
    rw [if_pos (by omega)] at c1 c2
    rw [cell_at hg, cell_at hg]
    exact ⟨by simpa using c1, by simpa using c2⟩

theorem rowN_row (h : AuOk A) {s : Nat} (hs : s < A.next.length) (c : Nat) (hc : c < 2 ^ A.T.toNat) : ∃ hl : c < (A.next[s]).length, (A.next[s])[c] = ((nx A s c : Nat) : Int) := by
  have hr := h.2 _ (List.getElem_mem hs)
  have hl : c < (A.next[s]).length := by rw [hr.1]; exact hc
  refine ⟨hl, ?_⟩
  have h1 := hr.2 _ (List.getElem_mem hl)
  unfold nx
  rw [show A.next.getD s [] = A.next[s] by simp [List.getD, List.getElem?_eq_getElem hs], show (A.next[s]).getD c 0 = (A.next[s])[c] by simp [List.getD, List.getElem?_eq_getElem hl]]
  omega

/-- What holds between two rounds. -/
structure BothSt (w0 w2 wr : World) (N1 x mb mm mt : Nat) (A B : Au) (t : Nat) (n : Int) (k : Nat) (l : List (Nat × Nat)) (outs : List (List Nat)) (vl va vn : Value) : Prop where
  eq : prodL A B k = (l, outs)
  len : outs.length = k
  lim : (l.length : Int) ≤ n ∧ l.length ≤ 400
  mkr : MkSt wr w0.heap.size mb mm mt vl (castP l) (n - l.length)
  out : OutP wr w2.heap.size x A.T va vn ((l.take k).map fun p => tabBit t (ac A p.1) (ac B p.2)) (outs.map fun r => r.map Int.ofNat)
  own : ∀ b, vl.ownBlock = some b → b < N1 ∨ w2.heap.size ≤ b
  old : Keeps (· < w0.heap.size) w0 wr
  mid : Keeps (N1 ≤ ·) w2 wr

/-- A block of the automaton on the way. -/
def TyOk (w : World) (b : Nat) : Prop := ∃ cur ty, w.heap[b]? = some (.cells cur ty (0, 0)) ∧ (ty = 25 ∨ ty = 4 ∨ ty = 40 ∨ ty = 3)

theorem OutP.keepTy {pb : Nat} (h : OutP w N2 x T va vn acc rows) (k : Keeps (fun b => b < pb ∧ TyOk w b) w w') (hpb : w.heap.size ≤ pb) : OutP w' N2 x T va vn acc rows :=
  h.keep k (fun _ cur hb => ⟨Nat.lt_of_lt_of_le (heap_lt hb) hpb, cur, _, hb, .inl rfl⟩) (fun _ cur hb => ⟨Nat.lt_of_lt_of_le (heap_lt hb) hpb, cur, _, hb, .inr (.inl rfl)⟩)
    (fun _ cur hb => ⟨Nat.lt_of_lt_of_le (heap_lt hb) hpb, cur, _, hb, .inr (.inr (.inl rfl))⟩) (fun _ cur hb => ⟨Nat.lt_of_lt_of_le (heap_lt hb) hpb, cur, _, hb, .inr (.inr (.inr rfl))⟩)

/-- The maker's step leaves the automaton on the way alone. -/
theorem tyOk_step {wo w5 : World} {pb : Nat} (h : MkSt w N0 mb mm mt vl l n) (k : Keeps (fun b => b < pb ∧ TyOk wo b) wo w) (k5 : Keeps (fun b => b ≠ mb ∧ b ≠ mm ∧ b ≠ mt ∧ vl.ownBlock ≠ some b) w w5) : Keeps (fun b => b < pb ∧ TyOk wo b) wo w5 :=
  k.trans k5 fun z hz hzz => ⟨hzz, by
    obtain ⟨hlt, cur, ty, hb, hty⟩ := hzz
    have hb' := k.at hb ⟨hlt, cur, ty, hb, hty⟩
    rcases hty with rfl | rfl | rfl | rfl
    all_goals exact h.cov (by decide) (by decide) (by decide) z cur hb'⟩

/-- What holds between two letters. -/
structure InSt (w0 w2 wo wr : World) (N1 mb mm mt : Nat) (A B : Au) (n : Int) (l : List (Nat × Nat)) (p : Nat × Nat) (pb c : Nat) (l' : List (Nat × Nat)) (r : List Nat) (vl u : Value) : Prop where
  eq : rowRun id l ((rowP A B p).take c) = (l', r)
  len : r.length = c
  lim : (l'.length : Int) ≤ n ∧ l'.length ≤ 400
  mkr : MkSt wr w0.heap.size mb mm mt vl (castP l') (n - l'.length)
  okp : Keeps (fun b => b < pb ∧ TyOk wo b) wo wr
  own : ∀ b, vl.ownBlock = some b → (b < N1 ∨ w2.heap.size ≤ b) ∧ b ≠ pb
  row : OwnInts wr pb u (r.map Int.ofNat)
  pbk : wr.heap[pb]? = some (.cells #[.int .i64 (p.1 : Int), .int .i64 (p.2 : Int)] 82 (0, 0))
  old : Keeps (· < w0.heap.size) w0 wr
  mid : Keeps (N1 ≤ ·) w2 wr

/-- A number more in the row. -/
theorem InSt.push {w0 w2 wo wr w6 : World} {N1 : Nat} {l l' l2 : List (Nat × Nat)} {p : Nat × Nat} {pb c id : Nat} {r : List Nat} {vl vl2 u u2 : Value} (h : InSt w0 w2 wo wr N1 mb mm mt A B n l p pb c l' r vl u)
    (w5 : World) (heq : rowRun _root_.id l ((rowP A B p).take (c + 1)) = (l2, r ++ [id])) (hlim : (l2.length : Int) ≤ n ∧ l2.length ≤ 400) (hm : MkSt w5 w0.heap.size mb mm mt vl2 (castP l2) (n - l2.length))
    (hokp : Keeps (fun b => b < pb ∧ TyOk wo b) wo w5) (hown : ∀ b, vl2.ownBlock = some b → (b < N1 ∨ w2.heap.size ≤ b) ∧ b ≠ pb) (hrow : OwnInts w5 pb u (r.map Int.ofNat))
    (hpb : w5.heap[pb]? = some (.cells #[.int .i64 (p.1 : Int), .int .i64 (p.2 : Int)] 82 (0, 0))) (hold : Keeps (· < w0.heap.size) w0 w5) (hmid : Keeps (N1 ≤ ·) w2 w5)
    (h02 : w0.heap.size ≤ w2.heap.size) (h2p : w2.heap.size ≤ pb) (hk6 : Keeps (fun b => u.ownBlock ≠ some b) w5 w6) (hr6 : OwnInts w6 pb u2 ((r ++ [id]).map Int.ofNat)) :
    InSt w0 w2 wo w6 N1 mb mm mt A B n l p pb (c + 1) l2 (r ++ [id]) vl2 u2 := by
  have hge : ∀ b, u.ownBlock = some b → pb ≤ b := fun b hb => (ownsRow_block hrow hb).1
  have hcv : ∀ ty, ty ≠ 3 → CovT (fun b => u.ownBlock ≠ some b) w5 ty := fun ty hty => cov_own hrow hty
  exact
    { eq := heq
      len := by simp [h.len]
      lim := hlim
      mkr := hm.keep hk6 (hcv _ (by decide)) (hcv _ (by decide)) (hcv _ (by decide)) (fun b es clk hb e => by
        obtain ⟨_, cur, hcc⟩ := ownsRow_block hrow e
        rw [hb] at hcc; cases hcc)
      okp := hokp.trans hk6 fun z _ hzz => ⟨hzz, fun e => by have := hge z e; have := hzz.1; omega⟩
      own := hown
      row := hr6
      pbk := hk6.at hpb (hcv _ (by decide) _ _ hpb)
      old := hold.trans hk6 fun z _ hzz => ⟨hzz, fun e => by
        have h1 : z < w0.heap.size := hzz
        have := hge z e
        omega⟩
      mid := hmid.trans hk6 fun z hz hzz => ⟨hzz, fun e => by
        have := hge z e
        omega⟩ }

set_option maxRecDepth 10000 in
set_option maxHeartbeats 8000000 in
theorem prodBoth {w0 : World} {Ba Bb da db : Nat} (hA : DFAAt w0 Ba da A) (hB : DFAAt w0 Bb db B) (hk : Same w0 w) (hT : A.T = B.T) (t : Nat) (ht : t < 16) {mt : Nat} {n : Int} (hm : MeterAt w mt n false) (hmt : w0.heap.size ≤ mt) (h0 : 0 ≤ n) (hn : n ≤ 1000000)
    (hOk : ∀ e w' d', e = .returned (.tuple #[.pointer (some ⟨d', 0, none⟩), .int .i64 0]) → DFAAt w' w0.heap.size d' (prodAu A B t) → Keeps (· < w0.heap.size) w0 w' → R e w')
    (hLim : (n < ((A.acc.length * B.acc.length : Nat) : Int) ∨ 400 < A.acc.length * B.acc.length) → ∀ e w', e = .returned (.tuple #[.pointer none, .int .i64 8]) → Keeps (· < w0.heap.size) w0 w' → R e w') :
    Calls Try.prog 22 #[.pointer (some ⟨da, 0, none⟩), .pointer (some ⟨db, 0, none⟩), .int .i64 t, .pointer (some ⟨mt, 0, none⟩)] w R := by
  have HOK := hide hOk
  have HLIM := hide hLim
  have HA := hide hA
  have HB := hide hB
  have HK := hide hk
  have HM := hide hm
  have HMT := hide hmt
  have HN := hide (And.intro h0 hn)
  have hne : (A.T != B.T) = false := by simp [hT]
  have HTT := hide hT
  have hmm := @run_makeMap Try.prog
  have HAw := hide (hA.same hk)
  have HBw := hide (hB.same hk)
  have HPOS : Hid (1 ≤ A.acc.length * B.acc.length) := hide (Nat.mul_pos (by have := hA.ok.1.2.2.1; omega) (by have := hB.ok.1.2.2.1; omega))
  clear hOk hLim hA hB hk hT hm hmt h0 hn
  go_enter Try.func22, Try.ntmps22
  go_wp2_with fail
  refine dfaTracks HAw.out ?_; rintro e rfl
  go_wp2_with fail
  refine dfaTracks HBw.out ?_; rintro e rfl
  go_wp2_with fail
  have n1 := heap_new w (.map #[] 0)
  have e1 : (w.alloc (.map #[] 0)).heap.size = w.heap.size + 1 := by simp
  have n2 := heap_new (w.alloc (.map #[] 0)) (.cells #[.map (some w.heap.size), .slice none 0 0, .pointer (some ⟨mt, 0, none⟩)] 80)
  have n1' : ((w.alloc (.map #[] 0)).alloc (.cells #[.map (some w.heap.size), .slice none 0 0, .pointer (some ⟨mt, 0, none⟩)] 80)).heap[w.heap.size]? = some (.map #[] 0) := by
    rw [Below.heap_alloc _ _ _ (by rw [e1]; omega)]; exact n1
  have e2 : ((w.alloc (.map #[] 0)).alloc (.cells #[.map (some w.heap.size), .slice none 0 0, .pointer (some ⟨mt, 0, none⟩)] 80)).heap.size = w.heap.size + 1 + 1 := by simp
  have ka : Same w ((w.alloc (.map #[] 0)).alloc (.cells #[.map (some w.heap.size), .slice none 0 0, .pointer (some ⟨mt, 0, none⟩)] 80)) := ((Keeps.refl _ w).alloc _).alloc _
  rw [e1] at n2
  generalize (w.alloc (.map #[] 0)).alloc (.cells #[.map (some w.heap.size), .slice none 0 0, .pointer (some ⟨mt, 0, none⟩)] 80) = wm at n1' n2 ka e2 ⊢
  have st1 : MkSt wm w0.heap.size (w.heap.size + 1) w.heap.size mt (.slice none 0 0) [] n := ⟨n2, ⟨#[], 0, n1', rfl⟩, World.ownsRow_nil _ _ _ _, ka.at HM.out trivial⟩
  have hw0 : w0.heap.size ≤ w.heap.size := HK.out.size
  obtain ⟨mm, hmm'⟩ : ∃ mm, mm = w.heap.size := ⟨_, rfl⟩
  obtain ⟨mb, hmb'⟩ : ∃ mb, mb = w.heap.size + 1 := ⟨_, rfl⟩
  rw [← hmb', ← hmm'] at st1
  have hmbw : w.heap.size + 1 = mb := hmb'.symm
  rw [hmbw]
  have HSZ : Hid (w0.heap.size ≤ mm ∧ w0.heap.size ≤ mb ∧ mm < wm.heap.size ∧ mb < wm.heap.size ∧ w0.heap.size ≤ wm.heap.size ∧ mt < wm.heap.size) := hide ⟨by omega, by omega, by omega, by omega, by omega, by have := heap_lt (ka.at HM.out trivial); omega⟩
  have HKA := hide (HK.out.tr ka)
  have ST1 := hide st1
  clear n1 e1 n2 n1' e2 st1 hmm hmm' hmb' hmbw hw0 HK
  refine dfaTracks (HAw.out.same ka) ?_; rintro e rfl
  clear ka HAw HBw
  go_wp2_with fail
  have nx1 := heap_new wm (.cells #[.int .i64 A.T, .slice none 0 0, .slice none 0 0] 25)
  have kx : Same wm (wm.alloc (.cells #[.int .i64 A.T, .slice none 0 0, .slice none 0 0] 25)) := (Keeps.refl _ wm).alloc _
  have ex : (wm.alloc (.cells #[.int .i64 A.T, .slice none 0 0, .slice none 0 0] 25)).heap.size = wm.heap.size + 1 := by simp
  obtain ⟨x, hx⟩ : ∃ x, x = wm.heap.size := ⟨_, rfl⟩
  rw [← hx] at nx1 ⊢
  generalize wm.alloc (.cells #[.int .i64 A.T, .slice none 0 0, .slice none 0 0] 25) = wx at nx1 kx ex ⊢
  have HSX : Hid (x < wx.heap.size ∧ w0.heap.size ≤ x ∧ wm.heap.size ≤ wx.heap.size) := hide ⟨by omega, by have := HSZ.out.2.2.2.2.1; omega, by omega⟩
  have NX := hide nx1
  have HKX := hide (HKA.out.tr kx)
  have STX := hide (ST1.out.same kx)
  clear nx1 kx ex hx HKA ST1
  refine prodIdNew (l := []) (p := (0, 0)) STX.out (by simp) (by have := HSX.out.2.2; have := HSZ.out.2.2.2.2.1; omega) (by decide) HN.out.1 (by have := HN.out.2; omega) ?_
  rintro e w1 vl rfl st2 k2 own2
  have ST2 := hide st2
  have HK2 : Hid (Keeps (· < w0.heap.size) w0 w1) := hide ((HKX.out.mono fun _ _ _ => trivial).trans k2 fun z hz hzz => ⟨hzz, by
    have h1 := HSZ.out
    have h2 := HMT.out
    have hz' : z < w0.heap.size := hzz
    exact ⟨by omega, by omega, by omega, by simp [Value.ownBlock]⟩⟩)
  have NX2 := hide (k2.at NX.out (by
    have h1 := HSZ.out
    refine ⟨fun e => ?_, fun e => ?_, fun e => ?_, by simp [Value.ownBlock]⟩
    all_goals
      subst e
      first
        | (have h2 := NX.out; rw [STX.out.blk] at h2; simp at h2)
        | (obtain ⟨es, clk, hm, _⟩ := STX.out.map; have h2 := NX.out; rw [hm] at h2; cases h2)
        | (have h2 := NX.out; have h3 := STX.out.met; unfold MeterAt at h3; rw [h3] at h2; simp at h2)))
  have OWN2 := hide own2
  have HS1 : Hid (wx.heap.size ≤ w1.heap.size) := hide k2.size
  clear st2 k2 own2 STX NX HKX
  by_cases h1n : 1 ≤ n
  case neg =>
    have hd : decide (1 ≤ n) = false := decide_eq_false h1n
    rw [hd]
    have HF := hide (HLIM.out (.inl (by have := HPOS.out; omega)) _ w1 rfl HK2.out)
    clear hd h1n
    go_wp2_with fail
    exact HF.out
  have hd : decide (1 ≤ n) = true := decide_eq_true h1n
  rw [hd, show decide (([] : List (Int × Int)).length + 1 ≤ 400) = true by decide]
  have ST3 := hide (ST2.out h1n)
  clear hd
  go_wp2_with fail
  refine dfaTo (HA.out.keep HK2.out fun b _ hb => hb) ?_; rintro e wa va1 rfl oa ka
  obtain ⟨aacc, anx, rfl, _, ma⟩ := oa
  have MA := hide ma
  have KA := hide ka
  clear ma ka
  go_wp2_with fail
  refine dfaTo (HB.out.keep (HK2.out.tr_same KA.out) fun b _ hb => hb) ?_; rintro e w2 vb1 rfl ob kb
  obtain ⟨bacc, bnx, rfl, _, mbx⟩ := ob
  have K12 := hide (KA.out.tr kb)
  have MA2 := hide (MA.out.same kb)
  have MB2 := hide (mbx.below KA.out.size)
  clear mbx kb MA
  have hnA : 0 < A.next.length := by have := HA.out.ok.1.2.2.1; have := HA.out.ok.1.2.2.2.2; omega
  have hnB : 0 < B.next.length := by have := HB.out.ok.1.2.2.1; have := HB.out.ok.1.2.2.2.2; omega
  obtain ⟨ga, gca, rfl⟩ : ∃ ga gca, anx = .slice (some ⟨ga, 0, none⟩) A.next.length gca := by
    obtain ⟨vs, h1, _⟩ := MA2.out
    exact own_shape_pos h1 hnA
  obtain ⟨gb, gcb, rfl⟩ : ∃ gb gcb, bnx = .slice (some ⟨gb, 0, none⟩) B.next.length gcb := by
    obtain ⟨vs, h1, _⟩ := MB2.out
    exact own_shape_pos h1 hnB
  have HGAB : Hid (w1.heap.size ≤ ga ∧ w1.heap.size ≤ gb) := hide ⟨by
    obtain ⟨vs, h1, _⟩ := MA2.out
    exact (ownsRow_block h1 (g := ga) (by simp [Value.ownBlock])).1, by
    obtain ⟨vs, h1, _⟩ := MB2.out
    exact (ownsRow_block h1 (g := gb) (by simp [Value.ownBlock])).1⟩
  have HNAB : Hid (A.next.length = A.acc.length ∧ B.next.length = B.acc.length) := hide ⟨HA.out.ok.1.2.2.2.2, HB.out.ok.1.2.2.2.2⟩
  have hA4 : A.next.length ≤ 400 := by have := HA.out.ok.1.2.2.2.1; have := HNAB.out.1; omega
  have hB4 : B.next.length ≤ 400 := by have := HB.out.ok.1.2.2.2.1; have := HNAB.out.2; omega
  go_wp2_with fail
  have INIT : Hid (BothSt w0 w2 w2 w1.heap.size x mb mm mt A B t n 0 [(0, 0)] [] vl (.slice none 0 0) (.slice none 0 0)) := hide
    { eq := rfl
      len := rfl
      lim := ⟨by simpa using h1n, by decide⟩
      mkr := by simpa [castP] using ST3.out.same K12.out
      out := ⟨K12.out.at NX2.out trivial, World.ownsRow_nil _ _ _ _, OwnMat.nil _ _⟩
      own := fun b hb => by
        rcases OWN2.out b hb with h | h
        · simp [Value.ownBlock] at h
        · left
          obtain ⟨_, cur, hc⟩ := ownsRow_block ST3.out.own hb
          exact heap_lt hc
      old := HK2.out.tr_same K12.out
      mid := Keeps.refl _ _ }
  have HW02 : Hid (w0.heap.size ≤ w2.heap.size) := hide (HK2.out.tr_same K12.out).size
  have HOKA := hide HA.out.ok
  have HOKB := hide HB.out.ok
  go_loopw [16] (fun i wr => ∃ (k : Nat) (l : List (Nat × Nat)) (outs : List (List Nat)) (vl va vn : Value), i = .int .i64 k ∧ k ≤ l.length ∧ Hid (BothSt w0 w2 wr w1.heap.size x mb mm mt A B t n k l outs vl va vn)) (fun i _ => A.acc.length * B.acc.length - (intOf i).toNat)
  case atStart => exact ⟨0, _, _, _, _, _, rfl, Nat.zero_le _, INIT⟩
  case round =>
    obtain ⟨k, l, outs, vl, va, vn, rfl, hk, hst⟩ := hrel
    have ST := hide hst.out
    clear hst
    obtain ⟨vla, vlc, hvl⟩ := ownsRow_shape ST.out.mkr.own
    rw [castP_len] at hvl
    subst hvl
    have b1 := cell_at ST.out.mkr.blk 1
    simp only [List.getElem?_toArray, List.getElem?_cons_zero, List.getElem?_cons_succ] at b1
    have hlN : l.length ≤ A.acc.length * B.acc.length := by
      have := prodK_le HOKA.out HOKB.out k
      rw [ST.out.eq] at this; exact this
    have HLN := hide hlN
    have hl400 : l.length ≤ 400 := ST.out.lim.2
    clear hlN
    by_cases hlt : k < l.length
    · obtain ⟨g, vlc', hg⟩ : ∃ g c, Value.slice vla l.length vlc = .slice (some ⟨g, 0, none⟩) l.length c := by
        have := ST.out.mkr.own
        unfold OwnPairs at this
        rw [castP_len] at this
        exact own_shape_pos this (by omega)
      simp only [Value.slice.injEq, true_and] at hg
      obtain ⟨rfl, rfl⟩ := hg
      have hcl : k < (castP l).length := by rw [castP_len]; exact hlt
      obtain ⟨d0, d1⟩ := OwnPairs.elem ST.out.mkr.own hcl
      have HPK := hide (List.getElem?_eq_getElem hlt)
      have hcg : (castP l)[k] = ((l[k].1 : Int), (l[k].2 : Int)) := by simp [castP]
      rw [hcg] at d0 d1
      have hin := prodK_lt HOKA.out HOKB.out k l[k] (by rw [ST.out.eq]; exact List.getElem_mem hlt)
      generalize l[k] = p at d0 d1 HPK hin
      obtain ⟨p1, p2⟩ := p
      simp only at d0 d1 hin
      have HIN := hide hin
      have hp1 : p1 < A.next.length := by rw [HNAB.out.1]; exact hin.1
      have hp2 : p2 < B.next.length := by rw [HNAB.out.2]; exact hin.2
      clear hcl hcg hin
      -- the rows
      obtain ⟨sa, csa, ra0, _, ro0⟩ := MA2.out.elem (List.getElem?_eq_getElem hp1)
      obtain ⟨sb, csb, rb0, _, rp0⟩ := MB2.out.elem (List.getElem?_eq_getElem hp2)
      have hrl1 := (HOKA.out.2 _ (List.getElem_mem hp1)).1
      have hrl2 := (HOKB.out.2 _ (List.getElem_mem hp2)).1
      rw [← HTT.out] at hrl2
      have hq64 : 2 ^ A.T.toNat ≤ 64 := two_le (by have := HOKA.out.1.2.1; omega)
      have HI1 := hide (fun (w' : World) (k' : Keeps (w1.heap.size ≤ ·) w2 w') => ((ro0.keep k' fun b hb => (ownsRow_block ro0 hb).1).ints (HOKA.out.bounds.2 _ (List.getElem_mem hp1))))
      have HI2 := hide (fun (w' : World) (k' : Keeps (w1.heap.size ≤ ·) w2 w') => ((rp0.keep k' fun b hb => (ownsRow_block rp0 hb).1).ints (HOKB.out.bounds.2 _ (List.getElem_mem hp2))))
      have HN1 := hide (fun c hc => rowN_row HOKA.out hp1 c hc)
      have HN2 := hide (fun c hc => rowN_row HOKB.out hp2 c hc)
      rw [hrl1] at ra0
      rw [hrl2] at rb0
      have HRA := hide (fun (w' : World) (k' : Keeps (w1.heap.size ≤ ·) w2 w') => Keeps.cell k' ra0 HGAB.out.1)
      have HRB := hide (fun (w' : World) (k' : Keeps (w1.heap.size ≤ ·) w2 w') => Keeps.cell k' rb0 HGAB.out.2)
      have HRL := hide (And.intro hrl1 hrl2)
      clear ra0 rb0 ro0 rp0 hrl1 hrl2
      obtain ⟨q, hq⟩ : ∃ q, q = 2 ^ A.T.toNat := ⟨_, rfl⟩
      rw [← hq] at HRA HRB HRL hq64
      have HQ := hide hq
      have HQB : Hid (q = 2 ^ B.T.toNat) := hide (by rw [hq, HTT.out])
      clear hq
      obtain ⟨wo, rfl⟩ : ∃ wo : World, wo = wr := ⟨_, rfl⟩
      have ra1 := HRA.out _ ST.out.mid
      have wpk : Same wo (wo.alloc (.cells #[.int .i64 (p1 : Int), .int .i64 (p2 : Int)] 82)) := (Keeps.refl _ wo).alloc _
      have pbn := heap_new wo (.cells #[.int .i64 (p1 : Int), .int .i64 (p2 : Int)] 82)
      have ra2 := Keeps.cell wpk ra1 trivial
      have pc0 := cell_at pbn 0
      have pc1 := cell_at pbn 1
      simp only [List.getElem?_toArray, List.getElem?_cons_zero, List.getElem?_cons_succ] at pc0 pc1
      have INS : Hid (InSt w0 w2 wo (wo.alloc (.cells #[.int .i64 (p1 : Int), .int .i64 (p2 : Int)] 82)) w1.heap.size mb mm mt A B n l (p1, p2) wo.heap.size 0 l [] (.slice (some ⟨g, 0, none⟩) l.length vlc) (.slice none 0 0)) := hide
        { eq := rfl
          len := rfl
          lim := ST.out.lim
          mkr := ST.out.mkr.same wpk
          okp := wpk.mono fun _ _ _ => trivial
          own := fun b hb => ⟨ST.out.own b hb, fun e => by
            obtain ⟨_, cur, hc⟩ := ownsRow_block ST.out.mkr.own hb
            subst e
            exact Nat.lt_irrefl _ (heap_lt hc)⟩
          row := World.ownsRow_nil _ _ _ _
          pbk := pbn
          old := ST.out.old.tr_same wpk
          mid := ST.out.mid.tr_same wpk }
      have HPB : Hid (w2.heap.size ≤ wo.heap.size) := hide ST.out.mid.size
      obtain ⟨pb, hpb⟩ : ∃ pb, pb = wo.heap.size := ⟨_, rfl⟩
      rw [← hpb] at INS pc0 pc1 HPB
      have HPBE := hide hpb
      go_wp2_with fail
      rw [← hpb]
      generalize wo.alloc (.cells #[.int .i64 (p1 : Int), .int .i64 (p2 : Int)] 82) = w3 at INS ra2 pc0 pc1 ⊢
      clear b1 d0 d1 ra1 ra2 pc0 pc1 pbn wpk hpb
      go_loopw [18, 87] (fun u j wi => ∃ (c : Nat) (l' : List (Nat × Nat)) (r : List Nat) (vl' : Value), j = .int .i64 c ∧ c ≤ q ∧ Hid (InSt w0 w2 wo wi w1.heap.size mb mm mt A B n l (p1, p2) pb c l' r vl' u)) (fun _ j _ => q - (intOf j).toNat)
      case atStart => exact ⟨0, _, _, _, rfl, Nat.zero_le _, INS⟩
      case round =>
        obtain ⟨c, l', r, vl', rfl, hc, hin⟩ := hrel
        have IN := hide hin.out
        clear hin
        obtain ⟨ua, uc, hu⟩ := ownsRow_shape IN.out.row
        have hul : (r.map Int.ofNat).length = c := by rw [List.length_map, IN.out.len]
        rw [hul] at hu
        subst hu
        by_cases hcl : c < q
        · obtain ⟨hl1, hv1⟩ := HN1.out c (by rw [← HQ.out]; exact hcl)
          obtain ⟨hl2, hv2⟩ := HN2.out c (by rw [← HQB.out]; exact hcl)
          obtain ⟨_, _, e1, _, _, hd1⟩ := (HI1.out _ IN.out.mid).open
          simp only [Value.slice.injEq] at e1
          obtain ⟨rfl, _, rfl⟩ := e1
          obtain ⟨ba, oa, rfl, _, ha1⟩ := hd1 c hl1
          have ha := ha1 c hl1
          rw [hv1] at ha
          obtain ⟨_, _, e1, _, _, hd2⟩ := (HI2.out _ IN.out.mid).open
          simp only [Value.slice.injEq] at e1
          obtain ⟨rfl, _, rfl⟩ := e1
          obtain ⟨bb, ob, rfl, _, hb1⟩ := hd2 c hl2
          have hb := hb1 c hl2
          rw [hv2] at hb
          have rb1 := HRB.out _ IN.out.mid
          have pc0 := cell_at IN.out.pbk 0
          have pc1 := cell_at IN.out.pbk 1
          simp only [List.getElem?_toArray, List.getElem?_cons_zero, List.getElem?_cons_succ] at pc0 pc1
          have hrn := row_next (A := A) (B := B) (p := (p1, p2)) (c := c) (by rw [← HQ.out]; exact hcl) IN.out.eq
          simp only at hrn
          have hrle := row_le HOKA.out HOKB.out k (c + 1) (p1, p2)
          rw [ST.out.eq] at hrle
          simp only at hrle
          rw [hrn] at hrle
          simp only at hrle
          have HRN := hide hrn
          have HRLE := hide hrle
          generalize nx A p1 c = s1 at ha HRN HRLE
          generalize nx B p2 c = s2 at hb HRN HRLE
          clear hv1 hv2 hd1 hd2 ha1 hb1 hl1 hl2 hrn hrle
          have hsz := HSZ.out
          have hs1 := HS1.out
          have hsx := HSX.out
          have HOLD : Hid (∀ z, z < w0.heap.size → z ≠ mb ∧ z ≠ mm ∧ z ≠ mt ∧ vl'.ownBlock ≠ some z) := hide fun z hz => ⟨by omega, by omega, by have := HMT.out; omega, fun e => by have := (ownsRow_block IN.out.mkr.own e).1; omega⟩
          have HMID : Hid (∀ z, z < w2.heap.size → w1.heap.size ≤ z → z ≠ mb ∧ z ≠ mm ∧ z ≠ mt ∧ vl'.ownBlock ≠ some z) := hide fun z hz hz1 => ⟨by omega, by omega, by omega, fun e => by rcases (IN.out.own z e).1 with h | h <;> omega⟩
          have HPBK : Hid (pb ≠ mb ∧ pb ≠ mm ∧ pb ≠ mt ∧ vl'.ownBlock ≠ some pb) := by
            refine hide ⟨?_, ?_, ?_, fun e => (IN.out.own pb e).2 rfl⟩
            · intro e
              have h := IN.out.pbk; rw [e, IN.out.mkr.blk] at h; simp at h
            · intro e
              obtain ⟨es, clk, hm, _⟩ := IN.out.mkr.map
              have h := IN.out.pbk; rw [e, hm] at h; cases h
            · intro e
              have h := IN.out.pbk; have h2 := IN.out.mkr.met; unfold MeterAt at h2; rw [e, h2] at h; simp at h
          have HW0 : Hid (w0.heap.size ≤ wr.heap.size ∧ w2.heap.size ≤ wr.heap.size) := hide ⟨IN.out.old.size, IN.out.mid.size⟩
          have HPI : Hid (pb < wr.heap.size) := hide (heap_lt IN.out.pbk)
          clear hsz hs1 hsx
          go_wp2_with fail
          by_cases hmem : (s1, s2) ∈ l'
          · have hrn := HRN.out
            rw [if_pos hmem] at hrn
            refine prodIdHave IN.out.mkr (((s1 : Nat) : Int), ((s2 : Nat) : Int)) ((castP_mem (p := (s1, s2))).2 hmem) ?_; rintro e w5 rfl k5
            rw [castP_idx l' (s1, s2)]
            have hid400 : idxP l' (s1, s2) < 400 := Nat.lt_of_lt_of_le (idxP_lt hmem) IN.out.lim.2
            have HRN2 := hide hrn
            generalize idxP l' (s1, s2) = id at HRN2 hid400
            have row5 : OwnInts w5 pb (.slice ua c uc) (r.map Int.ofNat) := OwnInts.same IN.out.row k5
            obtain ⟨gg, cap1, w6, hr6, hown6, hk6, hg6, _⟩ := append_one (P := Try.prog) w5 40 40 3 Try.underlying40 int_info rfl row5 (Nat.le_of_lt (Nat.lt_of_lt_of_le HPI.out k5.size)) (.int .i64 (id : Int)) rfl (by rw [hul]; omega) (by decide)
            rw [hul] at hr6 hown6
            have HF := hide (IN.out.push w5 HRN2.out IN.out.lim (IN.out.mkr.same k5) (IN.out.okp.tr_same k5) IN.out.own row5 (k5.at IN.out.pbk trivial) (IN.out.old.tr_same k5) (IN.out.mid.tr_same k5) HW02.out HPB.out hk6 (u2 := .slice (some ⟨gg, 0, none⟩) (c + 1) cap1) (by unfold OwnInts; rw [List.map_append]; simpa [hul] using hown6))
            clear hrn row5 hown6 hk6 hg6 k5 ha hb rb1 pc0 pc1
            go_wp2_with (at_builtin; refine wpList_append_run rfl _ _ _ rfl rfl rfl hr6 ?_; clear hr6)
            go_roundw
            case rel => exact ⟨c + 1, _, _, _, by go_num, by omega, HF⟩
            case measure => simp [intOf]; omega
          · have hrn := HRN.out
            rw [if_neg hmem, idxP_new hmem] at hrn
            have hrle := HRLE.out
            rw [if_neg hmem] at hrle
            have HRN2 := hide hrn
            have hcm : (((s1 : Nat) : Int), ((s2 : Nat) : Int)) ∉ castP l' := fun h => hmem ((castP_mem (p := (s1, s2))).1 h)
            refine prodIdNew IN.out.mkr (((s1 : Nat) : Int), ((s2 : Nat) : Int)) hcm HW0.out.1 (by rw [castP_len]; have := IN.out.lim.2; omega) (by have := IN.out.lim.1; omega) (by have := HN.out.2; omega) ?_
            rintro e w5 vl5 rfl st5 k5 own5
            rw [← castP_snoc l' (s1, s2)] at st5
            rw [castP_len]
            have hold5 : Keeps (· < w0.heap.size) w0 w5 := IN.out.old.trans k5 fun z hz hzz => ⟨hzz, HOLD.out z hz⟩
            have hmid5 : Keeps (w1.heap.size ≤ ·) w2 w5 := IN.out.mid.trans k5 fun z hz hzz => ⟨hzz, HMID.out z hz hzz⟩
            by_cases hok : 1 ≤ n - (l'.length : Int) ∧ l'.length + 1 ≤ 400
            · have hd : (decide (1 ≤ n - (l'.length : Int)) && decide (l'.length + 1 ≤ 400)) = true := by simp; omega
              rw [hd]
              have row5 : OwnInts w5 pb (.slice ua c uc) (r.map Int.ofNat) := ownsRow_keep IN.out.row k5 fun b hb => by
                obtain ⟨_, cur, hcc⟩ := ownsRow_block IN.out.row hb
                exact IN.out.mkr.cov (by decide) (by decide) (by decide) b cur hcc
              obtain ⟨gg, cap1, w6, hr6, hown6, hk6, hg6, _⟩ := append_one (P := Try.prog) w5 40 40 3 Try.underlying40 int_info rfl row5 (Nat.le_of_lt (Nat.lt_of_lt_of_le HPI.out k5.size)) (.int .i64 ((l'.length : Nat) : Int)) rfl (by rw [hul]; omega) (by decide)
              rw [hul] at hr6 hown6
              have st6 : MkSt w5 w0.heap.size mb mm mt vl5 (castP (l' ++ [(s1, s2)])) (n - ((l' ++ [(s1, s2)]).length : Nat)) := by
                have := st5 hok.1
                rw [show n - (((l' ++ [(s1, s2)]).length : Nat) : Int) = n - (l'.length : Int) - 1 by simp; omega]
                exact this
              have HF := hide (IN.out.push w5 HRN2.out ⟨by simp; omega, by simp only [List.length_append, List.length_cons, List.length_nil]; exact hok.2⟩ st6 (tyOk_step IN.out.mkr IN.out.okp k5) (fun b hb => by
                rcases own5 b hb with h | h
                · exact IN.out.own b h
                · exact ⟨.inr (Nat.le_trans HW0.out.2 h), by have := HPI.out; omega⟩) row5 (k5.at IN.out.pbk HPBK.out) hold5 hmid5 HW02.out HPB.out hk6 (u2 := .slice (some ⟨gg, 0, none⟩) (c + 1) cap1) (by unfold OwnInts; rw [List.map_append]; simpa [hul] using hown6))
              clear hrn hrle row5 hown6 hk6 hg6 k5 ha hb rb1 pc0 pc1 st5 st6 own5 hold5 hmid5 hd hok hcm
              go_wp2_with (at_builtin; refine wpList_append_run rfl _ _ _ rfl rfl rfl hr6 ?_; clear hr6)
              go_roundw
              case rel => exact ⟨c + 1, _, _, _, by go_num, by omega, HF⟩
              case measure => simp [intOf]; omega
            · have hd : (decide (1 ≤ n - (l'.length : Int)) && decide (l'.length + 1 ≤ 400)) = false := by
                rw [Bool.and_eq_false_iff]
                by_cases h1 : 1 ≤ n - (l'.length : Int)
                · right; simp; omega
                · left; simp; omega
              rw [hd]
              have hlim : n < ((A.acc.length * B.acc.length : Nat) : Int) ∨ 400 < A.acc.length * B.acc.length := by
                simp only [List.length_append, List.length_cons, List.length_nil] at hrle
                omega
              have HF := hide (HLIM.out hlim _ w5 rfl hold5)
              clear hrn hrle k5 ha hb rb1 pc0 pc1 st5 own5 hold5 hmid5 hd hok hcm hlim
              go_wp2_with fail
              exact HF.out
        · obtain rfl : c = q := by omega
          have heq := IN.out.eq
          rw [List.take_of_length_le (by rw [rowP_length, ← HQ.out]; exact Nat.le_refl _)] at heq
          have hsucc := prod_succ ST.out.eq (by rw [ST.out.len]; exact HPK.out) heq
          have hpre : l <+: l' := by have := rowRun_pre id l (rowP A B (p1, p2)); rw [heq] at this; exact this
          have htk : (l'.take (k + 1)).map (fun p => tabBit t (ac A p.1) (ac B p.2)) = (l.take k).map (fun p => tabBit t (ac A p.1) (ac B p.2)) ++ [tabBit t (ac A p1) (ac B p2)] := by
            obtain ⟨m, rfl⟩ := hpre
            have h1 := (List.getElem?_eq_some_iff.1 HPK.out)
            obtain ⟨h2, h3⟩ := h1
            rw [List.take_append_of_le_length (by omega), List.take_succ_eq_append_getElem h2, h3, List.map_append]
            rfl
          have HTK := hide htk
          have HSUCC := hide hsucc
          have hk' : k + 1 ≤ l'.length := by have := hpre.length_le; omega
          have out1 := ST.out.out.keepTy IN.out.okp (by rw [HPBE.out]; exact Nat.le_refl _)
          have hN2 : w2.heap.size ≤ wr.heap.size := IN.out.mid.size
          have hol : outs.length + 1 ≤ 1000000 := by have := ST.out.len; have := ST.out.lim.2; omega
          have hal : ((l.take k).map fun p => tabBit t (ac A p.1) (ac B p.2)).length = k := by simp; omega
          obtain ⟨na, nc, hvn⟩ := out1.mat.shape
          rw [List.length_map] at hvn
          subst hvn
          obtain ⟨aa, ac', hva⟩ := ownsRow_shape out1.acc
          rw [hal] at hva
          subst hva
          have rowb := ownsRow_below IN.out.row HPB.out
          obtain ⟨g5, cap5, w5, hr5, hmat5, hk5, _, _, _⟩ := out1.mat.push hN2 rowb (by rw [List.length_map]; exact hol)
          rw [List.length_map] at hr5 hmat5
          obtain ⟨vsn, hvsn, _⟩ := id out1.mat
          have blk5 := hk5.at out1.blk (cov_own hvsn (by decide) _ _ out1.blk)
          have out2 := out1.next hk5 hmat5
          have mk2 := (IN.out.mkr.far hvsn (by decide) (by decide) (by decide) hk5).set (x := x) (c := 2) (v := .slice (some ⟨g5, 0, none⟩) (outs.length + 1) cap5) blk5
          have pbk2 : (w5.setCell ⟨x, 2, none⟩ (.slice (some ⟨g5, 0, none⟩) (outs.length + 1) cap5)).heap[pb]? = some (.cells #[.int .i64 (p1 : Int), .int .i64 (p2 : Int)] 82 (0, 0)) := by
            have h1 := hk5.at IN.out.pbk (cov_own hvsn (by decide) _ _ IN.out.pbk)
            rw [heap_setCell_ne (cov_ne blk5 (by decide) _ _ h1)]
            exact h1
          have hxw : x < w1.heap.size := by have := HSX.out.1; have := HS1.out; omega
          have hk52 : Keeps (fun b => b ≠ x ∧ (Value.slice na outs.length nc).ownBlock ≠ some b) wr (w5.setCell ⟨x, 2, none⟩ (.slice (some ⟨g5, 0, none⟩) (outs.length + 1) cap5)) := (hk5.mono fun _ _ hz => hz.2).setCell (fun hh => hh.2.1 rfl) _
          have hge2 : ∀ b, (Value.slice na outs.length nc).ownBlock = some b → w2.heap.size ≤ b := fun b hb => (ownsRow_block hvsn hb).1
          have old2 := IN.out.old.trans hk52 fun z _ hzz => (⟨hzz, fun e => by
            have h1 : z < w0.heap.size := hzz
            have := HSX.out.2.1
            omega, fun e => by
            have h1 : z < w0.heap.size := hzz
            have := hge2 z e
            have := HW02.out
            omega⟩ : z < w0.heap.size ∧ z ≠ x ∧ (Value.slice na outs.length nc).ownBlock ≠ some z)
          have mid2 := IN.out.mid.trans hk52 fun z hz hzz => (⟨hzz, fun e => by
            have h1 : w1.heap.size ≤ z := hzz
            omega, fun e => by
            have := hge2 z e
            omega⟩ : w1.heap.size ≤ z ∧ z ≠ x ∧ (Value.slice na outs.length nc).ownBlock ≠ some z)
          have z1 := cell_at blk5 2
          have z2 := free_at blk5 2
          have y1 := cell_at out1.blk 2
          simp only [List.getElem?_toArray, List.getElem?_cons_zero, List.getElem?_cons_succ] at z1 y1
          have hN22 : w2.heap.size ≤ (w5.setCell ⟨x, 2, none⟩ (.slice (some ⟨g5, 0, none⟩) (outs.length + 1) cap5)).heap.size := mid2.size
          have ALL := hide (And.intro out2 (And.intro mk2 (And.intro pbk2 (And.intro old2 (And.intro mid2 hN22)))))
          have HOWN := hide (fun b hb => (IN.out.own b hb).1)
          have HLIM2 := hide IN.out.lim
          have HUP := hide (And.intro hk' hal)
          clear out1 rowb hmat5 hk5 hvsn out2 mk2 pbk2 hk52 hge2 old2 mid2 heq hsucc hpre htk hk' hN22
          go_wp2_with (at_builtin; refine wpList_append_run rfl _ _ _ rfl rfl rfl hr5 ?_; clear hr5)
          generalize w5.setCell ⟨x, 2, none⟩ (.slice (some ⟨g5, 0, none⟩) (outs.length + 1) cap5) = w6 at ALL ⊢
          obtain ⟨out6, mk6, pbk6, old6, mid6, hN26⟩ := ALL.out
          have kd : Same w6 w6.drew := Keeps.drew (Keeps.refl (fun _ => True) w6)
          have outd := out6.keep kd (fun _ _ _ => trivial) (fun _ _ _ => trivial) (fun _ _ _ => trivial) (fun _ _ _ => trivial)
          have pbd := kd.at pbk6 trivial
          have DA6 := hide (HA.out.keep (old6.tr_same kd) fun b _ hb => hb)
          have DB6 := hide (HB.out.keep (old6.tr_same kd) fun b _ hb => hb)
          have hacA : accA A (p1 : Int) = ac A p1 := by
            unfold accA ac inA
            simp only [Int.toNat_natCast]
            rw [show (decide ((0 : Int) ≤ (p1 : Int)) && decide ((p1 : Int) < (A.acc.length : Int))) = true by simp; exact HIN.out.1]
            rfl
          have hacB : accA B (p2 : Int) = ac B p2 := by
            unfold accA ac inA
            simp only [Int.toNat_natCast]
            rw [show (decide ((0 : Int) ≤ (p2 : Int)) && decide ((p2 : Int) < (B.acc.length : Int))) = true by simp; exact HIN.out.2]
            rfl
          have HACA := hide hacA
          have HACB := hide hacB
          have HTK2 := hide HTK.out
          have q0 := bit_test t 0 (by omega)
          have q1 := bit_test t 1 (by omega)
          have q2 := bit_test t 2 (by omega)
          have q3 := bit_test t 3 (by omega)
          simp only [Int.reducePow, Int.pow_zero, Int.ediv_one] at q0 q1 q2 q3
          have s0 : IntKind.i64.wrap 0 = 0 := by decide
          have s1 : IntKind.i64.wrap 1 = 1 := by decide
          have s2 : IntKind.i64.wrap 2 = 2 := by decide
          have s3 : IntKind.i64.wrap 3 = 3 := by decide
          have HT00 : Hid (tabBit t false false = t.testBit 0 ∧ tabBit t false true = t.testBit 1 ∧ tabBit t true false = t.testBit 2 ∧ tabBit t true true = t.testBit 3) := hide ⟨rfl, rfl, rfl, rfl⟩
          obtain ⟨bz, hbz⟩ : ∃ bz, bz = tabBit t (ac A p1) (ac B p2) := ⟨_, rfl⟩
          have HBZ := hide hbz
          obtain ⟨g7, cap7, w7, hr7, hown7, hk7, _, _⟩ := append_one (P := Try.prog) w6.drew 22 22 4 Try.underlying22 bool_info rfl outd.acc (show w2.heap.size ≤ w6.drew.heap.size from hN26) (.bool bz) rfl (by rw [HUP.out.2]; have := ST.out.lim.2; omega) (by decide)
          rw [HUP.out.2] at hr7 hown7
          have hacc7 : OwnBools w7 w2.heap.size (.slice (some ⟨g7, 0, none⟩) (k + 1) cap7) ((l'.take (k + 1)).map fun p => tabBit t (ac A p.1) (ac B p.2)) := by
            unfold OwnBools
            rw [HTK2.out, ← hbz, List.map_append, List.length_append]
            simp only [List.map_cons, List.map_nil, List.length_cons, List.length_nil]
            rw [HUP.out.2]
            exact hown7
          have blk7 := hk7.at outd.blk (cov_own outd.acc (by decide) _ _ outd.blk)
          have pb7 := hk7.at pbd (cov_own outd.acc (by decide) _ _ pbd)
          have out8 := outd.accNext hk7 hacc7
          have mk8 := ((mk6.same kd).far outd.acc (by decide) (by decide) (by decide) hk7).set (x := x) (c := 1) (v := .slice (some ⟨g7, 0, none⟩) (k + 1) cap7) blk7
          have hge7 : ∀ b, (Value.slice aa k ac').ownBlock = some b → w2.heap.size ≤ b := fun b hb => (ownsRow_block outd.acc hb).1
          have hk78 : Keeps (fun b => b ≠ x ∧ (Value.slice aa k ac').ownBlock ≠ some b) w6.drew (w7.setCell ⟨x, 1, none⟩ (.slice (some ⟨g7, 0, none⟩) (k + 1) cap7)) := (hk7.mono fun _ _ hz => hz.2).setCell (fun hh => hh.2.1 rfl) _
          have old8 := (old6.tr_same kd).trans hk78 fun z _ hzz => (⟨hzz, fun e => by
            have h1 : z < w0.heap.size := hzz
            have := HSX.out.2.1
            omega, fun e => by
            have h1 : z < w0.heap.size := hzz
            have := hge7 z e
            have := HW02.out
            omega⟩ : z < w0.heap.size ∧ z ≠ x ∧ (Value.slice aa k ac').ownBlock ≠ some z)
          have mid8 := (mid6.tr_same kd).trans hk78 fun z hz hzz => (⟨hzz, fun e => by
            have h1 : w1.heap.size ≤ z := hzz
            omega, fun e => by
            have := hge7 z e
            omega⟩ : w1.heap.size ≤ z ∧ z ≠ x ∧ (Value.slice aa k ac').ownBlock ≠ some z)
          have NEXT : Hid (BothSt w0 w2 (w7.setCell ⟨x, 1, none⟩ (.slice (some ⟨g7, 0, none⟩) (k + 1) cap7)) w1.heap.size x mb mm mt A B t n (k + 1) l' (outs ++ [r]) vl' (.slice (some ⟨g7, 0, none⟩) (k + 1) cap7) (.slice (some ⟨g5, 0, none⟩) (outs.length + 1) cap5)) := hide
            { eq := HSUCC.out
              len := by simp [ST.out.len]
              lim := HLIM2.out
              mkr := mk8
              out := by rw [List.map_append]; exact out8
              own := HOWN.out
              old := old8
              mid := mid8 }
          have y1 := cell_at blk7 1
          have y2 := free_at blk7 1
          simp only [List.getElem?_toArray, List.getElem?_cons_zero, List.getElem?_cons_succ] at y1
          have OUTD := hide outd.blk
          have PBD := hide pbd
          have BLK7 := hide blk7
          have PB7 := hide pb7
          clear out6 mk6 pbk6 old6 mid6 hN26 kd outd pbd hacA hacB hown7 hacc7 hk7 out8 mk8 hge7 hk78 old8 mid8 blk7 pb7 z1 z2
          generalize ac A p1 = v1 at HACA hbz
          generalize ac B p2 = v2 at HACB hbz
          clear HBZ HTK HTK2
          cases v1
          all_goals cases v2
          all_goals
            first
              | (have hb : bz = t.testBit 0 := hbz.trans HT00.out.1; rw [← hb] at q0; clear hb)
              | (have hb : bz = t.testBit 1 := hbz.trans HT00.out.2.1; rw [← hb] at q1; clear hb)
              | (have hb : bz = t.testBit 2 := hbz.trans HT00.out.2.2.1; rw [← hb] at q2; clear hb)
              | (have hb : bz = t.testBit 3 := hbz.trans HT00.out.2.2.2; rw [← hb] at q3; clear hb)
            clear hbz
            refine wp_region_planz 21 (.take 0 (.take 1 (.take 2 (.take 3 (.take 4 (.take 5 (.take 9 (.take 10 (.take 11 (.one 6 (.one 7 (.take 8 (.one 12 (.one 13 (.take 14 (.take 15 (.take 16 (.take 17 (.one 18 (.one 19 (.take 20 .last))))))))))))))))))))) (fun w' => w'.heap[x]? = some (.cells #[.int .i64 A.T, .slice aa k ac', .slice (some ⟨g5, 0, none⟩) (outs.length + 1) cap5] 25 (0, 0)) ∧ w'.heap[pb]? = some (.cells #[.int .i64 (p1 : Int), .int .i64 (p2 : Int)] 82 (0, 0))) (by kernel_rfl) (by kernel_rfl) ⟨OUTD.out, PBD.out⟩ ?_
            iterate 9
              (first
                 | (apply pz_pass
                    case ho => rfl
                    case hw => rfl
                    go_simp)
                 | (apply pz_take
                    case ho => rfl
                    case hw => rfl
                    case hv =>
                      intro w' hS
                      (have x1 := cell_at hS.1 1; have c0 := cell_at hS.2 0; have c1 := cell_at hS.2 1; simp only [List.getElem?_toArray, List.getElem?_cons_zero, List.getElem?_cons_succ] at x1 c0 c1)
                      go_simp
                      exact rfl
                    go_simp))
            refine pz_one (up_do rfl rfl fun K hK1 => ?_)
            go_simp
            refine dfaAccepts DA6.out (p1 : Int) ?_; rintro e rfl
            rw [HACA.out]
            refine hK1 _ _ _ ⟨OUTD.out, PBD.out⟩ (fun _ h => h) ?_
            clear hK1 K
            refine pz_one (up_do rfl rfl fun K hK1 => ?_)
            go_simp
            refine prodBit _ ?_; rintro e rfl
            (try simp only [Bool.false_eq_true, reduceIte])
            refine hK1 _ _ _ ⟨OUTD.out, PBD.out⟩ (fun _ h => h) ?_
            clear hK1 K
            iterate 1
              (first
                 | (apply pz_pass
                    case ho => rfl
                    case hw => rfl
                    go_simp)
                 | (apply pz_take
                    case ho => rfl
                    case hw => rfl
                    case hv =>
                      intro w' hS
                      (skip)
                      go_simp
                      exact rfl
                    go_simp))
            refine pz_one (up_do rfl rfl fun K hK1 => ?_)
            go_simp
            refine dfaAccepts DB6.out (p2 : Int) ?_; rintro e rfl
            rw [HACB.out]
            refine hK1 _ _ _ ⟨OUTD.out, PBD.out⟩ (fun _ h => h) ?_
            clear hK1 K
            refine pz_one (up_do rfl rfl fun K hK1 => ?_)
            go_simp
            refine prodBit _ ?_; rintro e rfl
            (try simp only [Bool.false_eq_true, reduceIte])
            refine hK1 _ _ _ ⟨OUTD.out, PBD.out⟩ (fun _ h => h) ?_
            clear hK1 K
            iterate 4
              (first
                 | (apply pz_pass
                    case ho => rfl
                    case hw => rfl
                    go_simp)
                 | (apply pz_take
                    case ho => rfl
                    case hw => rfl
                    case hv =>
                      intro w' hS
                      (skip)
                      go_simp
                      exact rfl
                    go_simp))
            refine pz_one (up_do rfl rfl fun K hK1 => ?_)
            go_simp
            refine hK1 _ _ _ ⟨heap_old OUTD.out _, heap_old PBD.out _⟩ (fun _ h => h) ?_
            clear hK1 K
            refine pz_one (up_append _ _ _ rfl rfl rfl ?hs ?hx hr7 _ ⟨BLK7.out, PB7.out⟩ (fun _ h => h) ?_)
            case hs => rfl
            case hx => rfl
            clear hr7
            go_simp
            iterate 1
              (first
                 | (apply pz_pass
                    case ho => rfl
                    case hw => rfl
                    go_simp)
                 | (apply pz_take
                    case ho => rfl
                    case hw => rfl
                    case hv =>
                      intro w' hS
                      (skip)
                      go_simp
                      exact rfl
                    go_simp))
            refine pz_last rfl rfl fun K hK1 => ?_
            go_simp
            refine hK1 _ _ (np_normal ?_)
            clear hK1 K y1 y2 q0 q1 q2 q3
            go_wp2_with fail
            go_roundw
            case rel => exact ⟨k + 1, _, _, _, _, _, by go_num, HUP.out.1, NEXT⟩
            case measure => (have := HLN.out; simp [intOf]; omega)
    · obtain rfl : k = l.length := by omega
      have hdone : (prodL A B l.length).2.length = (prodL A B l.length).1.length := by rw [ST.out.eq]; exact ST.out.len
      have hat := prod_at HOKA.out HOKB.out hdone
      rw [ST.out.eq] at hat
      have hout := ST.out.out
      rw [List.take_length] at hout
      have hau : prodAu A B t = ⟨A.T, l.map (fun p => tabBit t (ac A p.1) (ac B p.2)), outs.map fun r => r.map Int.ofNat⟩ := by
        unfold prodAu
        rw [← hat]
      have hok : AuOk (prodAu A B t) := prod_ok HOKA.out HOKB.out t (by rw [← hat]; exact hl400)
      have hbd := hok.bounds
      rw [hau] at hbd
      have hlen1 : (l.map (fun p => tabBit t (ac A p.1) (ac B p.2))).length = l.length := List.length_map ..
      obtain ⟨aa, ac', hva⟩ := ownsRow_shape hout.acc
      obtain ⟨na, nc, hvn⟩ := hout.mat.shape
      subst hva
      subst hvn
      have HAT : Hid (AutoAt wr (.agg #[.int .i64 A.T, .slice aa (l.map (fun p => tabBit t (ac A p.1) (ac B p.2))).length ac', .slice na (outs.map fun r => r.map Int.ofNat).length nc]) (prodAu A B t)) := hide (by
        rw [hau]
        exact ⟨_, _, rfl, hout.acc.bools, hout.mat.rows hbd.2, hbd.1⟩)
      have x0 := cell_at hout.blk 0
      have x1 := cell_at hout.blk 1
      have x2 := cell_at hout.blk 2
      simp only [List.getElem?_toArray, List.getElem?_cons_zero, List.getElem?_cons_succ] at x0 x1 x2
      have HOKP := hide hok
      have OLD := hide ST.out.old
      clear hdone hat hout hau hok hbd
      generalize (l.map (fun p => tabBit t (ac A p.1) (ac B p.2))).length = q1 at HAT x1
      generalize (outs.map fun r => r.map Int.ofNat).length = q2 at HAT x2
      go_wp2_with fail
      refine autoFrom HAT.out HOKP.out ?_; rintro e w4 d4 rfl dd4 k4
      have HF := hide (HOK.out _ w4 d4 rfl (dd4.below OLD.out.size) (OLD.out.tr_same k4))
      clear dd4 k4
      go_wp2_with fail
      exact HF.out

end Go.Proofs.Ytohhjdadhdibfaa
