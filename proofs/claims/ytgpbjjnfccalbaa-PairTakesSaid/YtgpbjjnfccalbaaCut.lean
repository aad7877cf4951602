/- The walks of cut.is, cut.fix, cut.Fix, cut.Asks. -/
import Derived.Test.YtgpbjjnfccalbaaLawOf
namespace Go.Proofs.Ytgpbjjnfccalbaa
open Go.RowKit

variable {R : Ending → World → Prop} {w : World} {a T : Nat} {L : List Nd}

/-- Node k is node f, track t's bit being up. -/
structure FixOk (L : List Nd) (f t : Nat) (up : Bool) (k : Nat) : Prop where
  lt : k < L.length
  val : ∀ c, val L k c = val L f (setB c t up)
  frm : ∀ t0, From L f t0 → From L k t0

theorem FixOk.prefx {L L' : List Nd} {f t k : Nat} {up : Bool} (h : FixOk L f t up k) (hw : WF T L) (hw' : WF T L') (hp : L <+: L') (hf : f < L.length) : FixOk L' f t up k :=
  ⟨Nat.lt_of_lt_of_le h.lt hp.length_le, fun c => by rw [val_prefix hw hw' hp c k h.lt, val_prefix hw hw' hp _ f hf, h.val],
    fun t0 h0 => (h.frm t0 (fun u lo hi e => h0 u lo hi (by
      obtain ⟨M, rfl⟩ := hp
      rw [List.getElem?_append_left hf]; exact e))).prefx hp h.lt⟩

/-- What is below the track does not look at it. -/
theorem fixOk_self (h : WF T L) {f t : Nat} (hf : f < L.length) (hfr : From L f (t + 1)) (up : Bool) : FixOk L f t up f :=
  ⟨hf, fun c => (val_agree h f (t + 1) _ _ hfr (setB_agree c t up)).symm, fun _ h => h⟩

/-- The pairs of the memory of fix. -/
def Memo (L : List Nd) (t : Nat) (up : Bool) (A : List (Int × Value)) : Prop :=
  ∀ p ∈ A, ∃ f k : Nat, p = ((f : Int), Value.int .i64 (k : Int)) ∧ f < L.length ∧ FixOk L f t up k

theorem Memo.prefx {L L' : List Nd} {t : Nat} {up : Bool} {A : List (Int × Value)} (h : Memo L t up A) (hw : WF T L) (hw' : WF T L') (hp : L <+: L') : Memo L' t up A := fun p hpA => by
  obtain ⟨f, k, e, hf, hk⟩ := h p hpA
  exact ⟨f, k, e, Nat.lt_of_lt_of_le hf hp.length_le, hk.prefx hw hw' hp hf⟩

theorem cutIs (h : StoreAt w a T L) (f t : Int) (hR : ∀ e, e = .returned (.bool (decide (0 ≤ f ∧ f < L.length ∧ 0 ≤ t ∧ t < T))) → R e w) :
    Calls Try.prog 75 #[.pointer (some ⟨a, 0, none⟩), .int .i64 f, .int .i64 t] w R := by
  have HR := hide hR
  clear hR
  by_cases h1 : 0 ≤ f
  · by_cases h2 : f < L.length
    · by_cases h3 : 0 ≤ t
      · go_enter Try.func75, Try.ntmps75
        go_wp2_with fail
        refine storeLen h ?_; rintro e rfl
        go_wp2_with fail
        refine storeTracks h ?_; rintro e rfl
        go_wp2_with fail
        exact HR.out _ (ret_bool (by simp [h1, h2, h3]))
      · go_enter Try.func75, Try.ntmps75
        go_wp2_with fail
        refine storeLen h ?_; rintro e rfl
        go_wp2_with fail
        exact HR.out _ (ret_bool (by simp; omega))
    · go_enter Try.func75, Try.ntmps75
      go_wp2_with fail
      refine storeLen h ?_; rintro e rfl
      go_wp2_with fail
      exact HR.out _ (ret_bool (by simp; omega))
  · go_enter Try.func75, Try.ntmps75
    go_wp2_with fail
    exact HR.out _ (ret_bool (by simp; omega))

def Nd.track : Nd → Int
  | .fork u _ _ => u
  | .leaf _ => -1

theorem trackA_nat {f : Nat} {n : Nd} (hn : L[f]? = some n) : trackA L f = n.track := by
  have := (List.getElem?_eq_some_iff.1 hn).1
  unfold trackA
  rw [if_pos ⟨by omega, by omega⟩, Int.toNat_natCast, hn]
  cases n <;> rfl

theorem kidsA_nat {f u lo hi : Nat} (hn : L[f]? = some (.fork u lo hi)) : kidsA L f = ((lo : Int), (hi : Int)) := by
  have := (List.getElem?_eq_some_iff.1 hn).1
  unfold kidsA
  rw [if_pos ⟨by omega, by omega⟩, Int.toNat_natCast, hn]

/-- The map of fix is none of the Store's blocks. -/
theorem foot_map {A : List (Int × Value)} {m : Nat} (h : StoreAt w a T L) (hm : MapAt (Value.int .i64) w m A) (hne : ∀ v m', w.heap[a]? = some (.cells #[.int .i64 T, v, .map (some m')] 77 (0, 0)) → m ≠ m') : ¬ Foot w a m := by
  obtain ⟨v, m', e1, e2, e3⟩ := h.st
  obtain ⟨es, clk, e4, _⟩ := hm
  rintro (rfl | ⟨t', v', m'', e5, e6⟩)
  · rw [e1] at e4; cases e4
  · rw [e1] at e5
    simp only [Option.some.injEq, Obj.cells.injEq, Array.mk.injEq, List.cons.injEq, Value.map.injEq] at e5
    obtain ⟨⟨_, rfl, rfl, _⟩, _⟩ := e5
    rcases e6 with e6 | e6
    · exact hne _ _ e1 e6
    · rcases e2.2 with ⟨rfl, _⟩ | ⟨g, cap, cur, rfl, _, hg, _⟩
      · simp [Value.ownBlock] at e6
      · simp [Value.ownBlock] at e6
        subst e6
        rw [hg] at e4; cases e4

set_option maxHeartbeats 2000000 in
theorem cutFix0 (t : Nat) (up : Bool) (m : Nat) (ht : t < T) : ∀ (f t0 : Nat) (L : List Nd) (A : List (Int × Value)) (w : World) (R : Ending → World → Prop), StoreAt w a T L → f < L.length → From L f t0 → t0 ≤ T →
    MapAt (Value.int .i64) w m A → ¬ Foot w a m → Memo L t up A → L.length + 2 ^ (T - t0) ≤ 1099511627776 →
    (∀ e w' (k : Nat) L' A', e = .returned (.int .i64 k) → StoreAt w' a T L' → L <+: L' → FixOk L' f t up k → MapAt (Value.int .i64) w' m A' → ¬ Foot w' a m → Memo L' t up A' → L'.length + 1 ≤ L.length + 2 ^ (T - t0) →
      (∀ b, Foot w' a b → Foot w a b ∨ w.heap.size ≤ b) → Keeps (fun b => ¬ Foot w a b ∧ b ≠ m) w w' → R e w') →
    Calls Try.prog 76 #[.pointer (some ⟨a, 0, none⟩), .int .i64 f, .int .i64 t, .bool up, .map (some m)] w R := by
  intro f
  induction f using Nat.strongRecOn with
  | ind f ih =>
    intro t0 L A w R h hf hfr ht0 hm hnf hmemo hb hR
    have HR := hide hR
    have IH := hide ih
    clear hR ih
    have h2p : 1 ≤ 2 ^ (T - t0) := Nat.one_le_two_pow
    obtain ⟨n, hn⟩ : ∃ n, L[f]? = some n := ⟨_, List.getElem?_eq_getElem hf⟩
    have htr := trackA_nat hn
    have HN := hide hn
    -- the ways on which the node is handed back
    have back : From L f (t + 1) → ∀ w1, Same w w1 → R (.returned (.int .i64 f)) w1 := fun hfr1 w1 k1 => by
      obtain ⟨v, m', e1, _⟩ := h.st
      have hfs := foot_same ((k1.at e1 trivial).trans e1.symm)
      exact HR.out _ _ f L A rfl (h.same k1) List.prefix_rfl (fixOk_self h.wf hf hfr1 up) (hm.keep k1 trivial) (fun hh => hnf ((hfs m).1 hh)) hmemo (by omega) (fun b hb => .inl ((hfs b).1 hb)) (k1.mono fun _ _ _ => trivial)
    cases n with
    | leaf v =>
      simp only [Nd.track] at htr
      have HB := hide (back (fun u lo hi e => by rw [hn] at e; cases e))
      clear back hn
      go_enter Try.func76, Try.ntmps76
      go_wp2_with fail
      refine storeTrack h f ?_; rw [htr]; rintro e w1 rfl k1
      go_wp2_with fail
      exact HB.out _ k1
    | fork u lo hi =>
      simp only [Nd.track] at htr
      have hkd := kidsA_nat hn
      have ok := h.wf.ok f _ hn
      by_cases hut : t < u
      · have HB := hide (back (fun u' lo' hi' e => by rw [hn] at e; cases e; omega))
        clear back hn hkd
        go_enter Try.func76, Try.ntmps76
        go_wp2_with fail
        refine storeTrack h f ?_; rw [htr]; rintro e w1 rfl k1
        go_wp2_with fail
        exact HB.out _ k1
      · obtain ⟨ok1, ok2, ok3, ok4, ok5, ok6⟩ := ok
        have hlol := ok5.1
        have hhil := ok6.1
        by_cases hue : u = t
        · subst hue
          -- one of the two kids
          have kid : ∀ w1, Same w w1 → R (.returned (.int .i64 ((if up = true then hi else lo : Nat) : Int))) w1 := fun w1 k1 => by
            obtain ⟨v, m', e1, _⟩ := h.st
            have hfs := foot_same ((k1.at e1 trivial).trans e1.symm)
            refine HR.out _ _ (if up = true then hi else lo) L A rfl (h.same k1) List.prefix_rfl ⟨by split <;> assumption, fun c => ?_, fun t1 h1 => ?_⟩ (hm.keep k1 trivial) (fun hh => hnf ((hfs m).1 hh)) hmemo (by omega) (fun b hb => .inl ((hfs b).1 hb)) (k1.mono fun _ _ _ => trivial)
            · rw [val_fork h.wf hn, setB_at]
              cases up
              · exact (val_agree h.wf lo _ _ _ ok5.from (setB_agree c u false)).symm
              · exact (val_agree h.wf hi _ _ _ ok6.from (setB_agree c u true)).symm
            · have h2 := h1 u lo hi hn
              split
              · intro u' l' r' e; have := ok6.2 u' l' r' e; omega
              · intro u' l' r' e; have := ok5.2 u' l' r' e; omega
          have HK := hide kid
          have hee : ((u : Int) == (u : Int)) = true := by simp
          clear kid back hn hut ok1 ok2 ok3 ok4 ok5 ok6
          cases up
          all_goals
            go_enter Try.func76, Try.ntmps76
            go_wp2_with fail
            refine storeTrack h f ?_; rw [htr]; rintro e w1 rfl k1
            go_wp2_with fail
            refine storeKids (h.same k1) f ?_; rw [hkd]; rintro e w2 rfl k2
            simp only []
            go_wp2_with fail
            exact HK.out _ (k1.tr k2)
        · have hul : u < t := by omega
          have hu0 : t0 ≤ u := hfr u lo hi hn
          have hee : ((u : Int) == (t : Int)) = false := by simp; omega
          have hlo1 := ok5.from
          have hhi1 := ok6.from
          have hq : ∃ q, 2 ^ (T - (u + 1)) = q ∧ q + q ≤ 2 ^ (T - t0) := by
            refine ⟨_, rfl, ?_⟩
            have : 2 ^ (T - (u + 1)) + 2 ^ (T - (u + 1)) = 2 ^ (T - u) := by
              rw [show T - u = (T - (u + 1)) + 1 by omega, Nat.pow_succ]; omega
            rw [this]
            exact Nat.pow_le_pow_right (by decide) (by omega)
          have HQ := hide hq
          have HH := hide (And.intro hlo1 hhi1)
          have hwf := h.wf
          have HW := hide hwf
          have ml := hm
          obtain ⟨es0, clk0, em0, _⟩ := ml
          have hmlt := heap_lt em0
          clear em0 back hq hlo1 hhi1 ok4 ok5 ok6 hwf
          go_enter Try.func76, Try.ntmps76
          go_wp2_with fail
          refine storeTrack h f ?_; rw [htr]; rintro e w1 rfl k1
          go_wp2_with fail
          refine storeKids (h.same k1) f ?_; rw [hkd]; rintro e w2 rfl k2
          simp only []
          have k12 := k1.tr k2
          have h2 := h.same k12
          have hm2 := hm.keep k12 trivial
          have hfs : ∀ b, Foot w2 a b ↔ Foot w a b := by
            obtain ⟨v, m', e1, _⟩ := h.st
            exact foot_same ((k12.at e1 trivial).trans e1.symm)
          have hl := run_lookup_at (intKeys Try.underlying3) Try.underlying90 (int_zero w2) hm2 (f : Int)
          have K12 := hide k12
          have HFS := hide hfs
          have HM2 := hide hm2
          clear hm hm2 k1 k2 k12 hfs
          cases hlk : A.lookup (f : Int) with
          | some v =>
            obtain ⟨f', k', e, hf', hk'⟩ := hmemo _ (lookup_mem hlk)
            simp only [Prod.mk.injEq, Int.ofNat_inj] at e
            obtain ⟨rfl, rfl⟩ := e
            rw [hlk] at hl
            simp only [Option.getD_some, Option.isSome_some] at hl
            have HK := hide hk'
            clear hlk hk' hn
            go_wp2_with fail
            exact HR.out _ _ k' L A rfl h2 List.prefix_rfl HK.out HM2.out (fun hh => hnf ((HFS.out m).1 hh)) hmemo (by omega) (fun b hb => .inl ((HFS.out b).1 hb)) (K12.out.mono fun _ _ _ => trivial)
          | none =>
            rw [hlk] at hl
            simp only [Option.getD_none, Option.isSome_none] at hl
            clear hlk hn
            go_wp2_with fail
            refine IH.out lo ok2 (u + 1) L A _ _ h2 hlol HH.out.1 (by omega) HM2.out (fun hh => hnf ((HFS.out m).1 hh)) hmemo (by obtain ⟨q, e, e1⟩ := HQ.out; omega) ?_
            rintro e w3 k3 L3 A3 rfl s3 p3 x3 m3 n3 o3 b3 t3 q3
            have hwf3 := s3.wf
            have hhi3 : hi < L3.length := Nat.lt_of_lt_of_le hhil p3.length_le
            have hhif : From L3 hi (u + 1) := HH.out.2.prefx p3 hhil
            have P3 := hide p3
            have X3 := hide x3
            have O3 := hide o3
            have B3 := hide b3
            have T3 := hide t3
            have Q3 := hide q3
            have N3 := hide n3
            clear p3 x3 o3 b3 t3 q3 n3 hl
            go_wp2_with fail
            refine IH.out hi ok3 (u + 1) L3 A3 _ _ s3 hhi3 hhif (by omega) m3 N3.out O3.out (by obtain ⟨q, e, e1⟩ := HQ.out; have := B3.out; omega) ?_
            rintro e w4 k4 L4 A4 rfl s4 p4 x4 m4 n4 o4 b4 t4 q4
            have hwf4 := s4.wf
            have P4 := hide p4
            have X4 := hide x4
            have O4 := hide o4
            have B4 := hide b4
            have T4 := hide t4
            have Q4 := hide q4
            have N4 := hide n4
            clear p4 x4 o4 b4 t4 q4 n4
            -- the two kids, in the store as it is now
            have x3' := X3.out.prefx hwf3 hwf4 P4.out (Nat.lt_of_lt_of_le hlol P3.out.length_le)
            have hp := P3.out.trans P4.out
            have f3 : From L4 k3 (u + 1) := x3'.frm _ (HH.out.1.prefx hp hlol)
            have f4 : From L4 k4 (u + 1) := X4.out.frm _ (hhif.prefx P4.out hhi3)
            obtain ⟨k5, mk5, fr5, v5⟩ := mkA_made hwf4 (show u < T from ok1) (f3.under x3'.lt) (f4.under X4.out.lt)
            have hlen5 := mkA_len T L4 u k3 k4
            have hb4 : L4.length < 1099511627776 := by obtain ⟨q, e, e1⟩ := HQ.out; have := B3.out; have := B4.out; omega
            generalize hr5 : mkA T L4 u k3 k4 = r5 at mk5 fr5 v5 hlen5
            have R5 := hide hr5
            have hfix : FixOk r5.1 f t up k5 := by
              have pall := hp.trans mk5.pre
              refine ⟨mk5.lt, fun c => ?_, fun t1 h1 => ?_⟩
              · rw [v5, val_prefix HW.out mk5.wf pall _ f hf, val_fork HW.out HN.out, setB_ne c t up hue]
                split
                · rw [X4.out.val, val_prefix HW.out hwf4 hp _ hi hhil]
                · rw [x3'.val, val_prefix HW.out hwf4 hp _ lo hlol]
              · have h2 := h1 u lo hi (get_prefix pall HN.out)
                intro u' l' r' e
                have := fr5 u' l' r' e
                omega
            have FX := hide hfix
            have M5 := hide mk5
            have L5 := hide hlen5
            have num5 := mk5.num
            clear hr5 x3' f3 f4 mk5 fr5 v5 hlen5 hfix
            go_wp2_with fail
            refine storeMk s4 _ _ _ hb4 ?_
            rw [R5.out]
            rintro e w5 rfl s5 g5
            rw [num5]
            -- the map is none of the Store's
            obtain ⟨es4, clk4, em4, _⟩ := id m4
            have hml4 := heap_lt em4
            have m5 := m4.keep g5.keeps N4.out
            have n5 : ¬ Foot w5 a m := fun hh => (g5.foot m hh).elim N4.out (by omega)
            obtain ⟨w6, A6, hr6, m6, q6, kk6⟩ := run_update_any (intKeys Try.underlying3) Try.underlying90 m5 (f : Int) (.int .i64 (k5 : Int))
            have s6 := s5.keep kk6 (fun b hb => by rintro rfl; exact n5 hb)
            have hf6 : ∀ b, Foot w6 a b ↔ Foot w5 a b := by
              obtain ⟨v, m', e1, _⟩ := s5.st
              exact foot_same ((kk6.at e1 (by rintro rfl; exact n5 (.inl rfl))).trans e1.symm)
            have memo6 : Memo r5.1 t up A6 := fun p hpA => by
              rcases q6 p hpA with h1 | h1
              · exact (O4.out.prefx hwf4 M5.out.wf M5.out.pre) p h1
              · exact ⟨f, k5, h1, Nat.lt_of_lt_of_le hf (hp.trans M5.out.pre).length_le, FX.out⟩
            have sz2 : w.heap.size ≤ w2.heap.size := K12.out.size
            have sz3 : w2.heap.size ≤ w3.heap.size := Q3.out.size
            have sz4 : w3.heap.size ≤ w4.heap.size := Q4.out.size
            have hfoot : ∀ b, Foot w6 a b → Foot w a b ∨ w.heap.size ≤ b := fun b hb => by
              rcases g5.foot b ((hf6 b).1 hb) with h1 | h1
              · rcases T4.out b h1 with h2 | h2
                · rcases T3.out b h2 with h3 | h3
                  · exact .inl ((HFS.out b).1 h3)
                  · exact .inr (by omega)
                · exact .inr (by omega)
              · exact .inr (by omega)
            have hkeep : Keeps (fun b => ¬ Foot w a b ∧ b ≠ m) w w6 := by
              refine K12.out.trans (S' := fun b => ¬ Foot w2 a b ∧ b ≠ m) (Q3.out.trans (S' := fun b => ¬ Foot w3 a b ∧ b ≠ m) (Q4.out.trans (S' := fun b => ¬ Foot w4 a b ∧ b ≠ m) (g5.keeps.trans kk6 (fun x _ hx => hx)) ?_) ?_) ?_
              · intro x hx hs
                exact ⟨hs, fun hh => (T4.out x hh).elim hs.1 (by omega), hs.2⟩
              · intro x hx hs
                exact ⟨hs, fun hh => (T3.out x hh).elim hs.1 (by omega), hs.2⟩
              · intro x hx hs
                exact ⟨trivial, fun hh => hs.1 ((HFS.out x).1 hh), hs.2⟩
            have HF6 := hide (And.intro s6 (And.intro m6 (And.intro memo6 (And.intro hfoot (And.intro hkeep (fun hh : Foot w6 a m => n5 ((hf6 m).1 hh)))))))
            clear s6 m6 memo6 hfoot hkeep hf6 kk6 q6 m5 n5 s5 g5
            go_wp2_with fail
            refine HR.out _ _ k5 r5.1 A6 rfl HF6.out.1 (hp.trans M5.out.pre) FX.out HF6.out.2.1 HF6.out.2.2.2.2.2 HF6.out.2.2.1 ?_ HF6.out.2.2.2.1 HF6.out.2.2.2.2.1
            obtain ⟨q, e, e1⟩ := HQ.out
            have := B3.out
            have := B4.out
            have := L5.out
            omega

end Go.Proofs.Ytgpbjjnfccalbaa
