/- The walks of sibylref23.perm, Turn. -/
import Derived.Test.YtgpbjjnfccalbaaRef23
namespace Go.Proofs.Ytgpbjjnfccalbaa
open Go.RowKit

variable {R : Ending → World → Prop} {w : World} {A : Au}

theorem seen_val {s q : Nat} (hs : s < 64) (hq : q < 6) : bits .or .i64 (s : Int) (wrap64 ((2 : Int) ^ q)) = ((s ||| 2 ^ q : Nat) : Int) := by
  have h6 : 2 ^ q ≤ 64 := two_le (by omega)
  rw [show ((2 : Int) ^ q) = ((2 ^ q : Nat) : Int) by simp]
  generalize 2 ^ q = p at h6
  rw [IntWalk.wrap64_in _ ⟨by omega, by omega⟩, i64_or_nat _ _ (by omega) (by omega)]

set_option maxRecDepth 10000 in
set_option maxHeartbeats 2000000 in
theorem refPerm {v : Value} {l : List Int} {n : Nat} (hv : IntsAt w v l) (hn : n ≤ 6) (hR : ∀ e, e = .returned (.bool (decide ((l.length : Int) = (n : Int) ∧ permB l = true))) → R e w) :
    Calls Try.prog 81 #[v, .int .i64 (n : Int)] w R := by
  have HR := hide hR
  clear hR
  obtain ⟨a, c, rfl, hc1, hc2, hcell⟩ := hv.open
  have HC := hide hcell
  unfold maxLen at hc2
  clear hcell hv
  by_cases hl : l.length = n
  · subst hl
    have hne : (((l.length : Nat) : Int) != ((l.length : Nat) : Int)) = false := by simp
    have hw2 := wrap_two hn
    have HN := hide (fun (h : ¬ ∀ x ∈ l, 0 ≤ x ∧ x < (l.length : Int)) => show decide ((l.length : Int) = (l.length : Int) ∧ permB l = true) = false by
      rw [decide_eq_false_iff_not]
      rintro ⟨_, h2⟩
      exact h (all_range (of_decide_eq_true h2)))
    have HY := hide (fun (h : ∀ x ∈ l, 0 ≤ x ∧ x < (l.length : Int)) => show (((seen l : Nat) : Int) == ((2 ^ l.length : Nat) : Int) - 1) = decide ((l.length : Int) = (l.length : Int) ∧ permB l = true) by
      have h0 : 0 < 2 ^ l.length := Nat.pow_pos (by decide)
      rw [Bool.eq_iff_iff, beq_iff_eq, decide_eq_true_iff]
      have h1 := perm_iff h
      unfold permB
      rw [decide_eq_true_iff, ← h1]
      constructor
      · intro e; exact ⟨rfl, by omega⟩
      · rintro ⟨_, e⟩; omega)
    have h64 := two_le hn
    have h0p : 0 < 2 ^ l.length := Nat.pow_pos (by decide)
    generalize hpp : 2 ^ l.length = p at hw2 HY h64 h0p
    clear hpp
    go_enter Try.func81, Try.ntmps81
    go_wp2_with fail
    go_loopw [5, 6] (fun s i wr => ∃ k : Nat, i = .int .i64 k ∧ k ≤ l.length ∧ s = .int .i64 ((seen (l.take k) : Nat) : Int) ∧ Hid (∀ x ∈ l.take k, 0 ≤ x ∧ x < (l.length : Int)) ∧ wr = w) (fun _ i _ => l.length - (intOf i).toNat)
    case atStart => exact ⟨0, rfl, Nat.zero_le _, rfl, hide (by simp), rfl⟩
    case round =>
      obtain ⟨k, rfl, hk, rfl, hall, rfl⟩ := hrel
      by_cases hlt : k < l.length
      · obtain ⟨b, off, rfl, _, hcl⟩ := HC.out k hlt
        have hck := hcl k hlt
        have HTK := hide (List.take_succ_eq_append_getElem hlt)
        have HMEM := hide (List.getElem_mem hlt)
        generalize l[k] = x at hck HTK HMEM
        clear hcl
        by_cases hx0 : x < 0
        · have HF := hide (HN.out fun h => by have := h x HMEM.out; omega)
          go_wp2_with fail
          all_goals exact HR.out _ (ret_bool HF.out.symm)
        · by_cases hx1 : (l.length : Int) ≤ x
          · have HF := hide (HN.out fun h => by have := h x HMEM.out; omega)
            go_wp2_with fail
            all_goals exact HR.out _ (ret_bool HF.out.symm)
          · obtain ⟨q, rfl⟩ := Int.eq_ofNat_of_zero_le (show 0 ≤ x by omega)
            have hq6 : q < 6 := by omega
            have HX := hide (show (0 : Int) ≤ (q : Int) ∧ (q : Int) < (l.length : Int) by omega)
            have HS64 : Hid (seen (l.take k) < 64) := hide (Nat.lt_of_lt_of_le (seen_lt hall.out) (two_le hn))
            have HSS := hide (show seen (l.take (k + 1)) = seen (l.take k) ||| 2 ^ q by rw [HTK.out, seen_snoc, Int.toNat_natCast])
            generalize seen (l.take k) = s at HS64 HSS ⊢
            have HSV := hide (seen_val HS64.out hq6)
            go_wp2_with fail
            go_roundw
            case rel =>
              refine ⟨k + 1, by go_num, by omega, by rw [HSS.out, HSV.out], hide (fun y hy => ?_), by trivial⟩
              rw [HTK.out] at hy
              rcases List.mem_append.1 hy with hy | hy
              · exact hall.out y hy
              · simp at hy; subst hy; exact HX.out
            case measure => simp [intOf]; omega
      · obtain rfl : k = l.length := by omega
        have hall2 := hall.out
        rw [List.take_length] at hall2 ⊢
        have HF := hide (HY.out hall2)
        clear hall hall2
        generalize seen l = s at HF ⊢
        go_wp2_with fail
        exact HR.out _ (ret_bool HF.out)
  · have hne : (((l.length : Nat) : Int) != ((n : Nat) : Int)) = true := by rw [bne_iff_ne]; omega
    have HF : Hid (decide ((l.length : Int) = (n : Int) ∧ permB l = true) = false) := hide (by
      rw [decide_eq_false_iff_not]
      rintro ⟨h1, _⟩
      exact hl (by exact_mod_cast h1))
    clear hl
    go_enter Try.func81, Try.ntmps81
    go_wp2_with fail
    exact HR.out _ (ret_bool HF.out.symm)

set_option maxRecDepth 10000 in
set_option maxHeartbeats 4000000 in
theorem refTurn {v pv : Value} {l : List Int} (hA : AutoAt w v A) (hok : AuOk A) (hpv : IntsAt w pv l) (hl : (l.length : Int) = A.T) (hp : permB l = true)
    (hR : ∀ e w' u, e = .returned (.tuple #[u, .bool true]) → AutoAt w' u (turnAu A l.length (tb (l.map Int.toNat))) → Same w w' → R e w') :
    Calls Try.prog 53 #[v, pv] w R := by
  have HR := hide hR
  clear hR
  have HOK := hide hok
  have hrange := all_range (of_decide_eq_true hp)
  have hlt : ∀ q ∈ l.map Int.toNat, q < l.length := fun q hq => by
    obtain ⟨y, hy, rfl⟩ := List.mem_map.1 hq
    have := hrange y hy
    omega
  have HM := hide (ints_map fun y hy => (hrange y hy).1)
  have HPV := hide hpv
  obtain ⟨pa, pc, rfl, hp1, hp2, hpcell⟩ := hpv.open
  unfold maxLen at hp2
  have HPC := hide hpcell
  have HRG := hide hrange
  have hn6 : l.length ≤ 6 := by have := hok.1.2.1; omega
  have HTO := hide (turnAu_ok hok (T' := l.length) (g := tb (l.map Int.toNat)) hn6 (fun c _ => by rw [show A.T.toNat = l.length by omega]; exact tb_lt hlt c))
  have HQ := hide hlt
  have hperm := hp
  clear hpv hpcell hrange hlt hp
  obtain ⟨T, acc, next⟩ := A
  obtain ⟨⟨h1, h2, h3, h4, h5⟩, hrows⟩ := hok
  obtain ⟨va, vn, rfl, hacc, hnext, hT⟩ := hA
  simp only at h1 h2 h3 h4 h5 hrows hacc hnext hT hl
  obtain ⟨T, rfl⟩ := Int.eq_ofNat_of_zero_le h1
  obtain rfl : T = l.length := by omega
  obtain ⟨aa, ac, rfl, hc1, hc2, _⟩ := hacc.open
  obtain ⟨na, nc, rfl, hd1, hd2, hcell⟩ := hnext.open
  unfold maxLen at hc2 hd2
  have HC := hide hcell
  have HACC := hide hacc
  have HRO := hide hrows
  have H45 := hide (And.intro h4 h5)
  have hw2 := wrap_two hn6
  have HTA : Hid (turnAu ⟨(l.length : Int), acc, next⟩ l.length (tb (l.map Int.toNat)) = ⟨(l.length : Int), acc, next.map (turnRow (2 ^ l.length) (tb (l.map Int.toNat)))⟩) := hide rfl
  have HWB : Hid (∀ c : Nat, tb (l.map Int.toNat) c < 2 ^ l.length) := hide fun c => tb_lt HQ.out c
  have h64 := two_le hn6
  have HRL : Hid (∀ r ∈ next, r.length = 2 ^ l.length) := hide fun r hr => (hrows r hr).1
  have g1 := heap_new w (.cells #[.int .i64 (l.length : Int), .slice aa acc.length ac, .slice na next.length nc] 25)
  have e1 : (w.alloc (.cells #[.int .i64 (l.length : Int), .slice aa acc.length ac, .slice na next.length nc] 25)).heap.size = w.heap.size + 1 := by simp
  have k1 : Same w (w.alloc (.cells #[.int .i64 (l.length : Int), .slice aa acc.length ac, .slice na next.length nc] 25)) := (Keeps.refl _ w).alloc _
  have g2 := heap_new (w.alloc (.cells #[.int .i64 (l.length : Int), .slice aa acc.length ac, .slice na next.length nc] 25)) (.cells #[.int .i64 0, .slice none 0 0, .slice none 0 0] 25)
  rw [e1] at g2
  have g3 := heap_old g1 (.cells #[.int .i64 0, .slice none 0 0, .slice none 0 0] 25)
  have k2 := k1.alloc (.cells #[.int .i64 0, .slice none 0 0, .slice none 0 0] 25)
  have c0 := cell_at g3 0
  have c1 := cell_at g3 1
  have c2 := cell_at g3 2
  simp only [List.getElem?_toArray, List.getElem?_cons_zero, List.getElem?_cons_succ] at c0 c1 c2
  clear hacc hnext hT hcell g1 e1 k1 g3 h1 h2 h3 h4 h5 hrows hl
  generalize hpp : 2 ^ l.length = p at hw2 HTA HWB h64 HRL
  go_enter Try.func53, Try.ntmps53
  go_wp2_with fail
  refine refPerm (HPV.out.same k2) hn6 ?_; rintro e rfl
  rw [show decide ((l.length : Int) = ((l.length : Nat) : Int) ∧ permB l = true) = true by simp [hperm]]
  clear hperm
  go_wp2_with fail
  have e2 : ((w.alloc (.cells #[.int .i64 (l.length : Int), .slice aa acc.length ac, .slice na next.length nc] 25)).alloc (.cells #[.int .i64 0, .slice none 0 0, .slice none 0 0] 25)).heap.size = w.heap.size + 1 + 1 := by simp
  generalize (w.alloc (.cells #[.int .i64 (l.length : Int), .slice aa acc.length ac, .slice na next.length nc] 25)).alloc (.cells #[.int .i64 0, .slice none 0 0, .slice none 0 0] 25) = w2 at g2 k2 c0 c1 c2 e2 ⊢
  have g3 := heap_new w2 (.cells #[.int .i64 (l.length : Int), .slice aa acc.length ac, .slice none 0 0] 25)
  have k3 : Same w2 (w2.alloc (.cells #[.int .i64 (l.length : Int), .slice aa acc.length ac, .slice none 0 0] 25)) := (Keeps.refl _ w2).alloc _
  rw [e2] at g3
  obtain ⟨W0, hW0⟩ : ∃ W0, W0 = w.heap.size + 1 + 1 := ⟨_, rfl⟩
  have HW0 := hide (hW0.trans e2.symm)
  have hout : OutIn (w2.alloc (.cells #[.int .i64 (l.length : Int), .slice aa acc.length ac, .slice none 0 0] 25)) W0 (w.heap.size + 1 + 1) (l.length : Int) (.slice aa acc.length ac) (.slice none 0 0) [] := ⟨g3, by rw [hW0]; exact Nat.le_refl _, OwnMat.nil _ _⟩
  have HXS := hide (hW0)
  generalize w2.alloc (.cells #[.int .i64 (l.length : Int), .slice aa acc.length ac, .slice none 0 0] 25) = w3 at hout k3 ⊢
  generalize hx : w.heap.size + 1 + 1 = x at hout HXS ⊢
  have C0 := hide c0
  have C1 := hide c1
  have C2 := hide c2
  have HG2 := hide g2
  have HK2 := hide k2
  have HK3 := hide k3
  have HOUT := hide hout
  clear g2 k2 c0 c1 c2 e2 g3 k3 hW0 hx hout hpp
  go_loopw [7] (fun i wr => ∃ (k : Nat) (vn : Value), i = .int .i64 k ∧ k ≤ next.length ∧ Hid (OutIn wr W0 x (l.length : Int) (.slice aa acc.length ac) vn ((next.take k).map (turnRow p (tb (l.map Int.toNat))))) ∧ Same w2 wr) (fun i _ => next.length - (intOf i).toNat)
  case atStart => exact ⟨0, _, rfl, Nat.zero_le _, hide (by simpa using HOUT.out), HK3.out⟩
  case round =>
    obtain ⟨k, vn, rfl, hk, hout, hK⟩ := hrel
    have q2 := Keeps.cell hK C2.out trivial
    by_cases hlt : k < next.length
    · obtain ⟨bl, off, rfl, _, hcl⟩ := HC.out k hlt
      obtain ⟨u, hu, hiu⟩ := hcl k hlt
      have hrl := HRL.out _ (List.getElem_mem hlt)
      have HTK := hide (show (next.take (k + 1)).map (turnRow p (tb (l.map Int.toNat))) = (next.take k).map (turnRow p (tb (l.map Int.toNat))) ++ [turnRow p (tb (l.map Int.toNat)) next[k]] by rw [List.take_succ_eq_append_getElem hlt, List.map_append]; rfl)
      have hrlen : ((next.take k).map (turnRow p (tb (l.map Int.toNat)))).length + 1 ≤ 1000000 := by have := H45.out.1; have := H45.out.2; simp; omega
      obtain ⟨ua, uc, rfl, hf1, hf2, hdell⟩ := hiu.open
      unfold maxLen at hf2
      have HU := hide (Keeps.cell HK2.out hu trivial)
      have HD := hide hdell
      generalize next[k] = row at hrl HTK hf1 hdell HU HD
      generalize (next.take k).map (turnRow p (tb (l.map Int.toNat))) = rows at hout HTK hrlen
      have HRLN := hide hrl
      have HRLEN := hide hrlen
      obtain ⟨ma, mc, rfl⟩ := hout.out.mat.shape
      have HO := hide hout.out
      have HKW := hide hK
      obtain ⟨wo, rfl⟩ : ∃ wo : World, wo = wr := ⟨_, rfl⟩
      clear hcl hu hiu hdell hrl hrlen hout hK
      go_wp2_with fail
      go_loopw [8, 9] (fun rv i wr => ∃ m : Nat, i = .int .i64 m ∧ m ≤ p ∧ Hid (OwnInts wr W0 rv ((List.range m).map (fun c => row.getD (tb (l.map Int.toNat) c) 0))) ∧ Same wo wr ∧ Hid (∀ b, rv.ownBlock = some b → wo.heap.size ≤ b)) (fun _ i _ => p - (intOf i).toNat)
      case atStart => exact ⟨0, rfl, Nat.zero_le _, hide (World.ownsRow_nil _ _ _ _), Keeps.refl _ _, hide (by intro b hb; simp [Value.ownBlock] at hb)⟩
      case round =>
        clear q2
        obtain ⟨m, rfl, hm, hown, hK2, hnew⟩ := hrel
        have x0 := Keeps.cell (HKW.out.tr hK2) C0.out trivial
        by_cases hmp : m < p
        · have q2 := Keeps.cell (HKW.out.tr hK2) C2.out trivial
          have qk := Keeps.cell (HKW.out.tr hK2) HU.out trivial
          have hwl : tb (l.map Int.toNat) m < row.length := by rw [HRLN.out]; exact HWB.out m
          obtain ⟨rb, roff, rfl, _, hrcl⟩ := HD.out (tb (l.map Int.toNat) m) hwl
          have hrk := Keeps.cell ((HK2.out.tr HKW.out).tr hK2) (hrcl (tb (l.map Int.toNat) m) hwl) trivial
          have hge : row.getD (tb (l.map Int.toNat) m) 0 = row[tb (l.map Int.toNat) m] := by simp [List.getD, List.getElem?_eq_getElem hwl]
          have hrs : (List.range (m + 1)).map (fun c => row.getD (tb (l.map Int.toNat) c) 0) = (List.range m).map (fun c => row.getD (tb (l.map Int.toNat) c) 0) ++ [row[tb (l.map Int.toNat) m]] := by rw [List.range_succ, List.map_append, ← hge]; rfl
          generalize row[tb (l.map Int.toNat) m] = y at hrk hrs
          have hcl : ((List.range m).map (fun c => row.getD (tb (l.map Int.toNat) c) 0)).length = m := by simp
          generalize (List.range m).map (fun c => row.getD (tb (l.map Int.toNat) c) 0) = cur at hown hrs hcl
          obtain ⟨g, cap1, w5, hr, hown2, hk5, hg, _⟩ := append_one (P := Try.prog) wr 26 26 3 Try.underlying26 int_info rfl hown.out (by rw [HW0.out]; exact (HKW.out.tr hK2).size) (.int .i64 y) rfl (by omega) (by decide)
          have hk6 : Same wo w5 := hK2.trans hk5 fun z hz _ => ⟨trivial, fun e => by have := hnew.out z e; omega⟩
          have HF : Hid (OwnInts w5 W0 (.slice (some ⟨g, 0, none⟩) (cur.length + 1) cap1) ((List.range (m + 1)).map (fun c => row.getD (tb (l.map Int.toNat) c) 0)) ∧ Same wo w5 ∧ wo.heap.size ≤ g) := hide ⟨by rw [hrs]; unfold OwnInts; simpa using hown2, hk6, by
            rcases hg with hg | hg
            · exact hnew.out g hg
            · exact Nat.le_trans hK2.size hg⟩
          rw [hcl] at hr HF
          obtain ⟨sa, sc, rfl⟩ := hown.out.shape
          rw [hcl] at hr ⊢
          have HWL := hide hwl
          have HKm := hide hK2
          have HHR := hide hr
          have QK := hide qk
          have HRK := hide hrk
          have Q2 := hide q2
          clear hown hown2 hk5 hk6 hg hrs hge hcl hnew hrcl hK2 hr qk hrk q2
          obtain ⟨wm, rfl⟩ : ∃ wm : World, wm = wr := ⟨_, rfl⟩
          go_wp2_with fail
          go_loopw [10, 11] (fun s i wr => ∃ j : Nat, i = .int .i64 j ∧ j ≤ l.length ∧ s = .int .i64 ((tb ((l.map Int.toNat).take j) m : Nat) : Int) ∧ wr = wm) (fun _ i _ => l.length - (intOf i).toNat)
          case atStart => exact ⟨0, rfl, Nat.zero_le _, rfl, rfl⟩
          case round =>
            clear x0
            obtain ⟨j, rfl, hj, rfl, rfl⟩ := hrel
            have c0' := Keeps.cell (HKW.out.tr HKm.out) C0.out trivial
            by_cases hjl : j < l.length
            · obtain ⟨lb, loff, rfl, _, hlcl⟩ := HPC.out j hjl
              have hlk := Keeps.cell ((HK2.out.tr HKW.out).tr HKm.out) (hlcl j hjl) trivial
              have hr0 := HRG.out _ (List.getElem_mem hjl)
              have hjm : j < (l.map Int.toNat).length := by simpa using hjl
              have HTS := hide (show tb ((l.map Int.toNat).take (j + 1)) m = tb ((l.map Int.toNat).take j) m ||| (if m.testBit j then 2 ^ (l[j]).toNat else 0) by
                rw [List.take_succ_eq_append_getElem hjm, tb_snoc]
                rw [show ((l.map Int.toNat).take j).length = j by simp; omega]
                simp)
              have HS64 : Hid (tb ((l.map Int.toNat).take j) m < 64) := hide (tb_lt (n := 6) (fun q hq => Nat.lt_of_lt_of_le (HQ.out q (List.mem_of_mem_take hq)) hn6) m)
              generalize l[j] = y at hlk hr0 HTS
              obtain ⟨q, rfl⟩ := Int.eq_ofNat_of_zero_le hr0.1
              rw [Int.toNat_natCast] at HTS
              have hq6 : q < 6 := by omega
              generalize tb ((l.map Int.toNat).take j) m = sv at HTS HS64 ⊢
              have HTV := hide (turn_val (k := j) HS64.out (show m < 64 by omega) hq6)
              clear hlcl hjm hr0
              go_wp2_with fail
              go_roundw
              case rel => exact ⟨j + 1, by go_num, by omega, by rw [HTS.out, HTV.out], by trivial⟩
              case measure => simp [intOf]; omega
            · obtain rfl : j = l.length := by omega
              have hr := HHR.out
              have qk := QK.out
              have hrk := HRK.out
              have q2 := Q2.out
              rw [show (l.map Int.toNat).take l.length = l.map Int.toNat from List.take_of_length_le (by simp)]
              go_wp2_with (at_builtin; refine wpList_append_run rfl _ _ _ rfl rfl rfl hr ?_; clear hr)
              go_roundw
              case rel => exact ⟨m + 1, by go_num, by omega, hide HF.out.1, HF.out.2.1, hide (by intro b hb; simp [Value.ownBlock] at hb; subst hb; exact HF.out.2.2)⟩
              case measure => simp [intOf]; omega
        · obtain rfl : m = p := by omega
          have hrow : OwnInts wr W0 _ (turnRow m (tb (l.map Int.toNat)) row) := hown.out
          have hlen : (turnRow m (tb (l.map Int.toNat)) row).length = m := by simp [turnRow]
          obtain ⟨sa, sc, rfl⟩ := hrow.shape
          have hout := HO.out.same hK2
          have hnewb := hnew.out
          generalize turnRow m (tb (l.map Int.toNat)) row = row' at hrow HTK hlen hnewb
          obtain ⟨g, cap, w5, hr, hmat5, hk5, _, _, _⟩ := hout.mat.push (by rw [HW0.out]; exact (HKW.out.tr hK2).size) hrow HRLEN.out
          have hb5 := hk5.at hout.blk hout.apart
          have z1 : w5.cell? ⟨x, 2, none⟩ = some (.slice ma rows.length mc) := cell_at hb5 2
          have z2 := free_at hb5 2
          have x2 : wr.cell? ⟨x, 2, none⟩ = some (.slice ma rows.length mc) := cell_at hout.blk 2
          have hout5 := hout.step hk5 hmat5
          have hK6 : Same w2 (w5.setCell ⟨x, 2, none⟩ (.slice (some ⟨g, 0, none⟩) (rows.length + 1) cap)) := by
            refine ((HKW.out.tr hK2).trans hk5 fun y hy _ => ⟨trivial, fun e => ?_⟩).setCell (fun hh => ?_) _
            · obtain ⟨vs, h1, _⟩ := hout.mat
              have := (ownsRow_block h1 e).1
              rw [HW0.out] at this; omega
            · have h1 := hout.low
              have h2 : x < w2.heap.size := hh.1
              rw [HW0.out] at h1; omega
          have HF := hide (And.intro hout5 hK6)
          rw [hlen] at hr
          rw [hlen]
          clear hout5 hK6 hmat5 hk5 hb5 hout hrow hown hnew hnewb hK2 hlen
          go_wp2_with (at_builtin; refine wpList_append_run rfl _ _ _ rfl rfl rfl hr ?_; clear hr)
          go_roundw
          case rel => exact ⟨k + 1, _, by go_num, by omega, hide (by rw [HTK.out]; exact HF.out.1), HF.out.2⟩
          case measure => simp [intOf]; omega
    · obtain rfl : k = next.length := by omega
      have hout2 := hout.out
      rw [List.take_length] at hout2
      obtain ⟨ma, mc, rfl⟩ := hout2.mat.shape
      have x0 : wr.cell? ⟨x, 0, none⟩ = some (.int .i64 (l.length : Int)) := cell_at hout2.blk 0
      have x1 : wr.cell? ⟨x, 1, none⟩ = some (.slice aa acc.length ac) := cell_at hout2.blk 1
      have x2 : wr.cell? ⟨x, 2, none⟩ = some (.slice ma (next.map (turnRow p (tb (l.map Int.toNat)))).length mc) := cell_at hout2.blk 2
      have hbr := hK.at HG2.out trivial
      have r0 : wr.cell? ⟨w.heap.size + 1, 0, none⟩ = some (.int .i64 0) := cell_at hbr 0
      have r1 : wr.cell? ⟨w.heap.size + 1, 1, none⟩ = some (.slice none 0 0) := cell_at hbr 1
      have r2 : wr.cell? ⟨w.heap.size + 1, 2, none⟩ = some (.slice none 0 0) := cell_at hbr 2
      have f0 := free_at hbr 0
      have f1 := free_at hbr 1
      have f2 := free_at hbr 2
      have hml : (next.map (turnRow p (tb (l.map Int.toNat)))).length = next.length := by simp
      rw [hml] at x2 hout2
      clear hout hml
      go_wp2_with fail
      have h3 := set3 (a := .int .i64 (l.length : Int)) (b := .slice aa acc.length ac) (c := .slice ma next.length mc) hbr
      have hom := hout2.mat.keepT h3.2 fun b cur e hc he _ => by
        rintro rfl
        rw [hbr] at hc
        simp only [Option.some.injEq, Obj.cells.injEq] at hc
        obtain ⟨_, rfl, _⟩ := hc
        rcases he with he | he <;> exact absurd he (by decide)
      have hkf : Same w (((wr.setCell ⟨w.heap.size + 1, 0, none⟩ (.int .i64 (l.length : Int))).setCell ⟨w.heap.size + 1, 1, none⟩ (.slice aa acc.length ac)).setCell ⟨w.heap.size + 1, 2, none⟩ (.slice ma next.length mc)) :=
        (((HK2.out.tr hK).setCell (fun hh => by have := hh.1; simp at this; omega) _).setCell (fun hh => by have := hh.1; simp at this; omega) _).setCell (fun hh => by have := hh.1; simp at this; omega) _
      have hb3 := h3.1
      generalize ((wr.setCell ⟨w.heap.size + 1, 0, none⟩ (.int .i64 (l.length : Int))).setCell ⟨w.heap.size + 1, 1, none⟩ (.slice aa acc.length ac)).setCell ⟨w.heap.size + 1, 2, none⟩ (.slice ma next.length mc) = wf at hb3 hkf hom ⊢
      have hfin : AutoAt wf (.agg #[.int .i64 (l.length : Int), .slice aa acc.length ac, .slice ma next.length mc]) (turnAu ⟨(l.length : Int), acc, next⟩ l.length (tb (l.map Int.toNat))) := by
        have hb := HTO.out.bounds
        rw [HTA.out] at hb ⊢
        exact ⟨_, _, by simp, HACC.out.same hkf, hom.rows hb.2, hb.1⟩
      have y0 : wf.cell? ⟨w.heap.size + 1, 0, none⟩ = some (.int .i64 (l.length : Int)) := cell_at hb3 0
      have y1 : wf.cell? ⟨w.heap.size + 1, 1, none⟩ = some (.slice aa acc.length ac) := cell_at hb3 1
      have y2 : wf.cell? ⟨w.heap.size + 1, 2, none⟩ = some (.slice ma next.length mc) := cell_at hb3 2
      refine bodyPost_ret (v := .tuple #[.agg #[.int .i64 (l.length : Int), .slice aa acc.length ac, .slice ma next.length mc], .bool true]) (by simp [results, Try.results53, go_sem, y0, y1, y2]) rfl ?_
      exact HR.out _ _ _ rfl hfin hkf

set_option maxRecDepth 10000 in
set_option maxHeartbeats 2000000 in
theorem refTurnNot {v pv : Value} {l : List Int} (hA : AutoAt w v A) (hok : AuOk A) (hpv : IntsAt w pv l) (hno : ¬ ((l.length : Int) = A.T ∧ permB l = true))
    (hR : ∀ e w', e = .returned (.tuple #[.agg #[.int .i64 0, .slice none 0 0, .slice none 0 0], .bool false]) → Same w w' → R e w') :
    Calls Try.prog 53 #[v, pv] w R := by
  have HR := hide hR
  clear hR
  obtain ⟨T, acc, next⟩ := A
  obtain ⟨n, rfl⟩ := Int.eq_ofNat_of_zero_le (show 0 ≤ T from hok.1.1)
  have hn6 : n ≤ 6 := by have := hok.1.2.1; simp only at this; omega
  obtain ⟨va, vn, rfl, hacc, hnext, hT⟩ := hA
  simp only at hacc hnext hT hno
  obtain ⟨aa, ac, rfl, _⟩ := hacc.open
  obtain ⟨na, nc, rfl, _⟩ := hnext.open
  unfold InI64 at hT
  have HPV := hide hpv
  obtain ⟨pa, pc, rfl, _⟩ := hpv.open
  have g1 := heap_new w (.cells #[.int .i64 (n : Int), .slice aa acc.length ac, .slice na next.length nc] 25)
  have e1 : (w.alloc (.cells #[.int .i64 (n : Int), .slice aa acc.length ac, .slice na next.length nc] 25)).heap.size = w.heap.size + 1 := by simp
  have k1 : Same w (w.alloc (.cells #[.int .i64 (n : Int), .slice aa acc.length ac, .slice na next.length nc] 25)) := (Keeps.refl _ w).alloc _
  have g2 := heap_new (w.alloc (.cells #[.int .i64 (n : Int), .slice aa acc.length ac, .slice na next.length nc] 25)) (.cells #[.int .i64 0, .slice none 0 0, .slice none 0 0] 25)
  rw [e1] at g2
  have g3 := heap_old g1 (.cells #[.int .i64 0, .slice none 0 0, .slice none 0 0] 25)
  have k2 := k1.alloc (.cells #[.int .i64 0, .slice none 0 0, .slice none 0 0] 25)
  have c0 := cell_at g3 0
  simp only [List.getElem?_toArray, List.getElem?_cons_zero] at c0
  clear hacc hnext g1 e1 k1 g3
  clear hok hpv
  go_enter Try.func53, Try.ntmps53
  go_wp2_with fail
  refine refPerm (HPV.out.same k2) hn6 ?_; rintro e rfl
  rw [show decide ((l.length : Int) = (n : Int) ∧ permB l = true) = false by rw [decide_eq_false_iff_not]; exact hno]
  go_wp2_with fail
  generalize (w.alloc (.cells #[.int .i64 (n : Int), .slice aa acc.length ac, .slice na next.length nc] 25)).alloc (.cells #[.int .i64 0, .slice none 0 0, .slice none 0 0] 25) = wz at g2 k2 ⊢
  have y0 : wz.cell? ⟨w.heap.size + 1, 0, none⟩ = some (.int .i64 0) := cell_at g2 0
  have y1 : wz.cell? ⟨w.heap.size + 1, 1, none⟩ = some (.slice none 0 0) := cell_at g2 1
  have y2 : wz.cell? ⟨w.heap.size + 1, 2, none⟩ = some (.slice none 0 0) := cell_at g2 2
  refine bodyPost_ret (v := .tuple #[.agg #[.int .i64 0, .slice none 0 0, .slice none 0 0], .bool false]) (by simp [results, Try.results53, go_sem, y0, y1, y2]) rfl ?_
  exact HR.out _ _ rfl k2

end Go.Proofs.Ytgpbjjnfccalbaa
