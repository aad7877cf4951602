/- The rules of both, either and not. No program in sight. -/
import Derived.Test.YtohhjdadhdibfaaProdLaw
import Derived.Test.YtohhjdadhdibfaaProdNot
namespace Go.Proofs.Ytohhjdadhdibfaa

variable {A B : Au}

theorem rule_turn (hA : AuOk A) (hB : AuOk B) (hT : A.T = B.T) (h1 : AuOk (prodAu A B 8)) (h2 : AuOk (prodAu B A 8)) : minAu (prodAu A B 8) = minAu (prodAu B A 8) :=
  min_same h1 h2 hT fun l hl => by
    have hl1 : ∀ c ∈ l, c < 2 ^ A.T.toNat := hl
    rw [prod_run0 hA hB 8 hl1, prod_run0 hB hA 8 (by rw [← hT]; exact hl1)]
    cases ac A (runN A 0 l) <;> cases ac B (runN B 0 l) <;> rfl

theorem rule_same (hA : AuOk A) (h1 : AuOk (prodAu A A 8)) : minAu (prodAu A A 8) = minAu A :=
  min_same h1 hA rfl fun l hl => by
    have hl1 : ∀ c ∈ l, c < 2 ^ A.T.toNat := hl
    rw [prod_run0 hA hA 8 hl1]
    cases ac A (runN A 0 l) <;> rfl

theorem not_ac {s : Nat} (hs : s < A.acc.length) : ac (notAu A) s = !ac A s := by
  unfold ac notAu
  simp [List.getD_eq_getElem?_getD, List.getElem?_map, List.getElem?_eq_getElem hs]

theorem not_run (A : Au) (s : Nat) (l : List Nat) : runN (notAu A) s l = runN A s l := rfl

theorem rule_not (hA : AuOk A) (hB : AuOk B) (h1 : AuOk (prodAu A B 8)) (h2 : AuOk (prodAu (notAu A) (notAu B) 14)) : minAu (notAu (prodAu (notAu A) (notAu B) 14)) = minAu (prodAu A B 8) :=
  min_same (notAu_ok h2) h1 rfl fun l hl => by
    have hl1 : ∀ c ∈ l, c < 2 ^ A.T.toNat := hl
    rw [not_run, not_ac (runN_lt h2 l h2.1.2.2.1), prod_run0 (notAu_ok hA) (notAu_ok hB) 14 hl1, prod_run0 hA hB 8 hl1, not_run, not_run, not_ac (runN_lt hA l hA.1.2.2.1), not_ac (runN_lt hB l hB.1.2.2.1)]
    cases ac A (runN A 0 l) <;> cases ac B (runN B 0 l) <;> rfl

theorem not_length (A : Au) : (notAu A).acc.length = A.acc.length := by simp [notAu]

end Go.Proofs.Ytohhjdadhdibfaa
