/- The order of names. -/
import Derived.Test.YthnbinlllmkabaaGen
import Derived.WalkLawsBesides
namespace Go.Proofs.Ythnbinlllmkabaa
open Go.RowKit
set_option linter.unusedVariables false
set_option linter.unusedSimpArgs false
theorem leq_less : ∀ a b : List UInt8, (Op.bytesLess a b || a == b) = !Op.bytesLess b a
  | [], [] => by simp [Op.bytesLess]
  | [], y :: b => by simp [Op.bytesLess]
  | x :: a, [] => by simp [Op.bytesLess]
  | x :: a, y :: b => by
    have ih := leq_less a b
    simp only [Op.bytesLess]
    rcases Nat.lt_trichotomy x.toNat y.toNat with h | h | h
    · have h1 : x < y := h
      have h2 : ¬ y < x := fun h' => by have : y.toNat < x.toNat := h'; omega
      have h3 : ¬ y = x := fun e => by subst e; omega
      simp [h1, h2, h3]
    · have h0 : x = y := UInt8.toNat_inj.1 h
      subst h0
      have h2 : ¬ x < x := fun h' => by have : x.toNat < x.toNat := h'; omega
      have e : (x :: a == x :: b) = (a == b) := by simp
      simp only [h2, decide_false, Bool.false_or, beq_self_eq_true, Bool.true_and, e]
      exact ih
    · have h1 : y < x := h
      have h2 : ¬ x < y := fun h' => by have : x.toNat < y.toNat := h'; omega
      have h3 : ¬ x = y := fun e => by subst e; omega
      have h4 : ¬ (x :: a) = (y :: b) := fun e => h3 (by injection e)
      simp [h1, h2, h3, h4]
end Go.Proofs.Ythnbinlllmkabaa
