/- The block of a slice. -/
import Derived.Test.YthnbinlllmkabaaGen
namespace Go.Proofs.Ythnbinlllmkabaa
open Go.RowKit
set_option linter.unusedVariables false
set_option linter.unusedSimpArgs false

/-- The block of a slice. -/
def ob (a : Option Addr) : Option Nat := a.map (·.block)
theorem own_ob (a : Option Addr) (n c : Nat) : (Value.slice a n c).ownBlock = ob a := by cases a <;> rfl
theorem Own.typed {w : World} {e : TypeId} {size n c : Nat} {a : Option Addr} {xs : List Value} (h : Own w e size (.slice a n c) n xs) {b : Nat} (hb : ob a = some b) : ∃ cur, w.heap[b]? = some (.cells cur e (0, 0)) := by
  rcases h.2.2 with ⟨hv, _⟩ | ⟨g, off, cap, cur, hv, hg, _⟩
  · injection hv with h1; subst h1; simp [ob] at hb
  · injection hv with h1; subst h1
    have : g = b := by simpa [ob] using hb
    subst this
    exact ⟨cur, hg⟩
end Go.Proofs.Ythnbinlllmkabaa
