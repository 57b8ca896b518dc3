/- Plain facts about spoiled lists and plain nodes. -/
import Derived.Test.YthnbinlllmkabaaSpoil
import Derived.Test.YthnbinlllmkabaaCnt
import Derived.Test.YthnbinlllmkabaaEqual
namespace Go.Proofs.Ythnbinlllmkabaa
set_option linter.unusedVariables false

theorem bang_parts : bang.parts ≤ 2 := by
  rw [parts_eq]
  show 1 + 1 + partsAll [] ≤ 2
  simp [partsAll]
theorem bangs_parts : ∀ ks : List Nd, partsAll (ks.map fun _ => bang) ≤ 2 * ks.length
  | [] => by simp [partsAll]
  | k :: ks => by
    have h := bangs_parts ks
    have h1 := bang_parts
    simp only [List.map_cons, List.length_cons, partsAll]
    omega
theorem named_parts (n : Nd) (s : ByteArray) : (n.named s).parts + n.name.size = n.parts + s.size := by
  rw [parts_eq, parts_eq]
  show _ + partsAll n.kids + _ = _
  simp only [Nd.named, Nd.name, Nd.kids]
  omega
/-- A node is alike what Plain makes of it, whatever the names. -/
theorem alike_named (n : Nd) (s t : ByteArray) : (n.named s).alike (n.named t) = true := by
  have h := alike_self (n.named s) t
  exact h
end Go.Proofs.Ythnbinlllmkabaa
