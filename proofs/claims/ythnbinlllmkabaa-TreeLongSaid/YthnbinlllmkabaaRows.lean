/-
  NARROWER THAN 'FOR EVERY INPUT', by the rows' own cells (each row's printed sentence says how): TreeChecks: loops · TreeWalks: loops · TreeSames: loops · TreePuts: loops.
  DERIVED. THE GIVEN ROWS OF THIS SEAT. 6 by the template 'for every input the law returns true; each argument reads behind the call as it read before'; 0 by the template 'total and deterministic' (their statements: YthnbinlllmkabaaTotals.lean).
  GIVEN WITH THE SEED: the statements are not yours to turn. If you find one false, say at which input.
  Laid BY PROGRAM, IN A SANDBOX (cutbox-rows.mjs): the forced cells as the released guide's own fill.sh prints them over the translation f97abba30a2fad0a… (all of the seat's roots in one cut). By AI agents, Wed Nov 11 2026. No macro, syntax, notation, axiom, sorry.
-/
import Derived.Test.YthnbinlllmkabaaChecked
import GoSem.Claim
import GoSem.ClaimJoined
import GoSem.ClaimMapViews
import Derived.JoinedTies
import Derived.KernelRfl
namespace Go.Proofs.Ythnbinlllmkabaa
/- THE CELL 'sum', in the pinned program and in every row, IS THE sha256 OF THE DUMP (.gsa) THAT YthnbinlllmkabaaProg.lean LOADS. Nothing in Lean hashes anything: it is a label: what it is worth is what the hold of that sum in a sandbox is worth. -/
noncomputable def Try.pinned : Pinned := { name := "ythnbinlllmkabaa", sum := "f97abba30a2fad0a9e9c5058888dca226dd1feca2eca480897ab2635dec84d30", checked := Try.checked }
namespace Rows
def none {H : Type} : Left H := { results := [], args := [] }

/-- 'twinelaw4.TreeChecks': WHATEVER THE INPUT: true; the input reads as it did. -/
def treeChecksSpec : ChangeSpec := { name := "treeChecks", fn := fun _ => fun
  | [d] => { results := [.lit (.bool true)], args := [d] }
  | _ => none }
def treeChecksRow : OpenClaim := { program := "ythnbinlllmkabaa", sum := "f97abba30a2fad0a9e9c5058888dca226dd1feca2eca480897ab2635dec84d30", func := "twine/twinelaw4.TreeChecks", spec := "treeChecks", unfollowed := true, recurses := true, loops := true, apart := false }
def TreeChecksSaid : Prop := treeChecksRow.holds Try.pinned (OpenSpec.ofChange treeChecksSpec)

/-- ITS FALSE NEIGHBOUR: 'it returns false'. Refute it at one input. -/
def treeChecksWrong : ChangeSpec := { name := "treeChecks", fn := fun _ => fun
  | [d] => { results := [.lit (.bool false)], args := [d] }
  | _ => none }
def TreeChecksWrongFalsely : Prop := treeChecksRow.holds Try.pinned (OpenSpec.ofChange treeChecksWrong)

/-- 'twinelaw4.TreeWalks': WHATEVER THE INPUT: true; the input reads as it did. -/
def treeWalksSpec : ChangeSpec := { name := "treeWalks", fn := fun _ => fun
  | [d1, d2] => { results := [.lit (.bool true)], args := [d1, d2] }
  | _ => none }
def treeWalksRow : OpenClaim := { program := "ythnbinlllmkabaa", sum := "f97abba30a2fad0a9e9c5058888dca226dd1feca2eca480897ab2635dec84d30", func := "twine/twinelaw4.TreeWalks", spec := "treeWalks", unfollowed := true, recurses := true, loops := true, apart := false }
def TreeWalksSaid : Prop := treeWalksRow.holds Try.pinned (OpenSpec.ofChange treeWalksSpec)

/-- ITS FALSE NEIGHBOUR: 'it returns false'. Refute it at one input. -/
def treeWalksWrong : ChangeSpec := { name := "treeWalks", fn := fun _ => fun
  | [d1, d2] => { results := [.lit (.bool false)], args := [d1, d2] }
  | _ => none }
def TreeWalksWrongFalsely : Prop := treeWalksRow.holds Try.pinned (OpenSpec.ofChange treeWalksWrong)

/-- 'twinelaw4.TreeLong': WHATEVER THE INPUT: true; the input reads as it did. -/
def treeLongSpec : ChangeSpec := { name := "treeLong", fn := fun _ => fun
  | [d1, d2, d3] => { results := [.lit (.bool true)], args := [d1, d2, d3] }
  | _ => none }
def treeLongRow : OpenClaim := { program := "ythnbinlllmkabaa", sum := "f97abba30a2fad0a9e9c5058888dca226dd1feca2eca480897ab2635dec84d30", func := "twine/twinelaw4.TreeLong", spec := "treeLong", inPlace := ["slices.overlaps[string]", "slices.overlaps[*twine/tree.Tree]"], unfollowed := true, recurses := true, apart := false }
def TreeLongSaid : Prop := treeLongRow.holds Try.pinned (OpenSpec.ofChange treeLongSpec)

/-- ITS FALSE NEIGHBOUR: 'it returns false'. Refute it at one input. -/
def treeLongWrong : ChangeSpec := { name := "treeLong", fn := fun _ => fun
  | [d1, d2, d3] => { results := [.lit (.bool false)], args := [d1, d2, d3] }
  | _ => none }
def TreeLongWrongFalsely : Prop := treeLongRow.holds Try.pinned (OpenSpec.ofChange treeLongWrong)

/-- 'twinelaw4.TreeSames': WHATEVER THE INPUT: true; the input reads as it did. -/
def treeSamesSpec : ChangeSpec := { name := "treeSames", fn := fun _ => fun
  | [d1, d2, d3] => { results := [.lit (.bool true)], args := [d1, d2, d3] }
  | _ => none }
def treeSamesRow : OpenClaim := { program := "ythnbinlllmkabaa", sum := "f97abba30a2fad0a9e9c5058888dca226dd1feca2eca480897ab2635dec84d30", func := "twine/twinelaw4.TreeSames", spec := "treeSames", inPlace := ["slices.overlaps[string]", "slices.overlaps[*twine/tree.Tree]"], unfollowed := true, recurses := true, loops := true, apart := false }
def TreeSamesSaid : Prop := treeSamesRow.holds Try.pinned (OpenSpec.ofChange treeSamesSpec)

/-- ITS FALSE NEIGHBOUR: 'it returns false'. Refute it at one input. -/
def treeSamesWrong : ChangeSpec := { name := "treeSames", fn := fun _ => fun
  | [d1, d2, d3] => { results := [.lit (.bool false)], args := [d1, d2, d3] }
  | _ => none }
def TreeSamesWrongFalsely : Prop := treeSamesRow.holds Try.pinned (OpenSpec.ofChange treeSamesWrong)

/-- 'twinelaw4.TreeWood': WHATEVER THE INPUT: true; the input reads as it did. -/
def treeWoodSpec : ChangeSpec := { name := "treeWood", fn := fun _ => fun
  | [d1, d2] => { results := [.lit (.bool true)], args := [d1, d2] }
  | _ => none }
def treeWoodRow : OpenClaim := { program := "ythnbinlllmkabaa", sum := "f97abba30a2fad0a9e9c5058888dca226dd1feca2eca480897ab2635dec84d30", func := "twine/twinelaw4.TreeWood", spec := "treeWood", inPlace := ["slices.overlaps[string]", "slices.overlaps[*twine/tree.Tree]"], unfollowed := true, recurses := true, apart := false }
def TreeWoodSaid : Prop := treeWoodRow.holds Try.pinned (OpenSpec.ofChange treeWoodSpec)

/-- ITS FALSE NEIGHBOUR: 'it returns false'. Refute it at one input. -/
def treeWoodWrong : ChangeSpec := { name := "treeWood", fn := fun _ => fun
  | [d1, d2] => { results := [.lit (.bool false)], args := [d1, d2] }
  | _ => none }
def TreeWoodWrongFalsely : Prop := treeWoodRow.holds Try.pinned (OpenSpec.ofChange treeWoodWrong)

/-- 'twinelaw4.TreePuts': WHATEVER THE INPUT: true; the input reads as it did. -/
def treePutsSpec : ChangeSpec := { name := "treePuts", fn := fun _ => fun
  | [d1, d2, d3, d4, d5] => { results := [.lit (.bool true)], args := [d1, d2, d3, d4, d5] }
  | _ => none }
def treePutsRow : OpenClaim := { program := "ythnbinlllmkabaa", sum := "f97abba30a2fad0a9e9c5058888dca226dd1feca2eca480897ab2635dec84d30", func := "twine/twinelaw4.TreePuts", spec := "treePuts", inPlace := ["slices.overlaps[string]", "slices.overlaps[*twine/tree.Tree]"], unfollowed := true, recurses := true, loops := true, apart := false }
def TreePutsSaid : Prop := treePutsRow.holds Try.pinned (OpenSpec.ofChange treePutsSpec)

/-- ITS FALSE NEIGHBOUR: 'it returns false'. Refute it at one input. -/
def treePutsWrong : ChangeSpec := { name := "treePuts", fn := fun _ => fun
  | [d1, d2, d3, d4, d5] => { results := [.lit (.bool false)], args := [d1, d2, d3, d4, d5] }
  | _ => none }
def TreePutsWrongFalsely : Prop := treePutsRow.holds Try.pinned (OpenSpec.ofChange treePutsWrong)

/- THE SECOND FORM. 'bulk': how many values and letters a reading holds, each counted each time it is reached (what is shared counts as often as it is met; a slice's spare places count too). A statement '..UptoSaid' is the law's where the arguments, and the package variables that the reading takes, are together of bulk at most 1048576: NARROWER than '..Said'. Prove '..Said' where nothing that the law and all that it calls make is longer than what came in: it says more and counts as full. Else prove '..UptoSaid'. A law counts once. -/
mutual
def uptoBulk {H : Type} : DataW H → Nat
  | .lit (.string bytes) => bytes.length + 1
  | .lit _ => 1
  | .nil => 1
  | .ptr d => uptoBulk d + 1
  | .slice elems spare => uptoBulkAll elems + uptoBulkAll spare + 1
  | .agg parts => uptoBulkAll parts + 1
  | .iface _ d => uptoBulk d + 1
  | .map entries => uptoBulkEntries entries + 1
  | .held _ => 1
def uptoBulkAll {H : Type} : List (DataW H) → Nat
  | [] => 0
  | d :: r => uptoBulk d + uptoBulkAll r
def uptoBulkEntries {H : Type} : List (Lit × DataW H) → Nat
  | [] => 0
  | x :: r => uptoBulkEntry x + uptoBulkEntries r
def uptoBulkEntry {H : Type} : Lit × DataW H → Nat
  | (.string bytes, d) => bytes.length + uptoBulk d + 1
  | (_, d) => uptoBulk d + 1
 end
def uptoSmall : (H : Type) → List (DataW H) → Bool := fun _ ds => decide (uptoBulkAll ds ≤ 1048576)
def OpenSpec.upto (s : _root_.Go.ChangeSpec) : _root_.Go.OpenSpec := { _root_.Go.OpenSpec.ofChange s with cond := some uptoSmall }

/-- 'twinelaw4.TreeChecks', WHERE WHAT IT READS IS OF BULK AT MOST 1048576: true; the input reads as it did. -/
def treeChecksUptoRow : OpenClaim := { program := "ythnbinlllmkabaa", sum := "f97abba30a2fad0a9e9c5058888dca226dd1feca2eca480897ab2635dec84d30", func := "twine/twinelaw4.TreeChecks", spec := "treeChecks", unfollowed := true, recurses := true, loops := true, apart := false, narrowed := true }
def TreeChecksUptoSaid : Prop := treeChecksUptoRow.holds Try.pinned (OpenSpec.upto treeChecksSpec)

/-- 'twinelaw4.TreeWalks', WHERE WHAT IT READS IS OF BULK AT MOST 1048576: true; the input reads as it did. -/
def treeWalksUptoRow : OpenClaim := { program := "ythnbinlllmkabaa", sum := "f97abba30a2fad0a9e9c5058888dca226dd1feca2eca480897ab2635dec84d30", func := "twine/twinelaw4.TreeWalks", spec := "treeWalks", unfollowed := true, recurses := true, loops := true, apart := false, narrowed := true }
def TreeWalksUptoSaid : Prop := treeWalksUptoRow.holds Try.pinned (OpenSpec.upto treeWalksSpec)

/-- 'twinelaw4.TreeLong', WHERE WHAT IT READS IS OF BULK AT MOST 1048576: true; the input reads as it did. -/
def treeLongUptoRow : OpenClaim := { program := "ythnbinlllmkabaa", sum := "f97abba30a2fad0a9e9c5058888dca226dd1feca2eca480897ab2635dec84d30", func := "twine/twinelaw4.TreeLong", spec := "treeLong", inPlace := ["slices.overlaps[string]", "slices.overlaps[*twine/tree.Tree]"], unfollowed := true, recurses := true, apart := false, narrowed := true }
def TreeLongUptoSaid : Prop := treeLongUptoRow.holds Try.pinned (OpenSpec.upto treeLongSpec)

/-- 'twinelaw4.TreeSames', WHERE WHAT IT READS IS OF BULK AT MOST 1048576: true; the input reads as it did. -/
def treeSamesUptoRow : OpenClaim := { program := "ythnbinlllmkabaa", sum := "f97abba30a2fad0a9e9c5058888dca226dd1feca2eca480897ab2635dec84d30", func := "twine/twinelaw4.TreeSames", spec := "treeSames", inPlace := ["slices.overlaps[string]", "slices.overlaps[*twine/tree.Tree]"], unfollowed := true, recurses := true, loops := true, apart := false, narrowed := true }
def TreeSamesUptoSaid : Prop := treeSamesUptoRow.holds Try.pinned (OpenSpec.upto treeSamesSpec)

/-- 'twinelaw4.TreeWood', WHERE WHAT IT READS IS OF BULK AT MOST 1048576: true; the input reads as it did. -/
def treeWoodUptoRow : OpenClaim := { program := "ythnbinlllmkabaa", sum := "f97abba30a2fad0a9e9c5058888dca226dd1feca2eca480897ab2635dec84d30", func := "twine/twinelaw4.TreeWood", spec := "treeWood", inPlace := ["slices.overlaps[string]", "slices.overlaps[*twine/tree.Tree]"], unfollowed := true, recurses := true, apart := false, narrowed := true }
def TreeWoodUptoSaid : Prop := treeWoodUptoRow.holds Try.pinned (OpenSpec.upto treeWoodSpec)

/-- 'twinelaw4.TreePuts', WHERE WHAT IT READS IS OF BULK AT MOST 1048576: true; the input reads as it did. -/
def treePutsUptoRow : OpenClaim := { program := "ythnbinlllmkabaa", sum := "f97abba30a2fad0a9e9c5058888dca226dd1feca2eca480897ab2635dec84d30", func := "twine/twinelaw4.TreePuts", spec := "treePuts", inPlace := ["slices.overlaps[string]", "slices.overlaps[*twine/tree.Tree]"], unfollowed := true, recurses := true, loops := true, apart := false, narrowed := true }
def TreePutsUptoSaid : Prop := treePutsUptoRow.holds Try.pinned (OpenSpec.upto treePutsSpec)

end Rows
end Go.Proofs.Ythnbinlllmkabaa
