/-
  No cell of these rows narrows 'for every input' (looked for: loops, veiled, ifaces, maps, wideKeys, modest, calm, conditions, laid).
  DERIVED. THE GIVEN ROWS OF THIS SEAT. 8 by the template 'for every input the law returns true; each argument reads behind the call as it read before'; 0 by the template 'total and deterministic' (their statements: YtbaceplkkokffaaTotals.lean).
  GIVEN WITH THE SEED: the statements are not yours to turn. If you find one false, say at which input.
  Laid BY PROGRAM, IN A SANDBOX (cutbox-rows.mjs): the forced cells as the released guide's own fill.sh prints them over the translation 3b96d442656e6b7c… (all of the seat's roots in one cut). By AI agents, Wed Nov 11 2026. No macro, syntax, notation, axiom, sorry.
-/
import Derived.Test.YtbaceplkkokffaaChecked
import GoSem.Claim
import GoSem.ClaimJoined
import GoSem.ClaimMapViews
import Derived.JoinedTies
import Derived.KernelRfl
namespace Go.Proofs.Ytbaceplkkokffaa
/- THE CELL 'sum', in the pinned program and in every row, IS THE sha256 OF THE DUMP (.gsa) THAT YtbaceplkkokffaaProg.lean LOADS. Nothing in Lean hashes anything: it is a label: what it is worth is what the hold of that sum in a sandbox is worth. -/
noncomputable def Try.pinned : Pinned := { name := "ytbaceplkkokffaa", sum := "3b96d442656e6b7c45640048484bf80b90d89d5a6c64e059bf6fb3866651966f", checked := Try.checked }
namespace Rows
def none {H : Type} : Left H := { results := [], args := [] }

/-- 'twinelaw2.SumNames': WHATEVER THE INPUT: true; the input reads as it did. -/
def sumNamesSpec : ChangeSpec := { name := "sumNames", fn := fun _ => fun
  | [] => { results := [.lit (.bool true)], args := [] }
  | _ => none }
def sumNamesRow : OpenClaim := { program := "ytbaceplkkokffaa", sum := "3b96d442656e6b7c45640048484bf80b90d89d5a6c64e059bf6fb3866651966f", func := "twine/twinelaw2.SumNames", spec := "sumNames", apart := false }
def SumNamesSaid : Prop := sumNamesRow.holds Try.pinned (OpenSpec.ofChange sumNamesSpec)

/-- ITS FALSE NEIGHBOUR: 'it returns false'. Refute it at one input. -/
def sumNamesWrong : ChangeSpec := { name := "sumNames", fn := fun _ => fun
  | [] => { results := [.lit (.bool false)], args := [] }
  | _ => none }
def SumNamesWrongFalsely : Prop := sumNamesRow.holds Try.pinned (OpenSpec.ofChange sumNamesWrong)

/-- 'twinelaw4.TreeNames': WHATEVER THE INPUT: true; the input reads as it did. -/
def treeNamesSpec : ChangeSpec := { name := "treeNames", fn := fun _ => fun
  | [] => { results := [.lit (.bool true)], args := [] }
  | _ => none }
def treeNamesRow : OpenClaim := { program := "ytbaceplkkokffaa", sum := "3b96d442656e6b7c45640048484bf80b90d89d5a6c64e059bf6fb3866651966f", func := "twine/twinelaw4.TreeNames", spec := "treeNames", apart := false }
def TreeNamesSaid : Prop := treeNamesRow.holds Try.pinned (OpenSpec.ofChange treeNamesSpec)

/-- ITS FALSE NEIGHBOUR: 'it returns false'. Refute it at one input. -/
def treeNamesWrong : ChangeSpec := { name := "treeNames", fn := fun _ => fun
  | [] => { results := [.lit (.bool false)], args := [] }
  | _ => none }
def TreeNamesWrongFalsely : Prop := treeNamesRow.holds Try.pinned (OpenSpec.ofChange treeNamesWrong)

/-- 'twinelaw8.PatchNames': WHATEVER THE INPUT: true; the input reads as it did. -/
def patchNamesSpec : ChangeSpec := { name := "patchNames", fn := fun _ => fun
  | [] => { results := [.lit (.bool true)], args := [] }
  | _ => none }
def patchNamesRow : OpenClaim := { program := "ytbaceplkkokffaa", sum := "3b96d442656e6b7c45640048484bf80b90d89d5a6c64e059bf6fb3866651966f", func := "twine/twinelaw8.PatchNames", spec := "patchNames", apart := false }
def PatchNamesSaid : Prop := patchNamesRow.holds Try.pinned (OpenSpec.ofChange patchNamesSpec)

/-- ITS FALSE NEIGHBOUR: 'it returns false'. Refute it at one input. -/
def patchNamesWrong : ChangeSpec := { name := "patchNames", fn := fun _ => fun
  | [] => { results := [.lit (.bool false)], args := [] }
  | _ => none }
def PatchNamesWrongFalsely : Prop := patchNamesRow.holds Try.pinned (OpenSpec.ofChange patchNamesWrong)

/-- 'twinelaw13.DiffNames': WHATEVER THE INPUT: true; the input reads as it did. -/
def diffNamesSpec : ChangeSpec := { name := "diffNames", fn := fun _ => fun
  | [] => { results := [.lit (.bool true)], args := [] }
  | _ => none }
def diffNamesRow : OpenClaim := { program := "ytbaceplkkokffaa", sum := "3b96d442656e6b7c45640048484bf80b90d89d5a6c64e059bf6fb3866651966f", func := "twine/twinelaw13.DiffNames", spec := "diffNames", apart := false }
def DiffNamesSaid : Prop := diffNamesRow.holds Try.pinned (OpenSpec.ofChange diffNamesSpec)

/-- ITS FALSE NEIGHBOUR: 'it returns false'. Refute it at one input. -/
def diffNamesWrong : ChangeSpec := { name := "diffNames", fn := fun _ => fun
  | [] => { results := [.lit (.bool false)], args := [] }
  | _ => none }
def DiffNamesWrongFalsely : Prop := diffNamesRow.holds Try.pinned (OpenSpec.ofChange diffNamesWrong)

/-- 'twinelaw10.StoreNames': WHATEVER THE INPUT: true; the input reads as it did. -/
def storeNamesSpec : ChangeSpec := { name := "storeNames", fn := fun _ => fun
  | [] => { results := [.lit (.bool true)], args := [] }
  | _ => none }
def storeNamesRow : OpenClaim := { program := "ytbaceplkkokffaa", sum := "3b96d442656e6b7c45640048484bf80b90d89d5a6c64e059bf6fb3866651966f", func := "twine/twinelaw10.StoreNames", spec := "storeNames", apart := false }
def StoreNamesSaid : Prop := storeNamesRow.holds Try.pinned (OpenSpec.ofChange storeNamesSpec)

/-- ITS FALSE NEIGHBOUR: 'it returns false'. Refute it at one input. -/
def storeNamesWrong : ChangeSpec := { name := "storeNames", fn := fun _ => fun
  | [] => { results := [.lit (.bool false)], args := [] }
  | _ => none }
def StoreNamesWrongFalsely : Prop := storeNamesRow.holds Try.pinned (OpenSpec.ofChange storeNamesWrong)

/-- 'twinelaw14.ReconNames': WHATEVER THE INPUT: true; the input reads as it did. -/
def reconNamesSpec : ChangeSpec := { name := "reconNames", fn := fun _ => fun
  | [] => { results := [.lit (.bool true)], args := [] }
  | _ => none }
def reconNamesRow : OpenClaim := { program := "ytbaceplkkokffaa", sum := "3b96d442656e6b7c45640048484bf80b90d89d5a6c64e059bf6fb3866651966f", func := "twine/twinelaw14.ReconNames", spec := "reconNames", apart := false }
def ReconNamesSaid : Prop := reconNamesRow.holds Try.pinned (OpenSpec.ofChange reconNamesSpec)

/-- ITS FALSE NEIGHBOUR: 'it returns false'. Refute it at one input. -/
def reconNamesWrong : ChangeSpec := { name := "reconNames", fn := fun _ => fun
  | [] => { results := [.lit (.bool false)], args := [] }
  | _ => none }
def ReconNamesWrongFalsely : Prop := reconNamesRow.holds Try.pinned (OpenSpec.ofChange reconNamesWrong)

/-- 'twinelaw18.OutcomeNames': WHATEVER THE INPUT: true; the input reads as it did. -/
def outcomeNamesSpec : ChangeSpec := { name := "outcomeNames", fn := fun _ => fun
  | [] => { results := [.lit (.bool true)], args := [] }
  | _ => none }
def outcomeNamesRow : OpenClaim := { program := "ytbaceplkkokffaa", sum := "3b96d442656e6b7c45640048484bf80b90d89d5a6c64e059bf6fb3866651966f", func := "twine/twinelaw18.OutcomeNames", spec := "outcomeNames", apart := false }
def OutcomeNamesSaid : Prop := outcomeNamesRow.holds Try.pinned (OpenSpec.ofChange outcomeNamesSpec)

/-- ITS FALSE NEIGHBOUR: 'it returns false'. Refute it at one input. -/
def outcomeNamesWrong : ChangeSpec := { name := "outcomeNames", fn := fun _ => fun
  | [] => { results := [.lit (.bool false)], args := [] }
  | _ => none }
def OutcomeNamesWrongFalsely : Prop := outcomeNamesRow.holds Try.pinned (OpenSpec.ofChange outcomeNamesWrong)

/-- 'twinelaw21.AuditNames': WHATEVER THE INPUT: true; the input reads as it did. -/
def auditNamesSpec : ChangeSpec := { name := "auditNames", fn := fun _ => fun
  | [] => { results := [.lit (.bool true)], args := [] }
  | _ => none }
def auditNamesRow : OpenClaim := { program := "ytbaceplkkokffaa", sum := "3b96d442656e6b7c45640048484bf80b90d89d5a6c64e059bf6fb3866651966f", func := "twine/twinelaw21.AuditNames", spec := "auditNames", apart := false }
def AuditNamesSaid : Prop := auditNamesRow.holds Try.pinned (OpenSpec.ofChange auditNamesSpec)

/-- ITS FALSE NEIGHBOUR: 'it returns false'. Refute it at one input. -/
def auditNamesWrong : ChangeSpec := { name := "auditNames", fn := fun _ => fun
  | [] => { results := [.lit (.bool false)], args := [] }
  | _ => none }
def AuditNamesWrongFalsely : Prop := auditNamesRow.holds Try.pinned (OpenSpec.ofChange auditNamesWrong)

/- THE SECOND FORM. 'bulk': how many values and letters a reading holds, each counted each time it is reached (what is shared counts as often as it is met; a slice's spare places count too). A statement '..UptoSaid' is the law's where the arguments, and the package variables that the reading takes, are together of bulk at most 1048576: NARROWER than '..Said'. Prove '..Said' where nothing that the law and all that it calls make is longer than what came in: it says more and counts as full. Else prove '..UptoSaid'. A law counts once. -/
mutual
def uptoBulk {H : Type} : DataW H → Nat
  | .lit (.string bytes) => bytes.length + 1
  | .lit _ => 1
  | .nil => 1
  | .ptr d => uptoBulk d + 1
  | .slice elems spare => uptoBulkAll elems + uptoBulkAll spare + 1
  | .agg parts => uptoBulkAll parts + 1
  | .iface _ d => uptoBulk d + 1
  | .map entries => uptoBulkEntries entries + 1
  | .held _ => 1
def uptoBulkAll {H : Type} : List (DataW H) → Nat
  | [] => 0
  | d :: r => uptoBulk d + uptoBulkAll r
def uptoBulkEntries {H : Type} : List (Lit × DataW H) → Nat
  | [] => 0
  | x :: r => uptoBulkEntry x + uptoBulkEntries r
def uptoBulkEntry {H : Type} : Lit × DataW H → Nat
  | (.string bytes, d) => bytes.length + uptoBulk d + 1
  | (_, d) => uptoBulk d + 1
 end
def uptoSmall : (H : Type) → List (DataW H) → Bool := fun _ ds => decide (uptoBulkAll ds ≤ 1048576)
def OpenSpec.upto (s : _root_.Go.ChangeSpec) : _root_.Go.OpenSpec := { _root_.Go.OpenSpec.ofChange s with cond := some uptoSmall }

/-- 'twinelaw2.SumNames', WHERE WHAT IT READS IS OF BULK AT MOST 1048576: true; the input reads as it did. -/
def sumNamesUptoRow : OpenClaim := { program := "ytbaceplkkokffaa", sum := "3b96d442656e6b7c45640048484bf80b90d89d5a6c64e059bf6fb3866651966f", func := "twine/twinelaw2.SumNames", spec := "sumNames", apart := false, narrowed := true }
def SumNamesUptoSaid : Prop := sumNamesUptoRow.holds Try.pinned (OpenSpec.upto sumNamesSpec)

/-- 'twinelaw4.TreeNames', WHERE WHAT IT READS IS OF BULK AT MOST 1048576: true; the input reads as it did. -/
def treeNamesUptoRow : OpenClaim := { program := "ytbaceplkkokffaa", sum := "3b96d442656e6b7c45640048484bf80b90d89d5a6c64e059bf6fb3866651966f", func := "twine/twinelaw4.TreeNames", spec := "treeNames", apart := false, narrowed := true }
def TreeNamesUptoSaid : Prop := treeNamesUptoRow.holds Try.pinned (OpenSpec.upto treeNamesSpec)

/-- 'twinelaw8.PatchNames', WHERE WHAT IT READS IS OF BULK AT MOST 1048576: true; the input reads as it did. -/
def patchNamesUptoRow : OpenClaim := { program := "ytbaceplkkokffaa", sum := "3b96d442656e6b7c45640048484bf80b90d89d5a6c64e059bf6fb3866651966f", func := "twine/twinelaw8.PatchNames", spec := "patchNames", apart := false, narrowed := true }
def PatchNamesUptoSaid : Prop := patchNamesUptoRow.holds Try.pinned (OpenSpec.upto patchNamesSpec)

/-- 'twinelaw13.DiffNames', WHERE WHAT IT READS IS OF BULK AT MOST 1048576: true; the input reads as it did. -/
def diffNamesUptoRow : OpenClaim := { program := "ytbaceplkkokffaa", sum := "3b96d442656e6b7c45640048484bf80b90d89d5a6c64e059bf6fb3866651966f", func := "twine/twinelaw13.DiffNames", spec := "diffNames", apart := false, narrowed := true }
def DiffNamesUptoSaid : Prop := diffNamesUptoRow.holds Try.pinned (OpenSpec.upto diffNamesSpec)

/-- 'twinelaw10.StoreNames', WHERE WHAT IT READS IS OF BULK AT MOST 1048576: true; the input reads as it did. -/
def storeNamesUptoRow : OpenClaim := { program := "ytbaceplkkokffaa", sum := "3b96d442656e6b7c45640048484bf80b90d89d5a6c64e059bf6fb3866651966f", func := "twine/twinelaw10.StoreNames", spec := "storeNames", apart := false, narrowed := true }
def StoreNamesUptoSaid : Prop := storeNamesUptoRow.holds Try.pinned (OpenSpec.upto storeNamesSpec)

/-- 'twinelaw14.ReconNames', WHERE WHAT IT READS IS OF BULK AT MOST 1048576: true; the input reads as it did. -/
def reconNamesUptoRow : OpenClaim := { program := "ytbaceplkkokffaa", sum := "3b96d442656e6b7c45640048484bf80b90d89d5a6c64e059bf6fb3866651966f", func := "twine/twinelaw14.ReconNames", spec := "reconNames", apart := false, narrowed := true }
def ReconNamesUptoSaid : Prop := reconNamesUptoRow.holds Try.pinned (OpenSpec.upto reconNamesSpec)

/-- 'twinelaw18.OutcomeNames', WHERE WHAT IT READS IS OF BULK AT MOST 1048576: true; the input reads as it did. -/
def outcomeNamesUptoRow : OpenClaim := { program := "ytbaceplkkokffaa", sum := "3b96d442656e6b7c45640048484bf80b90d89d5a6c64e059bf6fb3866651966f", func := "twine/twinelaw18.OutcomeNames", spec := "outcomeNames", apart := false, narrowed := true }
def OutcomeNamesUptoSaid : Prop := outcomeNamesUptoRow.holds Try.pinned (OpenSpec.upto outcomeNamesSpec)

/-- 'twinelaw21.AuditNames', WHERE WHAT IT READS IS OF BULK AT MOST 1048576: true; the input reads as it did. -/
def auditNamesUptoRow : OpenClaim := { program := "ytbaceplkkokffaa", sum := "3b96d442656e6b7c45640048484bf80b90d89d5a6c64e059bf6fb3866651966f", func := "twine/twinelaw21.AuditNames", spec := "auditNames", apart := false, narrowed := true }
def AuditNamesUptoSaid : Prop := auditNamesUptoRow.holds Try.pinned (OpenSpec.upto auditNamesSpec)

end Rows
end Go.Proofs.Ytbaceplkkokffaa
