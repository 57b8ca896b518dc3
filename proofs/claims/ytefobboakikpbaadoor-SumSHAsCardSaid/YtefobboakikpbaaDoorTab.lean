/- The tables that a statement lays: what they hold, for every statement's card. -/
import Derived.Test.YtefobboakikpbaaDoorCrc
import Derived.Test.YtefobboakikpbaaDoorSha6
import Derived.Test.YtefobboakikpbaaDoorCards
import Derived.Test.YtefobboakikpbaaDoorTie
import Derived.WalkKit
import Derived.ProofKit
import Derived.OpenShut
import Derived.Deep.DeepHandedRow
import Derived.Lib.LaidTab
namespace Go.Proofs.YtefobboakikpbaaDoor
open Go.ChangeShapes Go.WideShapes Go.ChangeAt Go.RowKit
set_option linter.unusedVariables false
set_option linter.unusedSimpArgs false
namespace tab
theorem own : ownKnob Tryd.prog.godebug = none := by kernel_rfl
theorem laidOut : laidOutB Tryd.prog = true := by kernel_rfl
theorem gB : Tryd.prog.globalNamed "twine/sum.begin" = some 0 := by kernel_rfl
theorem gW : Tryd.prog.globalNamed "twine/sum.words" = some 2 := by kernel_rfl
theorem gF : Tryd.prog.globalNamed "twine/sum.fours" = some 1 := by kernel_rfl
theorem gBT : (Tryd.prog.globals[0]?).map (·.type) = some 86 := by kernel_rfl
theorem gWT : (Tryd.prog.globals[2]?).map (·.type) = some 103 := by kernel_rfl
theorem gFT : (Tryd.prog.globals[1]?).map (·.type) = some 102 := by kernel_rfl
theorem cellsB : Tryd.prog.cellsOf 86 = 8 := by kernel_rfl
theorem cellsW : Tryd.prog.cellsOf 103 = 64 := by kernel_rfl
theorem cellsF : Tryd.prog.cellsOf 102 = 16 := by kernel_rfl
theorem cellsU : Tryd.prog.cellsOf 67 = 1 := by kernel_rfl
theorem undB : Tryd.prog.underlying 86 = some (.array 8 67) := by kernel_rfl
theorem undW : Tryd.prog.underlying 103 = some (.array 64 67) := by kernel_rfl
theorem undF : Tryd.prog.underlying 102 = some (.array 16 67) := by kernel_rfl
theorem undU : Tryd.prog.underlying 67 = some (.int .u32) := by kernel_rfl

theorem tabIs_second {P : Program} {W : World} {name n2 : String} {d2 : DataW Unit} {k : IntKind} {zs : List Int} {rest : List (String × DataW Unit)} {g : Nat} {t e : TypeId} {n : Nat}
    (hg : P.globalNamed name = some g) (hty : (P.globals[g]?).map (·.type) = some t) (ht : P.underlying t = some (.array n e)) (he : P.underlying e = some (.int k)) (hce : P.cellsOf e = 1) (hct : P.cellsOf t = n)
    (h : laidMet P ((n2, d2) :: (name, Lib.tabData k zs) :: rest) W) : Lib.TabIs P W name k zs := by
  obtain ⟨ps, ⟨_, _, _, _, _, _, _, _, _, _, ⟨g', t', cs, fuel, p, q, hg', ht', hvar, hd, _, _⟩, _⟩, _⟩ := h
  obtain rfl := Option.some.inj (hg.symm.trans hg')
  obtain rfl := Option.some.inj (hty.symm.trans ht')
  unfold Lib.TabIs
  rw [hvar, ← Lib.cells_of_tab ht he hce hct hd]
theorem tabIs_third {P : Program} {W : World} {name n2 n3 : String} {d2 d3 : DataW Unit} {k : IntKind} {zs : List Int} {rest : List (String × DataW Unit)} {g : Nat} {t e : TypeId} {n : Nat}
    (hg : P.globalNamed name = some g) (hty : (P.globals[g]?).map (·.type) = some t) (ht : P.underlying t = some (.array n e)) (he : P.underlying e = some (.int k)) (hce : P.cellsOf e = 1) (hct : P.cellsOf t = n)
    (h : laidMet P ((n2, d2) :: (n3, d3) :: (name, Lib.tabData k zs) :: rest) W) : Lib.TabIs P W name k zs := by
  obtain ⟨ps, ⟨_, _, _, _, _, _, _, _, _, _, ⟨_, _, _, _, _, _, _, _, _, _, ⟨g', t', cs, fuel, p, q, hg', ht', hvar, hd, _, _⟩, _⟩, _⟩, _⟩ := h
  obtain rfl := Option.some.inj (hg.symm.trans hg')
  obtain rfl := Option.some.inj (hty.symm.trans ht')
  unfold Lib.TabIs
  rw [hvar, ← Lib.cells_of_tab ht he hce hct hd]
def beginZ : List Int := [1779033703, 3144134277, 1013904242, 2773480762, 1359893119, 2600822924, 528734635, 1541459225]
def keysZ : List Int := keys.map Int.ofNat
def foursZ : List Int := foursL.map Int.ofNat
theorem keys_of {W : World} (h : Lib.TabIs Tryd.prog W "twine/sum.words" .u32 keysZ) : KeysAt W := by
  intro i hi
  rw [h.cell gW i (by rw [show keysZ.length = 64 from by decide +kernel]; exact hi)]
  congr 2
  unfold keysZ
  rw [List.getD_eq_getElem?_getD, List.getElem?_map, List.getD_eq_getElem?_getD]
  cases keys[i]? <;> rfl
theorem fours_of {W : World} (h : Lib.TabIs Tryd.prog W "twine/sum.fours" .u32 foursZ) : FoursAt W := by
  intro i hi
  rw [h.cell gF i (by rw [show foursZ.length = 16 from by decide +kernel]; exact hi)]
  congr 2
  unfold foursZ
  rw [List.getD_eq_getElem?_getD, List.getElem?_map, List.getD_eq_getElem?_getD]
  cases foursL[i]? <;> rfl
theorem begin_of {W : World} (h : Lib.TabIs Tryd.prog W "twine/sum.begin" .u32 beginZ) : BeginAt W := by
  intro j u hu
  have hj : j < 8 := (Array.getElem?_eq_some_iff.1 hu).1
  rw [h.cell gB j hj, ← hu]
  rcases j with _ | _ | _ | _ | _ | _ | _ | _ | j <;> first | rfl | omega
theorem two {W : World} (h : laidMetH Tryd.prog [("twine/sum.begin", Rows.laid_twine_sum_begin), ("twine/sum.words", Rows.laid_twine_sum_words)] W) : KeysAt W ∧ BeginAt W :=
  ⟨keys_of (tabIs_second (n2 := "twine/sum.begin") (d2 := Rows.laid_twine_sum_begin) (rest := []) gW gWT undW undU cellsU cellsW h),
    begin_of (Lib.tabIs_of_head (rest := [("twine/sum.words", Rows.laid_twine_sum_words)]) gB gBT undB undU cellsU cellsB h)⟩
theorem three {W : World} (h : laidMetH Tryd.prog [("twine/sum.begin", Rows.laid_twine_sum_begin), ("twine/sum.words", Rows.laid_twine_sum_words), ("twine/sum.fours", Rows.laid_twine_sum_fours)] W) : KeysAt W ∧ BeginAt W ∧ FoursAt W :=
  ⟨keys_of (tabIs_second (n2 := "twine/sum.begin") (d2 := Rows.laid_twine_sum_begin) (rest := [("twine/sum.fours", Rows.laid_twine_sum_fours)]) gW gWT undW undU cellsU cellsW h),
    begin_of (Lib.tabIs_of_head (rest := [("twine/sum.words", Rows.laid_twine_sum_words), ("twine/sum.fours", Rows.laid_twine_sum_fours)]) gB gBT undB undU cellsU cellsB h),
    fours_of (tabIs_third (n2 := "twine/sum.begin") (d2 := Rows.laid_twine_sum_begin) (n3 := "twine/sum.words") (d3 := Rows.laid_twine_sum_words) (rest := []) gF gFT undF undU cellsU cellsF h)⟩
/-- A world for a witness: the settled one, the tables laid. -/
def layCells (zs : List Int) : Obj → Obj
  | .cells _ t frozen => .cells (zs.map (Value.int .u32)).toArray t frozen
  | o => o
noncomputable def laidWorld (os : Os) : World :=
  { World.holding Tryd.prog os ⟨#[], #[], []⟩ with heap := (((World.holding Tryd.prog os ⟨#[], #[], []⟩).heap.modify 0 (layCells beginZ)).modify 2 (layCells keysZ)).modify 1 (layCells foursZ) }
/-- What a slice of numbers that came in holds. -/
def IsRow (k : IntKind) (w : World) (a : Option Addr) (len cap : Nat) (zs : List Int) : Prop :=
  (a = none ∧ len = 0 ∧ cap = 0 ∧ zs = []) ∨
  ∃ x, a = some x ∧ len ≤ cap ∧ cap ≤ maxLen ∧ zs.length = cap ∧ (∀ i, i < zs.length → w.cell? (x.add i) = some (.int k (zs.getD i 0))) ∧ ∀ n ∈ zs, (Lit.int k n).wf = true
end tab
end Go.Proofs.YtefobboakikpbaaDoor
