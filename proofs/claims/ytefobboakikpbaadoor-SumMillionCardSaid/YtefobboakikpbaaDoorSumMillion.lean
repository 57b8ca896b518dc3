/- SumMillion: the card. -/
import Derived.Test.YtefobboakikpbaaDoorMil
import Derived.Test.YtefobboakikpbaaDoorCards
import Derived.Test.YtefobboakikpbaaDoorTie
import Derived.WalkKit
import Derived.ProofKit
import Derived.OpenShut
import Derived.Deep.DeepHandedRow
import Derived.Lib.LaidTab
namespace Go.Proofs.YtefobboakikpbaaDoor.million
open Go.ChangeShapes Go.WideShapes Go.ChangeAt Go.RowKit
set_option linter.unusedVariables false
set_option linter.unusedSimpArgs false
theorem own : ownKnob Tryd.prog.godebug = none := by kernel_rfl
theorem gB : Tryd.prog.globalNamed "twine/sum.begin" = some 0 := by kernel_rfl
theorem gW : Tryd.prog.globalNamed "twine/sum.words" = some 2 := by kernel_rfl
theorem gBT : (Tryd.prog.globals[0]?).map (·.type) = some 86 := by kernel_rfl
theorem gWT : (Tryd.prog.globals[2]?).map (·.type) = some 103 := by kernel_rfl
theorem cellsB : Tryd.prog.cellsOf 86 = 8 := by kernel_rfl
theorem cellsW : Tryd.prog.cellsOf 103 = 64 := by kernel_rfl
theorem cellsU : Tryd.prog.cellsOf 67 = 1 := by kernel_rfl
theorem undB : Tryd.prog.underlying 86 = some (.array 8 67) := by kernel_rfl
theorem undW : Tryd.prog.underlying 103 = some (.array 64 67) := by kernel_rfl
theorem undU : Tryd.prog.underlying 67 = some (.int .u32) := by kernel_rfl

theorem tabIs_second {P : Program} {W : World} {name n2 : String} {d2 : DataW Unit} {k : IntKind} {zs : List Int} {rest : List (String × DataW Unit)} {g : Nat} {t e : TypeId} {n : Nat}
    (hg : P.globalNamed name = some g) (hty : (P.globals[g]?).map (·.type) = some t) (ht : P.underlying t = some (.array n e)) (he : P.underlying e = some (.int k)) (hce : P.cellsOf e = 1) (hct : P.cellsOf t = n)
    (h : laidMet P ((n2, d2) :: (name, Lib.tabData k zs) :: rest) W) : Lib.TabIs P W name k zs := by
  obtain ⟨ps, ⟨_, _, _, _, _, _, _, _, _, _, ⟨g', t', cs, fuel, p, q, hg', ht', hvar, hd, _, _⟩, _⟩, _⟩ := h
  obtain rfl := Option.some.inj (hg.symm.trans hg')
  obtain rfl := Option.some.inj (hty.symm.trans ht')
  unfold Lib.TabIs
  rw [hvar, ← Lib.cells_of_tab ht he hce hct hd]
def beginZ : List Int := [1779033703, 3144134277, 1013904242, 2773480762, 1359893119, 2600822924, 528734635, 1541459225]
def keysZ : List Int := keys.map Int.ofNat
theorem tableB {W : World} (h : laidMetH Tryd.prog Rows.sumMillionRow.laid W) : Lib.TabIs Tryd.prog W "twine/sum.begin" .u32 beginZ :=
  Lib.tabIs_of_head (rest := [("twine/sum.words", Rows.laid_twine_sum_words)]) gB gBT undB undU cellsU cellsB h
theorem tableW {W : World} (h : laidMetH Tryd.prog Rows.sumMillionRow.laid W) : Lib.TabIs Tryd.prog W "twine/sum.words" .u32 keysZ :=
  tabIs_second (n2 := "twine/sum.begin") (d2 := Rows.laid_twine_sum_begin) (rest := []) gW gWT undW undU cellsU cellsW h
theorem keysAt {W : World} (h : laidMetH Tryd.prog Rows.sumMillionRow.laid W) : KeysAt W := by
  intro i hi
  rw [(tableW h).cell gW i (by rw [show keysZ.length = 64 from by decide +kernel]; exact hi)]
  congr 2
  unfold keysZ
  rw [List.getD_eq_getElem?_getD, List.getElem?_map, List.getD_eq_getElem?_getD]
  cases keys[i]? <;> rfl
theorem beginAt {W : World} (h : laidMetH Tryd.prog Rows.sumMillionRow.laid W) : BeginAt W := by
  intro j u hu
  have hj : j < 8 := (Array.getElem?_eq_some_iff.1 hu).1
  rw [(tableB h).cell gB j hj, ← hu]
  rcases j with _ | _ | _ | _ | _ | _ | _ | _ | j <;> first | rfl | omega

theorem contract (H : Type) (enc : TypeId × Value → H) (W : World) (base : Nat) (args : Array Value) (ds gs : List (DataW H)) (before : List MemPlace)
    (hval : ∀ (j : Nat) t v, Tryd.f3.params[j]? = some t → args[j]? = some v → Value.okWide Tryd.prog W .any base t v)
    (hW : DataW.Whole enc Tryd.prog Tryd.f3.params.toList Rows.sumMillionSpec.vars false W args.toList ds gs before) (hL : laidMetH Tryd.prog Rows.sumMillionRow.laid W) :
    Calls Tryd.prog 3 args W fun e W' => ∃ v, e = .returned v ∧ Rows.sumMillionSpec.post enc Tryd.prog Tryd.f3 false true false false W args v W' := by
  have hW' := hW
  obtain ⟨p, q, hA0, hV, rfl, hfz, hnd⟩ := hW
  have hA : DataW.TrodAll enc Tryd.prog W 0 (fun _ => true) true Tryd.f3.params.toList args.toList ds p := hA0
  rw [Tryd.params3] at hA hval
  obtain ⟨hargs, rfl, rfl⟩ := trodAll_nil hA
  obtain rfl : args = #[] := by cases args; simp_all
  obtain ⟨rfl, rfl⟩ := trodVars_none hV
  clear hA0
  simp only [List.append_nil] at hW'
  refine (million_any W (keysAt hL) (beginAt hL)).mono fun e W' ⟨he, hg⟩ => ?_
  subst he
  exact ⟨_, rfl, _, _, _, [], _, [], hW', trodAll_mk1 (shut_bool Tryd.underlying4 _), trodAll_mk0, rfl, hg.frame _, fun h => by cases h⟩

/-- A world for the witness: the settled one, the two tables laid. -/
def layCells (zs : List Int) : Obj → Obj
  | .cells _ t frozen => .cells (zs.map (Value.int .u32)).toArray t frozen
  | o => o
noncomputable def laidWorld (os : Os) : World :=
  { World.holding Tryd.prog os ⟨#[], #[], []⟩ with heap := ((World.holding Tryd.prog os ⟨#[], #[], []⟩).heap.modify 0 (layCells beginZ)).modify 2 (layCells keysZ) }
theorem laid_met (os : Os) : laidMet Tryd.prog Rows.sumMillionRow.laid ((laidWorld os).forCall (fun _ _ => 0) ⟨#[], #[], []⟩).memory :=
  laidMet_of_run' 8 (by kernel_rfl) (by kernel_rfl)
theorem reads (os : Os) {H : Type} (enc : TypeId × Value → H) : ∃ places, DataW.whole enc Tryd.prog ((laidWorld os).forCall (fun _ _ => 0) ⟨#[], #[], []⟩).memory Tryd.f3.params.toList Rows.sumMillionSpec.vars false (#[] : Array Value).toList 8 = some ([], [], places) :=
  ⟨[], by kernel_rfl⟩

set_option maxRecDepth 100000 in
theorem lifted (os : Os) (started : os.Started) (H : Type) (enc : TypeId × Value → H) (F : Stop.Interp) :
    ReturnsInHanded {} Tryd.checked os 3 .any ((OpenSpec.ofChange Rows.sumMillionSpec).preRow enc Tryd.prog Tryd.f3 Rows.sumMillionRow.domain false Rows.sumMillionRow.laid) (((OpenSpec.ofChange Rows.sumMillionSpec).at F).post enc Tryd.prog Tryd.f3 false true false false) := by
  obtain ⟨places, hx⟩ := reads os enc
  refine returnsInHanded_of_row (C := Tryd.checked) (s := OpenSpec.ofChange Rows.sumMillionSpec) own started (by kernel_rfl) Tryd.func3
    (witness_row_at (enc := enc) (C := Tryd.checked) false (laidWorld os) #[] rfl (by kernel_rfl) (by kernel_rfl) (by kernel_rfl)
      (OpenSpec.preRow_of_cond 8 hx (by kernel_rfl) (fun k hk => by cases hk) (by kernel_rfl) (laid_met os))) ?_
  intro W base args ds gs before hval hW _ _ _ hL _ _
  exact contract H enc W base args ds gs before hval hW hL

theorem said : Rows.SumMillionSaid :=
  OpenClaim.holds_of_cond 3 Tryd.f3 rfl rfl rfl rfl rfl rfl rfl ⟨rfl, rfl, rfl, rfl, rfl⟩ rfl rfl rfl rfl rfl (by kernel_rfl) Tryd.func3 (by kernel_rfl)
    (of_decide_eq_true (by kernel_rfl)) (by unfold Func.isWrapper; first | (rw [if_pos (by decide +kernel)]; kernel_rfl) | (rw [if_neg (by decide +kernel)]; exact ⟨rfl, rfl⟩))
    (fun os started H enc _ F => by rw [OpenClaim.pre_eq_preRow]; exact lifted os started H enc F)

theorem plain (f : FuncId) (fn : Func) (hf : Tryd.pinned.checked.prog.funcNamed "twine/twinelaw2.SumMillion" = some f) (hfn : Tryd.pinned.checked.prog.funcs[f]? = some fn) :
    false = Tryd.pinned.checked.prog.looks [] ∧ ∀ (j : Nat) t, fn.params[j]? = some t → Tryd.pinned.checked.prog.wantsStandIn t = false := by
  obtain rfl : f = 3 := Option.some.inj ((show Tryd.prog.funcNamed "twine/twinelaw2.SumMillion" = some 3 by kernel_rfl).symm.trans hf) |>.symm
  obtain rfl : fn = Tryd.f3 := (Option.some.inj (Tryd.func3.symm.trans hfn)).symm
  refine ⟨by kernel_rfl, fun j t ht => ?_⟩
  rw [Tryd.params3] at ht
  simp at ht

theorem sumMillion_card : Rows.SumMillionCardSaid :=
  Claim7.holds_tied_plain_at .later [] _ _ _ _ said (fun _ h => by cases h) (by kernel_rfl) (fun _ h => by cases h) sumMillion_row_tie rfl ⟨rfl, rfl⟩ (by kernel_rfl) rfl plain (by kernel_rfl)
end Go.Proofs.YtefobboakikpbaaDoor.million
