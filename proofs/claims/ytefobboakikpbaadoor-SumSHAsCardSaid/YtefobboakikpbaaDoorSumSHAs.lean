/- Proved: the Go function twinelaw2.SumSHAs, called with whatever arguments, returns true and leaves its arguments as they were. Conditions: none. -/
import Derived.Test.YtefobboakikpbaaDoorShas5
import Derived.Deep.Slices
import Derived.Test.YtefobboakikpbaaDoorTab
namespace Go.Proofs.YtefobboakikpbaaDoor.sumSHAs
open Go.ChangeShapes Go.WideShapes Go.ChangeAt Go.RowKit tab
set_option linter.unusedVariables false
set_option linter.unusedSimpArgs false

theorem cellsSl : Tryd.prog.cellsOf 24 = 1 := by kernel_rfl
theorem open_part {H : Type} {enc : TypeId × Value → H} {w : World} {held : Bool} {fuel : Nat} {cs : List Value} {x : DataW H × List MemPlace} (h : DataW.trod enc Tryd.prog w 0 (fun _ => true) held fuel 24 cs = some x) :
    ∃ (a : Option Addr) (n c : Nat) (l : List UInt8), cs = [.slice a n c] ∧ l.length = n ∧ Sl w 1 (.slice a n c) n (bytes l) := by
  have e2 : ∃ a len cap zs, cs = [.slice a len cap] ∧ IsRow .u8 w a len cap zs := by
    rcases open_ints Tryd.underlying24 Tryd.underlying5 (by kernel_rfl) h with ⟨hcs, _⟩ | ⟨x, l, c, zs, hcs, _, hl, hm, hz, _, hcell, hwz⟩
    · exact ⟨none, 0, 0, [], hcs, .inl ⟨rfl, rfl, rfl, rfl⟩⟩
    · exact ⟨some x, l, c, zs, hcs, .inr ⟨_, rfl, hl, hm, by simpa using hz, hcell, hwz⟩⟩
  obtain ⟨a, len, cap, zs, rfl, hr⟩ := e2
  obtain ⟨l, hll, hs, _, hm⟩ := sl_of_row hr
  exact ⟨a, len, cap, l, rfl, hll, hs⟩
set_option maxRecDepth 100000 in
theorem walk (a0 : Option Addr) (len0 cap0 : Nat) (w : World) (hT : KeysAt w ∧ BeginAt w) (Ps : List (List UInt8)) (hP : Parts w (.slice a0 len0 cap0) Ps) (hl : Ps.length = len0) (hm : len0 ≤ 9223372036854775807) :
    Calls Tryd.prog 5 #[.slice a0 len0 cap0] w fun e w' => e = .returned (.bool true) ∧ Below w.heap.size w w' :=
  shas_law w hT.1 hT.2 a0 cap0 len0 Ps hP hl hm

set_option maxRecDepth 100000 in
theorem contract (H : Type) (enc : TypeId × Value → H) (W : World) (base : Nat) (args : Array Value) (ds gs : List (DataW H)) (before : List MemPlace)
    (hval : ∀ (j : Nat) t v, Tryd.f5.params[j]? = some t → args[j]? = some v → Value.okWide Tryd.prog W .any base t v)
    (hW : DataW.Whole enc Tryd.prog Tryd.f5.params.toList Rows.sumSHAsSpec.vars false W args.toList ds gs before) (hL : laidMetH Tryd.prog Rows.sumSHAsRow.laid W) :
    Calls Tryd.prog 5 args W fun e W' => ∃ v, e = .returned v ∧ Rows.sumSHAsSpec.post enc Tryd.prog Tryd.f5 false true false false W args v W' := by
  have hW' := hW
  obtain ⟨p, q, hA0, hV, rfl, hfz, hnd⟩ := hW
  have hA : DataW.TrodAll enc Tryd.prog W 0 (fun _ => true) true Tryd.f5.params.toList args.toList ds p := hA0
  rw [Tryd.params5] at hA hval
  obtain ⟨v0, vs0, d0, ds0, p0, q0, hargs, rfl, rfl, h0, r0⟩ := trodAll_cons hA
  obtain ⟨rfl, rfl, rfl⟩ := trodAll_nil r0
  obtain rfl : args = #[v0] := by cases args; simp_all
  obtain ⟨rfl, rfl⟩ := trodVars_none hV
  obtain ⟨a0, len0, cap0, rfl⟩ := okWide_slice Tryd.underlying44 (hval 0 44 v0 rfl rfl)
  have k0 := h0
  have lt0 : ∀ x ∈ p0, x.block < W.heap.size := by obtain ⟨m, hm⟩ := k0; exact DataW.trod_lt m _ _ _ hm
  have hD : ∃ Ps : List (List UInt8), Parts W (.slice a0 len0 cap0) Ps ∧ Ps.length = len0 ∧ len0 ≤ 9223372036854775807 := by
    obtain ⟨fuel, hf⟩ := h0
    rcases Deep.open_slice Tryd.underlying44 hf with ⟨hcs, _⟩ | ⟨x, l, c, m, n, D0, Pl, hcs, _, hl, hm, hmm, _, hx⟩
    · simp [Value.cells] at hcs
      obtain ⟨rfl, rfl, rfl⟩ := hcs
      exact ⟨[], ⟨[], ⟨none, 0, rfl, rfl, by decide, fun h => absurd rfl h⟩, fun i hi => absurd hi (Nat.not_lt_zero _)⟩, rfl, by decide⟩
    · simp [Value.cells] at hcs
      obtain ⟨rfl, rfl, rfl⟩ := hcs
      have hmx : len0 ≤ 9223372036854775807 := by simp only [maxLen] at hm; omega
      have hall : ∀ i, i < len0 → ∃ q : Option Addr × Nat × List UInt8, W.cell? (x.add i) = some (.slice q.1 q.2.2.length q.2.1) ∧ Sl W 1 (.slice q.1 q.2.2.length q.2.1) q.2.2.length (bytes q.2.2) := by
        intro i hi
        have hic : i < m := by rw [hmm]; simp; omega
        obtain ⟨cs', h1, h2⟩ := hx i hic
        rw [cellsSl] at h1
        obtain ⟨a, n', c', l, rfl, rfl, hs⟩ := open_part h2
        obtain ⟨_, _, hc⟩ := World.cells?_some h1
        have h0 := hc 0 (by decide)
        refine ⟨⟨a, c', l⟩, ?_, hs⟩
        rw [Nat.mul_one] at h0
        simpa [Addr.add] using h0
      obtain ⟨D, hD⟩ := Deep.choose_lt hall
      have e : ∀ i, i < len0 → ((List.range len0).map fun i => (D i).2.2).getD i [] = (D i).2.2 := fun i hi => by
        rw [List.getD_eq_getElem?_getD, List.getElem?_map, List.getElem?_range hi]; rfl
      refine ⟨(List.range len0).map fun i => (D i).2.2, ⟨(List.range len0).map fun i => .slice (D i).1 (D i).2.2.length (D i).2.1, ⟨some x, cap0, by simp, by simp, by simp; exact hmx, fun hne => ⟨x, rfl, fun j u hj => ?_⟩⟩, fun i hi => ?_⟩, by simp, hmx⟩
      · have hjl := (List.getElem?_eq_some_iff.1 hj).1
        simp at hjl
        rw [List.getElem?_map, List.getElem?_range hjl] at hj
        simp at hj
        rw [(hD j hjl).1, hj]
      · have hil : i < len0 := by simpa using hi
        rw [e i hil]
        refine ⟨(D i).1, (D i).2.1, ?_, (hD i hil).2⟩
        rw [List.getElem?_map, List.getElem?_range hil]; rfl
  obtain ⟨Ps, hP, hPl, hm⟩ := hD
  clear hA0
  refine (walk a0 len0 cap0 W (tab.two hL) Ps hP hPl hm).mono fun e W' ⟨he, bel⟩ => ?_
  subst he
  exact ⟨_, rfl, _, _, _, [], _, [], hW', trodAll_mk1 (shut_bool Tryd.underlying4 _), (trodAll_cons_mk (Below.trod laidOut (by kernel_rfl) (of_decide_eq_true (by kernel_rfl)) k0 bel lt0) trodAll_mk0), rfl, bel.frame _, fun h => by cases h⟩


theorem laid_met (os : Os) (args : Array Value) : laidMet Tryd.prog Rows.sumSHAsRow.laid ((laidWorld os).forCall (fun _ _ => 0) ⟨#[], args, []⟩).memory :=
  laidMet_of_run' 8 (by kernel_rfl) (by kernel_rfl)
theorem reads (os : Os) {H : Type} (enc : TypeId × Value → H) : (DataW.whole enc Tryd.prog ((laidWorld os).forCall (fun _ _ => 0) ⟨#[], #[.slice none 0 0], []⟩).memory Tryd.f5.params.toList Rows.sumSHAsSpec.vars false (#[.slice none 0 0] : Array Value).toList 8).isSome = true := by kernel_rfl

set_option maxRecDepth 100000 in
theorem lifted (os : Os) (started : os.Started) (H : Type) (enc : TypeId × Value → H) (F : Stop.Interp) :
    ReturnsInHanded {} Tryd.checked os 5 .any ((OpenSpec.ofChange Rows.sumSHAsSpec).preRow enc Tryd.prog Tryd.f5 Rows.sumSHAsRow.domain false Rows.sumSHAsRow.laid) (((OpenSpec.ofChange Rows.sumSHAsSpec).at F).post enc Tryd.prog Tryd.f5 false true false false) := by
  obtain ⟨x, hx⟩ := Option.isSome_iff_exists.1 (reads os enc)
  refine returnsInHanded_of_row (C := Tryd.checked) (s := OpenSpec.ofChange Rows.sumSHAsSpec) own started (by kernel_rfl) Tryd.func5
    (witness_row_at (enc := enc) (C := Tryd.checked) false (laidWorld os) #[.slice none 0 0] rfl (by kernel_rfl) (by kernel_rfl) (by kernel_rfl)
      (OpenSpec.preRow_of_cond 8 hx (by kernel_rfl) (fun k hk => by cases hk) (by kernel_rfl) (laid_met os _))) ?_
  intro W base args ds gs before hval hW _ _ _ hL _ _
  exact contract H enc W base args ds gs before hval hW hL

theorem said : Rows.SumSHAsSaid :=
  OpenClaim.holds_of_cond 5 Tryd.f5 rfl rfl rfl rfl rfl rfl rfl ⟨rfl, rfl, rfl, rfl, rfl⟩ rfl rfl rfl rfl rfl (by kernel_rfl) Tryd.func5 (by kernel_rfl)
    (of_decide_eq_true (by kernel_rfl)) (by unfold Func.isWrapper; first | (rw [if_pos (by decide +kernel)]; kernel_rfl) | (rw [if_neg (by decide +kernel)]; exact ⟨rfl, rfl⟩))
    (fun os started H enc _ F => by rw [OpenClaim.pre_eq_preRow]; exact lifted os started H enc F)

theorem plain (f : FuncId) (fn : Func) (hf : Tryd.pinned.checked.prog.funcNamed "twine/twinelaw2.SumSHAs" = some f) (hfn : Tryd.pinned.checked.prog.funcs[f]? = some fn) :
    false = Tryd.pinned.checked.prog.looks [] ∧ ∀ (j : Nat) t, fn.params[j]? = some t → Tryd.pinned.checked.prog.wantsStandIn t = false := by
  obtain rfl : f = 5 := Option.some.inj ((show Tryd.prog.funcNamed "twine/twinelaw2.SumSHAs" = some 5 by kernel_rfl).symm.trans hf) |>.symm
  obtain rfl : fn = Tryd.f5 := (Option.some.inj (Tryd.func5.symm.trans hfn)).symm
  refine ⟨by kernel_rfl, fun j t ht => ?_⟩
  rw [Tryd.params5] at ht
  have hall : ([44].all fun u => !Tryd.prog.wantsStandIn u) = true := by kernel_rfl
  have hm : t ∈ [44] := List.mem_of_getElem? (i := j) (by simpa using ht)
  exact (show Tryd.prog.wantsStandIn t = false by simpa using List.all_eq_true.1 hall t hm)

theorem sumSHAs_card : Rows.SumSHAsCardSaid :=
  Claim7.holds_tied_plain_at .later [] _ _ _ _ said (fun _ h => by cases h) (by kernel_rfl) (fun _ h => by cases h) sumSHAs_row_tie rfl ⟨rfl, rfl⟩ (by kernel_rfl) rfl plain (by kernel_rfl)
#print axioms sumSHAs_card
end Go.Proofs.YtefobboakikpbaaDoor.sumSHAs
