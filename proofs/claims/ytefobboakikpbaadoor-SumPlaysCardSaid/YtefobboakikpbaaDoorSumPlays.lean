/- Proved: the Go function twinelaw2.SumPlays, called with whatever arguments, returns true and leaves its arguments as they were. Conditions: none. -/
import Derived.Test.YtefobboakikpbaaDoorPlay6
import Derived.Test.YtefobboakikpbaaDoorTab
namespace Go.Proofs.YtefobboakikpbaaDoor.sumPlays
open Go.ChangeShapes Go.WideShapes Go.ChangeAt Go.RowKit tab
set_option linter.unusedVariables false
set_option linter.unusedSimpArgs false

theorem u8_cells {tl : List Value} (h : ∀ i, i < tl.length → ∃ z : Int, tl[i]? = some (.int .u8 z) ∧ (Lit.int .u8 z).wf = true) : ∃ pc : List UInt8, tl = bytes pc := by
  refine ⟨tl.map fun v => UInt8.ofNat (intOf v).toNat, ?_⟩
  apply List.ext_getElem?
  intro i
  by_cases hi : i < tl.length
  · obtain ⟨z, hz, hw⟩ := h i hi
    simp only [bytes, List.map_map, List.getElem?_map, hz, Option.map_some, Function.comp, intOf]
    rw [u8_of_wf hw]
  · simp [bytes, List.getElem?_eq_none (Nat.not_lt.1 hi)]
theorem cellsOp : Tryd.prog.cellsOf 35 = 35 := by kernel_rfl
theorem cellsInt : Tryd.prog.cellsOf 3 = 1 := by kernel_rfl
theorem cellsSl : Tryd.prog.cellsOf 24 = 1 := by kernel_rfl
theorem cellsArr : Tryd.prog.cellsOf 26 = 32 := by kernel_rfl
theorem cellsU8 : Tryd.prog.cellsOf 5 = 1 := by kernel_rfl
set_option maxRecDepth 100000 in
theorem open_op {H : Type} {enc : TypeId × Value → H} {w : World} {held : Bool} {fuel : Nat} {cs : List Value} {x : DataW H × List MemPlace} (h : DataW.trod enc Tryd.prog w 0 (fun _ => true) held fuel 35 cs = some x) :
    ∃ d : OpD, cs = d.cells ∧ d.ok w ∧ d.n ≤ 9223372036854775807 := by
  obtain ⟨xs, n, _, _, hl, hxl, hf⟩ := DataW.trod_struct Tryd.underlying35 h
  rw [cellsOp] at hl
  have g0 := hf 0 _ rfl
  have g1 := hf 1 _ rfl
  have g2 := hf 2 _ rfl
  have g3 := hf 3 _ rfl
  have hxl4 : xs.length = 4 := hxl
  rw [List.getElem?_eq_getElem (by omega)] at g0 g1 g2 g3
  obtain ⟨c0, c1, c2, tl, rfl⟩ : ∃ c0 c1 c2 tl, cs = c0 :: c1 :: c2 :: tl := by
    match cs, hl with
    | c0 :: c1 :: c2 :: tl, _ => exact ⟨c0, c1, c2, tl, rfl⟩
  have htl : tl.length = 32 := by simpa using hl
  change DataW.trod _ _ _ _ _ _ n 3 (((c0 :: c1 :: c2 :: tl).drop 0).take (Tryd.prog.cellsOf 3)) = _ at g0
  change DataW.trod _ _ _ _ _ _ n 3 (((c0 :: c1 :: c2 :: tl).drop 1).take (Tryd.prog.cellsOf 3)) = _ at g1
  change DataW.trod _ _ _ _ _ _ n 24 (((c0 :: c1 :: c2 :: tl).drop 2).take (Tryd.prog.cellsOf 24)) = _ at g2
  change DataW.trod _ _ _ _ _ _ n 26 (((c0 :: c1 :: c2 :: tl).drop 3).take (Tryd.prog.cellsOf 26)) = _ at g3
  rw [cellsInt] at g0 g1
  rw [cellsSl] at g2
  rw [cellsArr] at g3
  obtain ⟨z0, e0, _, _⟩ := DataW.trod_int Tryd.underlying3 g0
  obtain ⟨z1, e1, _, _⟩ := DataW.trod_int Tryd.underlying3 g1
  obtain ⟨ys, m, _, _, _, _, ha⟩ := DataW.trod_array Tryd.underlying26 g3
  simp at e0 e1
  subst e0 e1
  obtain ⟨pc, rfl⟩ := u8_cells (tl := tl) (fun i hi => by
    have hi32 : i < 32 := by omega
    have h1 := ha i hi32
    rw [List.getElem?_eq_getElem (by omega), cellsU8] at h1
    obtain ⟨z, hz, _, hwf⟩ := DataW.trod_int Tryd.underlying5 h1
    refine ⟨z, ?_, hwf⟩
    have h2 : (List.drop (i * 1) (List.take 32 tl)).take 1 = [.int .u8 z] := hz
    rw [show List.take 32 tl = tl from List.take_of_length_le (by omega), Nat.mul_one] at h2
    have h3 := congrArg (fun l => l[0]?) h2
    simpa using h3)
  have hpc : pc.length = 32 := by rw [← bytes_length]; exact htl
  have e2 : ∃ a len cap zs, c2 = .slice a len cap ∧ IsRow .u8 w a len cap zs := by
    rcases open_ints Tryd.underlying24 Tryd.underlying5 (by kernel_rfl) g2 with ⟨hcs, _⟩ | ⟨x, l, c, zs, hcs, _, hl, hm, hz, _, hcell, hwz⟩
    · have : c2 = .slice none 0 0 := by simpa using hcs
      exact ⟨none, 0, 0, [], this, .inl ⟨rfl, rfl, rfl, rfl⟩⟩
    · have : c2 = .slice (some x) l c := by simpa using hcs
      exact ⟨some x, l, c, zs, this, .inr ⟨_, rfl, hl, hm, by simpa using hz, hcell, hwz⟩⟩
  obtain ⟨a, len, cap, zs, rfl, hr⟩ := e2
  obtain ⟨l, hll, hs, _, hm⟩ := sl_of_row hr
  exact ⟨⟨z0, z1, a, len, cap, pc, l⟩, rfl, ⟨hpc, hs, hll⟩, hm⟩
theorem words_lt {w : World} (h : KeysAt w) : 2 < w.heap.size := by
  have := h 0 (by decide)
  exact World.block_lt_of_cell? w _ this
set_option maxRecDepth 100000 in
theorem walk (a0 : Option Addr) (len0 cap0 : Nat) (w : World) (hT : KeysAt w ∧ BeginAt w) (D : Nat → OpD) (hD : OpsIn w a0 len0 D) (hm : len0 ≤ 9223372036854775807) (hn : ∀ i, i < len0 → (D i).n ≤ 9223372036854775807) :
    Calls Tryd.prog 4 #[.slice a0 len0 cap0] w fun e w' => e = .returned (.bool true) ∧ Below w.heap.size w w' :=
  plays_law w hT.1 hT.2 a0 cap0 len0 D hD hm hn (words_lt hT.1)

set_option maxRecDepth 100000 in
theorem contract (H : Type) (enc : TypeId × Value → H) (W : World) (base : Nat) (args : Array Value) (ds gs : List (DataW H)) (before : List MemPlace)
    (hval : ∀ (j : Nat) t v, Tryd.f4.params[j]? = some t → args[j]? = some v → Value.okWide Tryd.prog W .any base t v)
    (hW : DataW.Whole enc Tryd.prog Tryd.f4.params.toList Rows.sumPlaysSpec.vars false W args.toList ds gs before) (hL : laidMetH Tryd.prog Rows.sumPlaysRow.laid W) :
    Calls Tryd.prog 4 args W fun e W' => ∃ v, e = .returned v ∧ Rows.sumPlaysSpec.post enc Tryd.prog Tryd.f4 false true false false W args v W' := by
  have hW' := hW
  obtain ⟨p, q, hA0, hV, rfl, hfz, hnd⟩ := hW
  have hA : DataW.TrodAll enc Tryd.prog W 0 (fun _ => true) true Tryd.f4.params.toList args.toList ds p := hA0
  rw [Tryd.params4] at hA hval
  obtain ⟨v0, vs0, d0, ds0, p0, q0, hargs, rfl, rfl, h0, r0⟩ := trodAll_cons hA
  obtain ⟨rfl, rfl, rfl⟩ := trodAll_nil r0
  obtain rfl : args = #[v0] := by cases args; simp_all
  obtain ⟨rfl, rfl⟩ := trodVars_none hV
  obtain ⟨a0, len0, cap0, rfl⟩ := okWide_slice Tryd.underlying30 (hval 0 30 v0 rfl rfl)
  have k0 := h0
  have lt0 : ∀ x ∈ p0, x.block < W.heap.size := by obtain ⟨m, hm⟩ := k0; exact DataW.trod_lt m _ _ _ hm
  have hD : ∃ D : Nat → OpD, OpsIn W a0 len0 D ∧ len0 ≤ 9223372036854775807 ∧ ∀ i, i < len0 → (D i).n ≤ 9223372036854775807 := by
    obtain ⟨fuel, hf⟩ := h0
    rcases Deep.open_slice Tryd.underlying30 hf with ⟨hcs, _⟩ | ⟨x, l, c, m, n, D0, Pl, hcs, _, hl, hm, hmm, _, hx⟩
    · simp [Value.cells] at hcs
      obtain ⟨rfl, rfl, rfl⟩ := hcs
      exact ⟨fun _ => default, fun i hi => absurd hi (Nat.not_lt_zero _), by decide, fun i hi => absurd hi (Nat.not_lt_zero _)⟩
    · simp [Value.cells] at hcs
      obtain ⟨rfl, rfl, rfl⟩ := hcs
      have hmx : len0 ≤ 9223372036854775807 := by simp only [maxLen] at hm; omega
      have hsp : 0 < len0 → ∃ g off, x = (⟨g, off, none⟩ : Addr) := by
        intro hlen
        obtain ⟨cs', h1, h2⟩ := hx 0 (by rw [hmm]; simp; omega)
        rw [cellsOp] at h1
        obtain ⟨d, rfl, _, _⟩ := open_op h2
        obtain ⟨_, _, hc⟩ := World.cells?_some h1
        have h0 := hc 0 (by decide)
        obtain ⟨g, off, sp⟩ := x
        cases sp with
        | none => exact ⟨g, off, rfl⟩
        | some y =>
          exfalso
          rw [show d.cells[0]? = some (.int .i64 d.kind) from rfl] at h0
          simp [Addr.add, World.cell?] at h0
          split at h0 <;> simp at h0
      have hall : ∀ i, i < len0 → ∃ d : OpD, (d.ok W ∧ ∃ g off, some x = some (⟨g, off, none⟩ : Addr) ∧ W.rangeAt g (off + i * 35) d.cells) ∧ d.n ≤ 9223372036854775807 := by
        intro i hi
        have hic : i < m := by rw [hmm]; simp; omega
        obtain ⟨cs', h1, h2⟩ := hx i hic
        rw [cellsOp] at h1
        obtain ⟨d, rfl, hok, hdn⟩ := open_op h2
        obtain ⟨_, _, hc⟩ := World.cells?_some h1
        refine ⟨d, ⟨hok, ?_⟩, hdn⟩
        obtain ⟨g, off, rfl⟩ := hsp (by omega)
        refine ⟨g, off, rfl, fun j v hj => ?_⟩
        have hj35 : j < 35 := by
          have := (List.getElem?_eq_some_iff.1 hj).1
          rwa [OpD.length hok.1] at this
        have := hc j hj35
        rw [add_off, add_off, hj] at this
        exact this
      obtain ⟨D, hD⟩ := Deep.choose_lt hall
      exact ⟨D, fun i hi => (hD i hi).1, hmx, fun i hi => (hD i hi).2⟩
  obtain ⟨D, hD, hm, hn⟩ := hD
  clear hA0
  refine (walk a0 len0 cap0 W (tab.two hL) D hD hm hn).mono fun e W' ⟨he, bel⟩ => ?_
  subst he
  exact ⟨_, rfl, _, _, _, [], _, [], hW', trodAll_mk1 (shut_bool Tryd.underlying4 _), (trodAll_cons_mk (Below.trod laidOut (by kernel_rfl) (of_decide_eq_true (by kernel_rfl)) k0 bel lt0) trodAll_mk0), rfl, bel.frame _, fun h => by cases h⟩


theorem laid_met (os : Os) (args : Array Value) : laidMet Tryd.prog Rows.sumPlaysRow.laid ((laidWorld os).forCall (fun _ _ => 0) ⟨#[], args, []⟩).memory :=
  laidMet_of_run' 8 (by kernel_rfl) (by kernel_rfl)
theorem reads (os : Os) {H : Type} (enc : TypeId × Value → H) : (DataW.whole enc Tryd.prog ((laidWorld os).forCall (fun _ _ => 0) ⟨#[], #[.slice none 0 0], []⟩).memory Tryd.f4.params.toList Rows.sumPlaysSpec.vars false (#[.slice none 0 0] : Array Value).toList 8).isSome = true := by kernel_rfl

set_option maxRecDepth 100000 in
theorem lifted (os : Os) (started : os.Started) (H : Type) (enc : TypeId × Value → H) (F : Stop.Interp) :
    ReturnsInHanded {} Tryd.checked os 4 .any ((OpenSpec.ofChange Rows.sumPlaysSpec).preRow enc Tryd.prog Tryd.f4 Rows.sumPlaysRow.domain false Rows.sumPlaysRow.laid) (((OpenSpec.ofChange Rows.sumPlaysSpec).at F).post enc Tryd.prog Tryd.f4 false true false false) := by
  obtain ⟨x, hx⟩ := Option.isSome_iff_exists.1 (reads os enc)
  refine returnsInHanded_of_row (C := Tryd.checked) (s := OpenSpec.ofChange Rows.sumPlaysSpec) own started (by kernel_rfl) Tryd.func4
    (witness_row_at (enc := enc) (C := Tryd.checked) false (laidWorld os) #[.slice none 0 0] rfl (by kernel_rfl) (by kernel_rfl) (by kernel_rfl)
      (OpenSpec.preRow_of_cond 8 hx (by kernel_rfl) (fun k hk => by cases hk) (by kernel_rfl) (laid_met os _))) ?_
  intro W base args ds gs before hval hW _ _ _ hL _ _
  exact contract H enc W base args ds gs before hval hW hL

theorem said : Rows.SumPlaysSaid :=
  OpenClaim.holds_of_cond 4 Tryd.f4 rfl rfl rfl rfl rfl rfl rfl ⟨rfl, rfl, rfl, rfl, rfl⟩ rfl rfl rfl rfl rfl (by kernel_rfl) Tryd.func4 (by kernel_rfl)
    (of_decide_eq_true (by kernel_rfl)) (by unfold Func.isWrapper; first | (rw [if_pos (by decide +kernel)]; kernel_rfl) | (rw [if_neg (by decide +kernel)]; exact ⟨rfl, rfl⟩))
    (fun os started H enc _ F => by rw [OpenClaim.pre_eq_preRow]; exact lifted os started H enc F)

theorem plain (f : FuncId) (fn : Func) (hf : Tryd.pinned.checked.prog.funcNamed "twine/twinelaw2.SumPlays" = some f) (hfn : Tryd.pinned.checked.prog.funcs[f]? = some fn) :
    false = Tryd.pinned.checked.prog.looks [] ∧ ∀ (j : Nat) t, fn.params[j]? = some t → Tryd.pinned.checked.prog.wantsStandIn t = false := by
  obtain rfl : f = 4 := Option.some.inj ((show Tryd.prog.funcNamed "twine/twinelaw2.SumPlays" = some 4 by kernel_rfl).symm.trans hf) |>.symm
  obtain rfl : fn = Tryd.f4 := (Option.some.inj (Tryd.func4.symm.trans hfn)).symm
  refine ⟨by kernel_rfl, fun j t ht => ?_⟩
  rw [Tryd.params4] at ht
  have hall : ([30].all fun u => !Tryd.prog.wantsStandIn u) = true := by kernel_rfl
  have hm : t ∈ [30] := List.mem_of_getElem? (i := j) (by simpa using ht)
  exact (show Tryd.prog.wantsStandIn t = false by simpa using List.all_eq_true.1 hall t hm)

theorem sumPlays_card : Rows.SumPlaysCardSaid :=
  Claim7.holds_tied_plain_at .later [] _ _ _ _ said (fun _ h => by cases h) (by kernel_rfl) (fun _ h => by cases h) sumPlays_row_tie rfl ⟨rfl, rfl⟩ (by kernel_rfl) rfl plain (by kernel_rfl)
#print axioms sumPlays_card
end Go.Proofs.YtefobboakikpbaaDoor.sumPlays
