/- What is wrong with a thing itself: the program's and the reference's. -/
import Derived.Test.YthnbinlllmkabaaEq
import Derived.Test.YthnbinlllmkabaaName
namespace Go.Proofs.Ythnbinlllmkabaa
open Go.RowKit
set_option linter.unusedVariables false
set_option linter.unusedSimpArgs false

def zeros : List UInt8 := List.replicate 32 0
def noMk : Mk × Mk := (⟨0, 0⟩, ⟨0, 0⟩)
def MarkP (m : Mk) : Prop := (m.number = 0 ∧ m.stamp = 0) ∨ (1 ≤ m.number ∧ m.number ≤ 72057594037927935 ∧ 1 ≤ m.stamp ∧ m.stamp ≤ 72057594037927935)
instance (m : Mk) : Decidable (MarkP m) := by unfold MarkP; infer_instance
def markB (m : Mk) : Bool := decide (MarkP m)
def RightP (v : Vl) : Prop := (v.kind = 1 ∧ 0 ≤ v.mode ∧ v.mode ≤ 8 ∧ v.size = 0 ∧ v.sum = zeros) ∨ (v.kind = 2 ∧ 0 ≤ v.mode ∧ v.mode ≤ 8 ∧ 0 ≤ v.size ∧ v.size ≤ 1099511627775) ∨ (v.kind = 3 ∧ v.mode = 0 ∧ 1 ≤ v.size ∧ v.size ≤ 4095)
instance (v : Vl) : Decidable (RightP v) := by unfold RightP; infer_instance
def rightB (v : Vl) : Bool := decide (RightP v)
/-- May a thing have this value and these marks? -/
def posErr (v : Vl) (m : Mk × Mk) : Int := if v.kind = 1 ∨ v.kind = 2 ∨ v.kind = 3 then (if RightP v ∧ MarkP m.1 ∧ MarkP m.2 ∧ (v.kind = 2 ∨ m = noMk) then 0 else 41) else 40
def ownErr (v : Vl) (m : Mk × Mk) (kids : Nat) : Int := if v.kind < 1 ∨ 3 < v.kind ∨ (v.kind ≠ 1 ∧ 0 < kids) then 40 else posErr v m
theorem ret_b {b c : Bool} (h : b = c) : Ending.returned (.bool b) = .returned (.bool c) := by rw [h]
theorem ret_i {k : IntKind} {a b : Int} (h : a = b) : Ending.returned (.int k a) = .returned (.int k b) := by rw [h]
theorem beq_f {a b : Int} (h : a ≠ b) : (a == b) = false := by rw [beq_eq_false_iff_ne]; exact h
theorem beq_t {a b : Int} (h : a = b) : (a == b) = true := by rw [h]; simp
/-- A mark in memory. -/
def kcells (m : Mk) : List Value := [.int .i64 m.number, .int .i64 m.stamp]
theorem mark_any (w : World) (m : Mk) :
    Calls Try.prog 103 #[.agg (kcells m).toArray] w fun e w' => e = .returned (.bool (markB m)) ∧ Below w.heap.size w w' := by
  have hr := rangeAt_row (heap_alloc_new w (.cells (kcells m).toArray 26))
  have f0 := hr 0 _ rfl
  have f1 := hr 1 _ rfl
  simp only [Nat.zero_add] at f0 f1
  clear hr
  have hc : (m.number = 0 ∧ m.stamp = 0) ∨ (m.number = 0 ∧ m.stamp ≠ 0) ∨ (m.number ≠ 0 ∧ m.number < 1) ∨ (1 ≤ m.number ∧ 72057594037927935 < m.number) ∨ (1 ≤ m.number ∧ m.number ≤ 72057594037927935 ∧ m.stamp < 1) ∨ (1 ≤ m.number ∧ m.number ≤ 72057594037927935 ∧ 1 ≤ m.stamp ∧ 72057594037927935 < m.stamp) ∨ (1 ≤ m.number ∧ m.number ≤ 72057594037927935 ∧ 1 ≤ m.stamp ∧ m.stamp ≤ 72057594037927935) := by omega
  rcases hc with ⟨h1, h2⟩ | ⟨h1, h2⟩ | ⟨h1, h2⟩ | ⟨h1, h2⟩ | ⟨h1, h2, h3⟩ | ⟨h1, h2, h3, h4⟩ | ⟨h1, h2, h3, h4⟩
  all_goals
    have e1 : (m.number == 0) = decide (m.number = 0) := int_beq _ _
    have e2 : (m.stamp == 0) = decide (m.stamp = 0) := int_beq _ _
    first | rw [decide_eq_true (by omega)] at e1 | rw [decide_eq_false (by omega)] at e1 | clear e1
    first | rw [decide_eq_true (by omega)] at e2 | rw [decide_eq_false (by omega)] at e2 | clear e2
    go_enter Try.func103, Try.ntmps103
    go_wp2
    go_ret
    refine ⟨?_, (Below.refl _ _).alloc (Nat.le_refl _) _⟩
    first
    | exact ret_b (decide_eq_true (show MarkP m by unfold MarkP; omega)).symm
    | exact ret_b (decide_eq_false (show ¬ MarkP m by unfold MarkP; omega)).symm
    | (refine ret_b ?_; unfold markB; rw [decide_eq_decide]; unfold MarkP; omega)
theorem zeros_cells : (bytes zeros).toArray = (#[.int .u8 0, .int .u8 0, .int .u8 0, .int .u8 0, .int .u8 0, .int .u8 0, .int .u8 0, .int .u8 0, .int .u8 0, .int .u8 0, .int .u8 0, .int .u8 0, .int .u8 0, .int .u8 0, .int .u8 0, .int .u8 0, .int .u8 0, .int .u8 0, .int .u8 0, .int .u8 0, .int .u8 0, .int .u8 0, .int .u8 0, .int .u8 0, .int .u8 0, .int .u8 0, .int .u8 0, .int .u8 0, .int .u8 0, .int .u8 0, .int .u8 0, .int .u8 0] : Array Value) := by kernel_rfl
theorem zero_sum : (Try.prog.info? 22).map (·.size) = some 32 := by kernel_rfl
set_option maxHeartbeats 1000000 in
set_option maxRecDepth 100000 in
theorem right_any (w : World) (v : Vl) (hv : v.sum.length = 32) :
    Calls Try.prog 102 #[.agg v.cells.toArray] w fun e w' => e = .returned (.bool (rightB v)) ∧ Below w.heap.size w w' := by
  have hr := rangeAt_row (heap_alloc_new w (.cells v.cells.toArray 24))
  obtain ⟨f0, f1, f2, f3⟩ := vl_at hr
  simp only [Nat.zero_add] at f0 f1 f2 f3
  have F3 := Lib.hid f3
  have hbl := Lib.hid (bytes_length v.sum)
  have Hv := Lib.hid hv
  have hz := fun w => eq_sum v.sum zeros hv rfl w
  simp only [zeros_cells] at hz
  clear hr f3 hv
  have hc : (v.kind = 1 ∧ v.mode < 0) ∨ (v.kind = 1 ∧ 0 ≤ v.mode ∧ 8 < v.mode) ∨ (v.kind = 1 ∧ 0 ≤ v.mode ∧ v.mode ≤ 8 ∧ v.size ≠ 0) ∨ (v.kind = 1 ∧ 0 ≤ v.mode ∧ v.mode ≤ 8 ∧ v.size = 0) ∨
      (v.kind = 2 ∧ v.mode < 0) ∨ (v.kind = 2 ∧ 0 ≤ v.mode ∧ 8 < v.mode) ∨ (v.kind = 2 ∧ 0 ≤ v.mode ∧ v.mode ≤ 8 ∧ v.size < 0) ∨ (v.kind = 2 ∧ 0 ≤ v.mode ∧ v.mode ≤ 8 ∧ 0 ≤ v.size) ∨
      (v.kind = 3 ∧ v.mode ≠ 0) ∨ (v.kind = 3 ∧ v.mode = 0 ∧ v.size < 1) ∨ (v.kind = 3 ∧ v.mode = 0 ∧ 1 ≤ v.size) ∨ (v.kind ≠ 1 ∧ v.kind ≠ 2 ∧ v.kind ≠ 3) := by omega
  rcases hc with ⟨h1, h2⟩ | ⟨h1, h2, h3⟩ | ⟨h1, h2, h3, h4⟩ | ⟨h1, h2, h3, h4⟩ | ⟨h1, h2⟩ | ⟨h1, h2, h3⟩ | ⟨h1, h2, h3, h4⟩ | ⟨h1, h2, h3, h4⟩ | ⟨h1, h2⟩ | ⟨h1, h2, h3⟩ | ⟨h1, h2, h3⟩ | ⟨h1, h2, h3⟩
  all_goals
    have e1 : (v.kind == 1) = decide (v.kind = 1) := int_beq _ _
    have e2 : (v.kind == 2) = decide (v.kind = 2) := int_beq _ _
    have e3 : (v.kind == 3) = decide (v.kind = 3) := int_beq _ _
    have e4 : (v.mode == 0) = decide (v.mode = 0) := int_beq _ _
    have e5 : (v.size == 0) = decide (v.size = 0) := int_beq _ _
    first | rw [decide_eq_true (by omega)] at e1 | rw [decide_eq_false (by omega)] at e1
    first | rw [decide_eq_true (by omega)] at e2 | rw [decide_eq_false (by omega)] at e2
    first | rw [decide_eq_true (by omega)] at e3 | rw [decide_eq_false (by omega)] at e3
    first | rw [decide_eq_true (by omega)] at e4 | rw [decide_eq_false (by omega)] at e4 | clear e4
    first | rw [decide_eq_true (by omega)] at e5 | rw [decide_eq_false (by omega)] at e5 | clear e5
    have HV := Lib.hid (show (v.kind = v.kind ∧ v.mode = v.mode) from ⟨rfl, rfl⟩)
    go_enter Try.func102, Try.ntmps102
    go_wp2_with (refine wpList_load_midg (by rfl) 22 (.tmp 21) rfl w.heap.size 3 rfl (bytes v.sum) _ F3.out Try.underlying22 rfl (by rw [hbl.out, Hv.out]; kernel_rfl) ?_)
    go_ret
    refine ⟨?_, (Below.refl _ _).alloc (Nat.le_refl _) _⟩
    first
    | exact ret_b (decide_eq_true (show RightP v by unfold RightP; omega)).symm
    | exact ret_b (decide_eq_false (show ¬ RightP v by unfold RightP; omega)).symm
    | (refine ret_b ?_; unfold rightB; rw [decide_eq_decide]; unfold RightP; omega)
    | (refine ret_b ?_; unfold rightB; rw [decide_eq_decide]; unfold RightP; simp only [h1, h2, h3, h4]; simp)
    | (refine ret_b ?_; unfold rightB; rw [decide_eq_decide]; unfold RightP; grind)
theorem nomk_cells : (mcells noMk).toArray = (#[.int .i64 0, .int .i64 0, .int .i64 0, .int .i64 0] : Array Value) := rfl
/-- A value and marks in two blocks of the call's own. -/
def TwoAt (w : World) (b1 b2 : Nat) (v : Vl) (m : Mk × Mk) (w' : World) : Prop := w'.heap[b1]? = some (.cells v.cells.toArray 24 (0, 0)) ∧ w'.heap[b2]? = some (.cells (mcells m).toArray 27 (0, 0)) ∧ Below w.heap.size w w'
theorem TwoAt.made (w : World) (v : Vl) (m : Mk × Mk) : TwoAt w w.heap.size (w.heap.size + 1) v m ((w.alloc (.cells v.cells.toArray 24)).alloc (.cells (mcells m).toArray 27)) := by
  refine ⟨?_, ?_, on_alloc (on_alloc (Below.refl _ _) _) _⟩
  · rw [Below.heap_alloc _ _ _ (by simp)]; exact heap_alloc_new w _
  · have := heap_alloc_new (w.alloc (.cells v.cells.toArray 24)) (.cells (mcells m).toArray 27)
    rw [World.size_alloc] at this
    exact this
theorem TwoAt.next {w w1 w2 : World} {b1 b2 : Nat} {v : Vl} {m : Mk × Mk} (h : TwoAt w b1 b2 v m w1) (hb : Below w1.heap.size w1 w2) : TwoAt w b1 b2 v m w2 :=
  ⟨(hb.block _ (lt_heap h.1)).trans h.1, (hb.block _ (lt_heap h.2.1)).trans h.2.1, below_on h.2.2 hb⟩
theorem TwoAt.cells {w w' : World} {b1 b2 : Nat} {v : Vl} {m : Mk × Mk} (h : TwoAt w b1 b2 v m w') :
    w'.cell? ⟨b1, 0, none⟩ = some (.int .i64 v.kind) ∧ w'.cell? ⟨b1, 1, none⟩ = some (.int .i64 v.mode) ∧ w'.cell? ⟨b1, 2, none⟩ = some (.int .i64 v.size) ∧ w'.rangeAt b1 3 (bytes v.sum) ∧ w'.rangeAt b1 0 v.cells ∧ w'.rangeAt b2 0 (mcells m) ∧ w'.rangeAt b2 0 (kcells m.1) ∧ w'.rangeAt b2 2 (kcells m.2) := by
  have hr := rangeAt_row h.1
  obtain ⟨f0, f1, f2, f3⟩ := vl_at hr
  have hm := rangeAt_row h.2.1
  simp only [Nat.zero_add] at f0 f1 f2 f3
  exact ⟨f0, f1, f2, f3, hr, hm, rangeAt_pre (ys := kcells m.2) hm, rangeAt_sub (xs := kcells m.1) (ys := kcells m.2) (zs := []) hm⟩
set_option maxHeartbeats 1000000 in
set_option maxRecDepth 100000 in
theorem own_any (w : World) (v : Vl) (m : Mk × Mk) (kids : Nat) (hv : v.sum.length = 32) (hk : kids ≤ 9223372036854775807) :
    Calls Try.prog 60 #[.agg v.cells.toArray, .agg (mcells m).toArray, .int .i64 (kids : Nat)] w fun e w' => e = .returned (.int .i64 (ownErr v m kids)) ∧ Below w.heap.size w w' := by
  have hT := TwoAt.made w v m
  obtain ⟨f0, f1, f2, f3, _⟩ := hT.cells
  have HT := Lib.hid hT
  have Hv := Lib.hid hv
  clear hT hv f3
  by_cases hbad : v.kind < 1 ∨ 3 < v.kind ∨ (v.kind ≠ 1 ∧ 0 < kids)
  · have He : Hid (ownErr v m kids = 40) := by show _ = _; unfold ownErr; rw [if_pos hbad]
    have hc : v.kind < 1 ∨ 3 < v.kind ∨ (1 ≤ v.kind ∧ v.kind ≤ 3 ∧ v.kind ≠ 1 ∧ 0 < kids) := by omega
    clear hbad
    rcases hc with h1 | h1 | ⟨h1, h2, h3, h4⟩
    all_goals
      try have e1 : (v.kind != 1) = true := by rw [bne_iff_ne]; omega
      go_enter Try.func60, Try.ntmps60
      go_wp2
      go_ret
      exact ⟨ret_i He.out.symm, HT.out.2.2⟩
  · have He : Hid (ownErr v m kids = posErr v m) := by show _ = _; unfold ownErr; rw [if_neg hbad]
    have hk1 : 1 ≤ v.kind := by omega
    have hk3 : v.kind ≤ 3 := by omega
    have hc : v.kind = 1 ∨ (v.kind ≠ 1 ∧ kids ≤ 0) := by omega
    have hp : posErr v m = (if RightP v ∧ MarkP m.1 ∧ MarkP m.2 ∧ (v.kind = 2 ∨ m = noMk) then 0 else 41) := by unfold posErr; rw [if_pos (by omega)]
    have hz := fun w => eq_marks m noMk w
    simp only [nomk_cells] at hz
    have Hp := Lib.hid hp
    clear hbad hp
    rcases hc with h1 | ⟨h1, h2⟩
    all_goals
      have e1 : (v.kind != 1) = decide (v.kind ≠ 1) := by rw [bne, int_beq]; simp
      first | rw [decide_eq_true (by omega)] at e1 | rw [decide_eq_false (by omega)] at e1
      have hv35 := Lib.hid (show v.cells.length = 35 by simp [Vl.cells, bytes_length, Hv.out])
      go_enter Try.func60, Try.ntmps60
      go_wp2_with (refine wpList_load_midg (by rfl) 24 (.tmp 3) rfl w.heap.size 0 rfl v.cells _ HT.out.cells.2.2.2.2.1 Try.underlying24 rfl (by rw [hv35.out]; kernel_rfl) ?_)
      refine (right_any _ v Hv.out).mono ?_
      rintro e w2 ⟨rfl, hb2⟩
      have HT2 := Lib.hid (HT.out.next hb2)
      clear hb2 f0 f1 f2
      by_cases hR : RightP v
      · rw [show rightB v = true from decide_eq_true hR]
        have HR := Lib.hid hR
        clear hR
        go_wp2_with (refine wpList_load_midg (by rfl) 26 (.tmp 28) rfl (w.heap.size + 1) 0 rfl (kcells m.1) _ HT2.out.cells.2.2.2.2.2.2.1 Try.underlying26 rfl (by kernel_rfl) ?_)
        refine (mark_any _ m.1).mono ?_
        rintro e w3 ⟨rfl, hb3⟩
        have HT3 := Lib.hid (HT2.out.next hb3)
        clear hb3
        by_cases hM : MarkP m.1
        · rw [show markB m.1 = true from decide_eq_true hM]
          have HM := Lib.hid hM
          clear hM
          go_wp2_with (refine wpList_load_midg (by rfl) 26 (.tmp 34) rfl (w.heap.size + 1) 2 rfl (kcells m.2) _ HT3.out.cells.2.2.2.2.2.2.2 Try.underlying26 rfl (by kernel_rfl) ?_)
          refine (mark_any _ m.2).mono ?_
          rintro e w4 ⟨rfl, hb4⟩
          have HT4 := Lib.hid (HT3.out.next hb4)
          clear hb4
          by_cases hM2 : MarkP m.2
          · rw [show markB m.2 = true from decide_eq_true hM2]
            have f0 := HT4.out.cells.1
            by_cases h2k : v.kind = 2
            · first
              | (exfalso; omega)
              | (have e2 : (v.kind != 2) = false := by simp [h2k]
                 have He2 := Lib.hid (show ownErr v m kids = 0 by rw [He.out, Hp.out, if_pos ⟨HR.out, HM.out, hM2, .inl h2k⟩])
                 clear hM2 h2k
                 go_wp2
                 go_ret
                 exact ⟨ret_i He2.out.symm, HT4.out.2.2⟩)
            · have e2 : (v.kind != 2) = true := by rw [bne_iff_ne]; exact h2k
              by_cases hmn : m = noMk
              · have He2 := Lib.hid (show ownErr v m kids = 0 by rw [He.out, Hp.out, if_pos ⟨HR.out, HM.out, hM2, .inr hmn⟩])
                have hz2 : ∀ w, (Op.equalIn 10000 27 (.agg (mcells m).toArray) (.agg #[.int .i64 0, .int .i64 0, .int .i64 0, .int .i64 0])).run Try.prog w = .ok true w := fun w => by rw [hz w, decide_eq_true hmn]
                clear hM2 h2k hmn hz
                go_wp2_with (refine wpList_load_midg (by rfl) 27 (.tmp 4) rfl (w.heap.size + 1) 0 rfl (mcells m) _ HT4.out.cells.2.2.2.2.2.1 Try.underlying27 rfl (by kernel_rfl) ?_)
                go_ret
                exact ⟨ret_i He2.out.symm, HT4.out.2.2⟩
              · have He2 := Lib.hid (show ownErr v m kids = 41 by rw [He.out, Hp.out, if_neg (fun h => h.2.2.2.elim h2k hmn)])
                have hz2 : ∀ w, (Op.equalIn 10000 27 (.agg (mcells m).toArray) (.agg #[.int .i64 0, .int .i64 0, .int .i64 0, .int .i64 0])).run Try.prog w = .ok false w := fun w => by rw [hz w, decide_eq_false hmn]
                clear hM2 h2k hmn hz
                go_wp2_with (refine wpList_load_midg (by rfl) 27 (.tmp 4) rfl (w.heap.size + 1) 0 rfl (mcells m) _ HT4.out.cells.2.2.2.2.2.1 Try.underlying27 rfl (by kernel_rfl) ?_)
                go_ret
                exact ⟨ret_i He2.out.symm, HT4.out.2.2⟩
          · rw [show markB m.2 = false from decide_eq_false hM2]
            have He2 := Lib.hid (show ownErr v m kids = 41 by rw [He.out, Hp.out, if_neg (fun h => hM2 h.2.2.1)])
            clear hM2
            go_wp2
            go_ret
            exact ⟨ret_i He2.out.symm, HT4.out.2.2⟩
        · rw [show markB m.1 = false from decide_eq_false hM]
          have He2 := Lib.hid (show ownErr v m kids = 41 by rw [He.out, Hp.out, if_neg (fun h => hM h.2.1)])
          clear hM
          go_wp2
          go_ret
          exact ⟨ret_i He2.out.symm, HT3.out.2.2⟩
      · rw [show rightB v = false from decide_eq_false hR]
        have He2 := Lib.hid (show ownErr v m kids = 41 by rw [He.out, Hp.out, if_neg (fun h => hR h.1)])
        clear hR
        go_wp2
        go_ret
        exact ⟨ret_i He2.out.symm, HT2.out.2.2⟩
end Go.Proofs.Ythnbinlllmkabaa
