/- What the program asks of a value and marks: links, and what is none. -/
import Derived.Test.YthnbinlllmkabaaPoss
namespace Go.Proofs.Ythnbinlllmkabaa
open Go.RowKit
set_option linter.unusedVariables false
set_option linter.unusedSimpArgs false

set_option maxHeartbeats 2000000 in
set_option maxRecDepth 100000 in
theorem possible_3f (w : World) (v : Vl) (m : Mk × Mk) (hv : v.sum.length = 32) (hk : v.kind = 3) (hne : m ≠ noMk) :
    Calls Try.prog 90 #[.agg v.cells.toArray, .agg (mcells m).toArray] w fun e w' => e = .returned (.int .i64 (posErr v m)) ∧ Below w.heap.size w w' := by
  have hT := TwoAt.made w v m
  obtain ⟨f0, f1, f2, f3, _⟩ := hT.cells
  have HT := Lib.hid hT
  have Hv := Lib.hid hv
  have F3 := Lib.hid f3
  have hb32 := Lib.hid (show (bytes v.sum).length = 32 by rw [bytes_length, hv])
  have hzs := fun w => eq_sum v.sum zeros hv rfl w
  simp only [zeros_cells] at hzs
  have hz := fun w => eq_marks m noMk w
  simp only [nomk_cells] at hz
  clear hT hv f3
  have hm1 : ∃ z, decide (m = noMk) = z ∧ (z = true ↔ m = noMk) := ⟨_, rfl, by simp⟩
  have hm2 : ∃ z, decide (v.sum = zeros) = z ∧ (z = true ↔ v.sum = zeros) := ⟨_, rfl, by simp⟩
  obtain ⟨zm, hzm, hzm2⟩ := hm1
  obtain ⟨zs, hzs1, hzs2⟩ := hm2
  rw [hzm] at hz
  rw [hzs1] at hzs
  have Hzm := Lib.hid hzm2
  have Hzs := Lib.hid hzs2
  clear hzm hzs1 hzm2 hzs2
  have He := Lib.hid (pos_3 (m := m) hk)
  have e1 : (v.kind == 1) = false := by rw [beq_eq_false_iff_ne]; omega
  have e2 : (v.kind == 2) = false := by rw [beq_eq_false_iff_ne]; omega
  have e3 : (v.kind == 3) = true := by simp [hk]
  have Hk := Lib.hid hk
  have hzb : zm = false := by
    cases zm with
    | true => exact absurd (Hzm.out.1 rfl) hne
    | false => rfl
  subst hzb
  clear hk hne
  have hcs : (v.size = 0 ∧ v.mode < 0) ∨ (v.size = 0 ∧ 0 ≤ v.mode) ∨ (v.size ≠ 0 ∧ v.mode < 0) ∨ (v.size ≠ 0 ∧ 0 ≤ v.mode) := by omega
  rcases hcs with ⟨h1, h2⟩ | ⟨h1, h2⟩ | ⟨h1, h2⟩ | ⟨h1, h2⟩
  all_goals
    have e5 : (v.size == 0) = decide (v.size = 0) := int_beq _ _
    first | rw [decide_eq_true (by omega)] at e5 | rw [decide_eq_false (by omega)] at e5
    have e7 : (v.mode == 0) = decide (v.mode = 0) := int_beq _ _
    first | rw [decide_eq_true (by omega)] at e7 | rw [decide_eq_false (by omega)] at e7 | clear e7
    have e9 : decide (v.size ≤ 4095) = !decide (4095 < v.size) := by by_cases q : v.size ≤ 4095 <;> simp [q] <;> omega
    first | rw [decide_eq_true (p := 4095 < v.size) (by omega)] at e9 | rw [decide_eq_false (p := 4095 < v.size) (by omega)] at e9 | clear e9
    try simp only [Bool.not_true, Bool.not_false] at e9
    have e10 : decide (1 ≤ v.size) = !decide (v.size < 1) := by by_cases q : 1 ≤ v.size <;> simp [q] <;> omega
    first | rw [decide_eq_true (p := v.size < 1) (by omega)] at e10 | rw [decide_eq_false (p := v.size < 1) (by omega)] at e10 | clear e10
    try simp only [Bool.not_true, Bool.not_false] at e10
    have H1 := Lib.hid h1
    clear h1
    go_enter Try.func90, Try.ntmps90
    go_wp2_with (first | (refine wpList_load_midg (by rfl) 22 (.tmp 12) rfl w.heap.size 3 rfl (bytes v.sum) _ F3.out Try.underlying22 rfl (by rw [hb32.out]; kernel_rfl) ?_) | (refine wpList_load_midg (by rfl) 27 (.tmp 3) rfl (w.heap.size + 1) 0 rfl (mcells m) _ HT.out.cells.2.2.2.2.2.1 Try.underlying27 rfl (by kernel_rfl) ?_))
    go_ret
    have h1 := H1.out
    refine ⟨ret_i ?_, HT.out.2.2⟩
    rw [He.out]
    rw [if_neg (fun h => absurd (Hzm.out.2 h.1) (by simp))]
set_option maxHeartbeats 2000000 in
set_option maxRecDepth 100000 in
theorem possible_3t (w : World) (v : Vl) (m : Mk × Mk) (hv : v.sum.length = 32) (hk : v.kind = 3) (hne : m = noMk) :
    Calls Try.prog 90 #[.agg v.cells.toArray, .agg (mcells m).toArray] w fun e w' => e = .returned (.int .i64 (posErr v m)) ∧ Below w.heap.size w w' := by
  have hT := TwoAt.made w v m
  obtain ⟨f0, f1, f2, f3, _⟩ := hT.cells
  have HT := Lib.hid hT
  have Hv := Lib.hid hv
  have F3 := Lib.hid f3
  have hb32 := Lib.hid (show (bytes v.sum).length = 32 by rw [bytes_length, hv])
  have hzs := fun w => eq_sum v.sum zeros hv rfl w
  simp only [zeros_cells] at hzs
  have hz := fun w => eq_marks m noMk w
  simp only [nomk_cells] at hz
  clear hT hv f3
  have hm1 : ∃ z, decide (m = noMk) = z ∧ (z = true ↔ m = noMk) := ⟨_, rfl, by simp⟩
  have hm2 : ∃ z, decide (v.sum = zeros) = z ∧ (z = true ↔ v.sum = zeros) := ⟨_, rfl, by simp⟩
  obtain ⟨zm, hzm, hzm2⟩ := hm1
  obtain ⟨zs, hzs1, hzs2⟩ := hm2
  rw [hzm] at hz
  rw [hzs1] at hzs
  have Hzm := Lib.hid hzm2
  have Hzs := Lib.hid hzs2
  clear hzm hzs1 hzm2 hzs2
  have He := Lib.hid (pos_3 (m := m) hk)
  have e1 : (v.kind == 1) = false := by rw [beq_eq_false_iff_ne]; omega
  have e2 : (v.kind == 2) = false := by rw [beq_eq_false_iff_ne]; omega
  have e3 : (v.kind == 3) = true := by simp [hk]
  have Hk := Lib.hid hk
  have hzb : zm = true := by
    cases zm with
    | true => rfl
    | false => exact absurd (Hzm.out.2 hne) (by simp)
  subst hzb
  clear hk hne
  have hcs : (v.size = 0 ∧ v.mode < 0) ∨ (v.size = 0 ∧ 0 < v.mode) ∨ (v.size ≠ 0 ∧ v.mode < 0) ∨ (v.size ≠ 0 ∧ 0 < v.mode) ∨ (v.size = 0 ∧ 0 ≤ v.mode ∧ v.mode ≤ 0) ∨ (v.size < 0 ∧ 0 ≤ v.mode ∧ v.mode ≤ 0) ∨ (1 ≤ v.size ∧ v.size ≤ 4095 ∧ 0 ≤ v.mode ∧ v.mode ≤ 0) ∨ (4095 < v.size ∧ 0 ≤ v.mode ∧ v.mode ≤ 0) := by omega
  rcases hcs with ⟨h1, h2⟩ | ⟨h1, h2⟩ | ⟨h1, h2⟩ | ⟨h1, h2⟩ | ⟨h1, h2, h3⟩ | ⟨h1, h2, h3⟩ | ⟨h1, h2, h3, h4⟩ | ⟨h1, h2, h3⟩
  all_goals
    have e5 : (v.size == 0) = decide (v.size = 0) := int_beq _ _
    first | rw [decide_eq_true (by omega)] at e5 | rw [decide_eq_false (by omega)] at e5
    have e7 : (v.mode == 0) = decide (v.mode = 0) := int_beq _ _
    first | rw [decide_eq_true (by omega)] at e7 | rw [decide_eq_false (by omega)] at e7 | clear e7
    have e9 : decide (v.size ≤ 4095) = !decide (4095 < v.size) := by by_cases q : v.size ≤ 4095 <;> simp [q] <;> omega
    first | rw [decide_eq_true (p := 4095 < v.size) (by omega)] at e9 | rw [decide_eq_false (p := 4095 < v.size) (by omega)] at e9 | clear e9
    try simp only [Bool.not_true, Bool.not_false] at e9
    have e10 : decide (1 ≤ v.size) = !decide (v.size < 1) := by by_cases q : 1 ≤ v.size <;> simp [q] <;> omega
    first | rw [decide_eq_true (p := v.size < 1) (by omega)] at e10 | rw [decide_eq_false (p := v.size < 1) (by omega)] at e10 | clear e10
    try simp only [Bool.not_true, Bool.not_false] at e10
    have H1 := Lib.hid h1
    clear h1
    go_enter Try.func90, Try.ntmps90
    go_wp2_with (first | (refine wpList_load_midg (by rfl) 22 (.tmp 12) rfl w.heap.size 3 rfl (bytes v.sum) _ F3.out Try.underlying22 rfl (by rw [hb32.out]; kernel_rfl) ?_) | (refine wpList_load_midg (by rfl) 27 (.tmp 3) rfl (w.heap.size + 1) 0 rfl (mcells m) _ HT.out.cells.2.2.2.2.2.1 Try.underlying27 rfl (by kernel_rfl) ?_))
    go_ret
    have h1 := H1.out
    refine ⟨ret_i ?_, HT.out.2.2⟩
    rw [He.out]
    split
    · rename_i hc
      first
      | rfl
      | (exfalso; omega)
    · rename_i hc
      first
      | rfl
      | exact absurd ⟨Hzm.out.1 trivial, Int.le_antisymm h4 h3, h1, h2⟩ hc
set_option maxHeartbeats 2000000 in
set_option maxRecDepth 100000 in
theorem possible_0 (w : World) (v : Vl) (m : Mk × Mk) (hv : v.sum.length = 32) (hk : v.kind ≠ 1 ∧ v.kind ≠ 2 ∧ v.kind ≠ 3) :
    Calls Try.prog 90 #[.agg v.cells.toArray, .agg (mcells m).toArray] w fun e w' => e = .returned (.int .i64 (posErr v m)) ∧ Below w.heap.size w w' := by
  have hT := TwoAt.made w v m
  obtain ⟨f0, f1, f2, f3, _⟩ := hT.cells
  have HT := Lib.hid hT
  have Hv := Lib.hid hv
  have F3 := Lib.hid f3
  have hb32 := Lib.hid (show (bytes v.sum).length = 32 by rw [bytes_length, hv])
  have hzs := fun w => eq_sum v.sum zeros hv rfl w
  simp only [zeros_cells] at hzs
  have hz := fun w => eq_marks m noMk w
  simp only [nomk_cells] at hz
  clear hT hv f3
  have hm1 : ∃ z, decide (m = noMk) = z ∧ (z = true ↔ m = noMk) := ⟨_, rfl, by simp⟩
  have hm2 : ∃ z, decide (v.sum = zeros) = z ∧ (z = true ↔ v.sum = zeros) := ⟨_, rfl, by simp⟩
  obtain ⟨zm, hzm, hzm2⟩ := hm1
  obtain ⟨zs, hzs1, hzs2⟩ := hm2
  rw [hzm] at hz
  rw [hzs1] at hzs
  have Hzm := Lib.hid hzm2
  have Hzs := Lib.hid hzs2
  clear hzm hzs1 hzm2 hzs2
  have He := Lib.hid (pos_0 (m := m) hk)
  have e1 : (v.kind == 1) = false := by rw [beq_eq_false_iff_ne]; omega
  have e2 : (v.kind == 2) = false := by rw [beq_eq_false_iff_ne]; omega
  have e3 : (v.kind == 3) = false := by rw [beq_eq_false_iff_ne]; omega
  have hcs : (v.size = 0 ∧ v.mode < 0) ∨ (v.size = 0 ∧ 0 ≤ v.mode) ∨ (v.size ≠ 0 ∧ v.mode < 0) ∨ (v.size ≠ 0 ∧ 0 ≤ v.mode) := by omega
  clear hk
  rcases hcs with ⟨h1, h2⟩ | ⟨h1, h2⟩ | ⟨h1, h2⟩ | ⟨h1, h2⟩
  all_goals
      have e5 : (v.size == 0) = decide (v.size = 0) := int_beq _ _
      first | rw [decide_eq_true (by omega)] at e5 | rw [decide_eq_false (by omega)] at e5 | clear e5
      clear h1
      go_enter Try.func90, Try.ntmps90
      go_wp2_with (first | (refine wpList_load_midg (by rfl) 22 (.tmp 12) rfl w.heap.size 3 rfl (bytes v.sum) _ F3.out Try.underlying22 rfl (by rw [hb32.out]; kernel_rfl) ?_) | (refine wpList_load_midg (by rfl) 27 (.tmp 3) rfl (w.heap.size + 1) 0 rfl (mcells m) _ HT.out.cells.2.2.2.2.2.1 Try.underlying27 rfl (by kernel_rfl) ?_))
      go_ret
      exact ⟨ret_i He.out.symm, HT.out.2.2⟩
end Go.Proofs.Ythnbinlllmkabaa
