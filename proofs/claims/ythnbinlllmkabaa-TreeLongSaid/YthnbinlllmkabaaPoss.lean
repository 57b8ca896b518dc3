/- What the program asks of a value and marks. -/
import Derived.Test.YthnbinlllmkabaaOwn
namespace Go.Proofs.Ythnbinlllmkabaa
open Go.RowKit
set_option linter.unusedVariables false
set_option linter.unusedSimpArgs false

set_option maxRecDepth 100000 in
theorem markable_any (w : World) (m : Mk) :
    Calls Try.prog 120 #[.agg (kcells m).toArray] w fun e w' => e = .returned (.bool (markB m)) ∧ Below w.heap.size w w' := by
  have hr := rangeAt_row (heap_alloc_new w (.cells (kcells m).toArray 26))
  have f0 := hr 0 _ rfl
  have f1 := hr 1 _ rfl
  simp only [Nat.zero_add] at f0 f1
  have hz := fun w => eq_mark m.number m.stamp 0 0 w
  clear hr
  have hc : (m.number = 0 ∧ m.stamp = 0) ∨ (¬(m.number = 0 ∧ m.stamp = 0) ∧ m.number ≤ m.stamp ∧ m.number < 1) ∨ (¬(m.number = 0 ∧ m.stamp = 0) ∧ m.number ≤ m.stamp ∧ 1 ≤ m.number ∧ 72057594037927935 < m.stamp) ∨ (¬(m.number = 0 ∧ m.stamp = 0) ∧ m.number ≤ m.stamp ∧ 1 ≤ m.number ∧ m.stamp ≤ 72057594037927935) ∨
      (¬(m.number = 0 ∧ m.stamp = 0) ∧ m.stamp < m.number ∧ m.stamp < 1) ∨ (¬(m.number = 0 ∧ m.stamp = 0) ∧ m.stamp < m.number ∧ 1 ≤ m.stamp ∧ 72057594037927935 < m.number) ∨ (¬(m.number = 0 ∧ m.stamp = 0) ∧ m.stamp < m.number ∧ 1 ≤ m.stamp ∧ m.number ≤ 72057594037927935) := by omega
  rcases hc with h | ⟨h, h1, h2⟩ | ⟨h, h1, h2, h3⟩ | ⟨h, h1, h2, h3⟩ | ⟨h, h1, h2⟩ | ⟨h, h1, h2, h3⟩ | ⟨h, h1, h2, h3⟩
  all_goals
    first | simp only [decide_eq_true h] at hz | simp only [decide_eq_false h] at hz
    have H := Lib.hid h
    clear h
    go_enter Try.func120, Try.ntmps120
    go_wp2
    all_goals
      go_ret
      have h := H.out
      refine ⟨?_, (Below.refl _ _).alloc (Nat.le_refl _) _⟩
      first
      | exact ret_b (decide_eq_true (show MarkP m by unfold MarkP; omega)).symm
      | exact ret_b (decide_eq_false (show ¬ MarkP m by unfold MarkP; omega)).symm
      | (refine ret_b ?_; unfold markB; rw [decide_eq_decide]; unfold MarkP; omega)
theorem markP_none : MarkP noMk.1 ∧ MarkP noMk.2 := ⟨.inl ⟨rfl, rfl⟩, .inl ⟨rfl, rfl⟩⟩
theorem pos_1 {v : Vl} {m : Mk × Mk} (h : v.kind = 1) : posErr v m = if m = noMk ∧ v.size = 0 ∧ v.sum = zeros ∧ 0 ≤ v.mode ∧ v.mode ≤ 8 then 0 else 41 := by
  unfold posErr
  rw [if_pos (.inl h)]
  by_cases hc : m = noMk ∧ v.size = 0 ∧ v.sum = zeros ∧ 0 ≤ v.mode ∧ v.mode ≤ 8
  · obtain ⟨rfl, h2, h3, h4, h5⟩ := hc
    rw [if_pos ⟨.inl ⟨h, h4, h5, h2, h3⟩, markP_none.1, markP_none.2, .inr rfl⟩, if_pos ⟨rfl, h2, h3, h4, h5⟩]
  · rw [if_neg hc, if_neg]
    rintro ⟨h1, _, _, h4⟩
    apply hc
    rcases h1 with h1 | h1 | h1
    · rcases h4 with h4 | h4
      · omega
      · exact ⟨h4, h1.2.2.2.1, h1.2.2.2.2, h1.2.1, h1.2.2.1⟩
    · omega
    · omega
theorem pos_2 {v : Vl} {m : Mk × Mk} (h : v.kind = 2) : posErr v m = if MarkP m.1 ∧ MarkP m.2 ∧ 0 ≤ v.mode ∧ v.mode ≤ 8 ∧ 0 ≤ v.size ∧ v.size ≤ 1099511627775 then 0 else 41 := by
  unfold posErr
  rw [if_pos (.inr (.inl h))]
  by_cases hc : MarkP m.1 ∧ MarkP m.2 ∧ 0 ≤ v.mode ∧ v.mode ≤ 8 ∧ 0 ≤ v.size ∧ v.size ≤ 1099511627775
  · obtain ⟨h1, h2, h3, h4, h5, h6⟩ := hc
    rw [if_pos ⟨.inr (.inl ⟨h, h3, h4, h5, h6⟩), h1, h2, .inl h⟩, if_pos ⟨h1, h2, h3, h4, h5, h6⟩]
  · rw [if_neg hc, if_neg]
    rintro ⟨h1, h2, h3, h4⟩
    apply hc
    rcases h1 with h1 | h1 | h1
    · omega
    · exact ⟨h2, h3, h1.2.1, h1.2.2.1, h1.2.2.2.1, h1.2.2.2.2⟩
    · omega
theorem pos_3 {v : Vl} {m : Mk × Mk} (h : v.kind = 3) : posErr v m = if m = noMk ∧ v.mode = 0 ∧ 1 ≤ v.size ∧ v.size ≤ 4095 then 0 else 41 := by
  unfold posErr
  rw [if_pos (.inr (.inr h))]
  by_cases hc : m = noMk ∧ v.mode = 0 ∧ 1 ≤ v.size ∧ v.size ≤ 4095
  · obtain ⟨rfl, h3, h4, h5⟩ := hc
    rw [if_pos ⟨.inr (.inr ⟨h, h3, h4, h5⟩), markP_none.1, markP_none.2, .inr rfl⟩, if_pos ⟨rfl, h3, h4, h5⟩]
  · rw [if_neg hc, if_neg]
    rintro ⟨h1, h2, h3, h4⟩
    apply hc
    rcases h1 with h1 | h1 | h1
    · omega
    · omega
    · rcases h4 with h4 | h4
      · omega
      · exact ⟨h4, h1.2.1, h1.2.2.1, h1.2.2.2⟩
theorem pos_0 {v : Vl} {m : Mk × Mk} (h : v.kind ≠ 1 ∧ v.kind ≠ 2 ∧ v.kind ≠ 3) : posErr v m = 40 := by
  unfold posErr
  rw [if_neg (by omega)]
set_option maxHeartbeats 2000000 in
set_option maxRecDepth 100000 in
theorem possible_1 (w : World) (v : Vl) (m : Mk × Mk) (hv : v.sum.length = 32) (hk : v.kind = 1) :
    Calls Try.prog 90 #[.agg v.cells.toArray, .agg (mcells m).toArray] w fun e w' => e = .returned (.int .i64 (posErr v m)) ∧ Below w.heap.size w w' := by
  have hT := TwoAt.made w v m
  obtain ⟨f0, f1, f2, f3, _⟩ := hT.cells
  have HT := Lib.hid hT
  have Hv := Lib.hid hv
  have F3 := Lib.hid f3
  have hb32 := Lib.hid (show (bytes v.sum).length = 32 by rw [bytes_length, hv])
  have hzs := fun w => eq_sum v.sum zeros hv rfl w
  simp only [zeros_cells] at hzs
  have hz := fun w => eq_marks m noMk w
  simp only [nomk_cells] at hz
  clear hT hv f3
  have hm1 : ∃ z, decide (m = noMk) = z ∧ (z = true ↔ m = noMk) := ⟨_, rfl, by simp⟩
  have hm2 : ∃ z, decide (v.sum = zeros) = z ∧ (z = true ↔ v.sum = zeros) := ⟨_, rfl, by simp⟩
  obtain ⟨zm, hzm, hzm2⟩ := hm1
  obtain ⟨zs, hzs1, hzs2⟩ := hm2
  rw [hzm] at hz
  rw [hzs1] at hzs
  have Hzm := Lib.hid hzm2
  have Hzs := Lib.hid hzs2
  clear hzm hzs1 hzm2 hzs2
  have He := Lib.hid (pos_1 (m := m) hk)
  have e1 : (v.kind == 1) = true := by simp [hk]
  have e2 : (v.kind == 2) = false := by rw [beq_eq_false_iff_ne]; omega
  have e3 : (v.kind == 3) = false := by rw [beq_eq_false_iff_ne]; omega
  have Hk := Lib.hid hk
  have hcs : (v.size = 0 ∧ v.mode < 0) ∨ (v.size = 0 ∧ 0 ≤ v.mode ∧ v.mode ≤ 8) ∨ (v.size = 0 ∧ 0 ≤ v.mode ∧ 8 < v.mode) ∨ (v.size ≠ 0 ∧ v.mode < 0) ∨ (v.size ≠ 0 ∧ 0 ≤ v.mode ∧ v.mode ≤ 8) ∨ (v.size ≠ 0 ∧ 0 ≤ v.mode ∧ 8 < v.mode) := by omega
  clear hk
  cases zm <;> cases zs <;> rcases hcs with ⟨h1, h2⟩ | ⟨h1, h2, h3⟩ | ⟨h1, h2, h3⟩ | ⟨h1, h2⟩ | ⟨h1, h2, h3⟩ | ⟨h1, h2, h3⟩
  all_goals
    have e5 : (v.size == 0) = decide (v.size = 0) := int_beq _ _
    first | rw [decide_eq_true h1] at e5 | rw [decide_eq_false h1] at e5
    have e6 : decide (v.mode ≤ 8) = !decide (8 < v.mode) := by by_cases q : v.mode ≤ 8 <;> simp [q] <;> omega
    first | rw [decide_eq_true (p := 8 < v.mode) (by omega)] at e6 | rw [decide_eq_false (p := 8 < v.mode) (by omega)] at e6
    simp only [Bool.not_true, Bool.not_false] at e6
    have H1 := Lib.hid h1
    clear h1
    go_enter Try.func90, Try.ntmps90
    go_wp2_with (first | (refine wpList_load_midg (by rfl) 22 (.tmp 12) rfl w.heap.size 3 rfl (bytes v.sum) _ F3.out Try.underlying22 rfl (by rw [hb32.out]; kernel_rfl) ?_) | (refine wpList_load_midg (by rfl) 27 (.tmp 3) rfl (w.heap.size + 1) 0 rfl (mcells m) _ HT.out.cells.2.2.2.2.2.1 Try.underlying27 rfl (by kernel_rfl) ?_))
    go_ret
    have h1 := H1.out
    have g1 := Hzm.out
    have g2 := Hzs.out
    refine ⟨ret_i ?_, HT.out.2.2⟩
    rw [He.out]
    simp at g1 g2
    split
    · rename_i hc
      first
      | rfl
      | exact absurd hc.1 g1
      | (exfalso; omega)
      | exact absurd hc.2.2.1 g2
    · rename_i hc
      first
      | rfl
      | exact absurd ⟨g1, h1, g2, h2, h3⟩ hc
end Go.Proofs.Ythnbinlllmkabaa
