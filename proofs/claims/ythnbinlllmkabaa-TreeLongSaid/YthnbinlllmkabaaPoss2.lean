/- What the program asks of a value and marks: files. -/
import Derived.Test.YthnbinlllmkabaaPoss
namespace Go.Proofs.Ythnbinlllmkabaa
open Go.RowKit
set_option linter.unusedVariables false
set_option linter.unusedSimpArgs false

set_option maxHeartbeats 2000000 in
set_option maxRecDepth 100000 in
theorem possible_2 (w : World) (v : Vl) (m : Mk × Mk) (hv : v.sum.length = 32) (hk : v.kind = 2) :
    Calls Try.prog 90 #[.agg v.cells.toArray, .agg (mcells m).toArray] w fun e w' => e = .returned (.int .i64 (posErr v m)) ∧ Below w.heap.size w w' := by
  have hT := TwoAt.made w v m
  obtain ⟨f0, f1, f2, f3, _⟩ := hT.cells
  have HT := Lib.hid hT
  have Hv := Lib.hid hv
  have F3 := Lib.hid f3
  have hb32 := Lib.hid (show (bytes v.sum).length = 32 by rw [bytes_length, hv])
  have hzs := fun w => eq_sum v.sum zeros hv rfl w
  simp only [zeros_cells] at hzs
  have hz := fun w => eq_marks m noMk w
  simp only [nomk_cells] at hz
  clear hT hv f3
  have hm1 : ∃ z, decide (m = noMk) = z ∧ (z = true ↔ m = noMk) := ⟨_, rfl, by simp⟩
  have hm2 : ∃ z, decide (v.sum = zeros) = z ∧ (z = true ↔ v.sum = zeros) := ⟨_, rfl, by simp⟩
  obtain ⟨zm, hzm, hzm2⟩ := hm1
  obtain ⟨zs, hzs1, hzs2⟩ := hm2
  rw [hzm] at hz
  rw [hzs1] at hzs
  have Hzm := Lib.hid hzm2
  have Hzs := Lib.hid hzs2
  clear hzm hzs1 hzm2 hzs2
  have He := Lib.hid (pos_2 (m := m) hk)
  have e1 : (v.kind == 1) = false := by rw [beq_eq_false_iff_ne]; omega
  have e2 : (v.kind == 2) = true := by simp [hk]
  have e3 : (v.kind == 3) = false := by rw [beq_eq_false_iff_ne]; omega
  have Hk := Lib.hid hk
  have hcs : (v.size = 0 ∧ v.mode < 0) ∨ (v.size = 0 ∧ 0 ≤ v.mode) ∨ (v.size ≠ 0 ∧ v.mode < 0) ∨ (v.size ≠ 0 ∧ 0 ≤ v.mode) := by omega
  clear hk
  rcases hcs with ⟨h1, h2⟩ | ⟨h1, h2⟩ | ⟨h1, h2⟩ | ⟨h1, h2⟩
  all_goals
      have e5 : (v.size == 0) = decide (v.size = 0) := int_beq _ _
      first | rw [decide_eq_true (by omega)] at e5 | rw [decide_eq_false (by omega)] at e5 | clear e5
      have H1 := Lib.hid h1
      clear h1
      go_enter Try.func90, Try.ntmps90
      go_wp2_with (first | (refine wpList_load_midg (by rfl) 22 (.tmp 12) rfl w.heap.size 3 rfl (bytes v.sum) _ F3.out Try.underlying22 rfl (by rw [hb32.out]; kernel_rfl) ?_) | (refine wpList_load_midg (by rfl) 27 (.tmp 3) rfl (w.heap.size + 1) 0 rfl (mcells m) _ HT.out.cells.2.2.2.2.2.1 Try.underlying27 rfl (by kernel_rfl) ?_) | (refine wpList_load_midg (by rfl) 26 (.tmp 41) rfl (w.heap.size + 1) 0 rfl (kcells m.1) _ HT.out.cells.2.2.2.2.2.2.1 Try.underlying26 rfl (by kernel_rfl) ?_))
      refine (markable_any _ m.1).mono ?_
      rintro e w2 ⟨rfl, hb2⟩
      have HT2 := Lib.hid (HT.out.next hb2)
      clear hb2 f0 f1 f2
      by_cases hM : MarkP m.1
      · rw [show markB m.1 = true from decide_eq_true hM]
        have HM := Lib.hid hM
        clear hM
        go_wp2_with (refine wpList_load_midg (by rfl) 26 (.tmp 45) rfl (w.heap.size + 1) 2 rfl (kcells m.2) _ HT2.out.cells.2.2.2.2.2.2.2 Try.underlying26 rfl (by kernel_rfl) ?_)
        refine (markable_any _ m.2).mono ?_
        rintro e w3 ⟨rfl, hb3⟩
        have HT3 := Lib.hid (HT2.out.next hb3)
        clear hb3
        have f2 := HT3.out.cells.2.2.1
        by_cases hM2 : MarkP m.2
        · rw [show markB m.2 = true from decide_eq_true hM2]
          have HM2 := Lib.hid hM2
          clear hM2
          have hd : v.mode < 0 ∨ (0 ≤ v.mode ∧ 8 < v.mode) ∨ (0 ≤ v.mode ∧ v.mode ≤ 8 ∧ v.size < 0) ∨ (0 ≤ v.mode ∧ v.mode ≤ 8 ∧ 0 ≤ v.size ∧ 1099511627775 < v.size) ∨ (0 ≤ v.mode ∧ v.mode ≤ 8 ∧ 0 ≤ v.size ∧ v.size ≤ 1099511627775) := by omega
          rcases hd with d1 | ⟨d1, d2⟩ | ⟨d1, d2, d3⟩ | ⟨d1, d2, d3, d4⟩ | ⟨d1, d2, d3, d4⟩
          all_goals
            have e8 : decide (v.mode ≤ 8) = !decide (8 < v.mode) := by by_cases q : v.mode ≤ 8 <;> simp [q] <;> omega
            first | rw [decide_eq_true (p := 8 < v.mode) (by omega)] at e8 | rw [decide_eq_false (p := 8 < v.mode) (by omega)] at e8
            simp only [Bool.not_true, Bool.not_false] at e8
            have e9 : decide (v.size ≤ 1099511627775) = !decide (1099511627775 < v.size) := by by_cases q : v.size ≤ 1099511627775 <;> simp [q] <;> omega
            first | rw [decide_eq_true (p := 1099511627775 < v.size) (by omega)] at e9 | rw [decide_eq_false (p := 1099511627775 < v.size) (by omega)] at e9 | clear e9
            try simp only [Bool.not_true, Bool.not_false] at e9
            first
            | (exfalso; omega)
            | (go_wp2
               go_ret
               have h1 := H1.out
               refine ⟨ret_i ?_, HT3.out.2.2⟩
               rw [He.out]
               split
               · rename_i hc
                 first
                 | rfl
                 | (exfalso; omega)
               · rename_i hc
                 first
                 | rfl
                 | exact absurd ⟨HM.out, HM2.out, d1, d2, d3, d4⟩ hc)
        · rw [show markB m.2 = false from decide_eq_false hM2]
          have HM2 := Lib.hid hM2
          clear hM2
          go_wp2
          go_ret
          refine ⟨ret_i ?_, HT3.out.2.2⟩
          rw [He.out, if_neg (fun h => HM2.out h.2.1)]
      · rw [show markB m.1 = false from decide_eq_false hM]
        have HM := Lib.hid hM
        clear hM
        go_wp2
        go_ret
        refine ⟨ret_i ?_, HT2.out.2.2⟩
        rw [He.out, if_neg (fun h => HM.out h.1)]
end Go.Proofs.Ythnbinlllmkabaa
