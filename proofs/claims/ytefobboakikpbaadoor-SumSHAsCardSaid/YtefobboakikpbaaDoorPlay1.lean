/- The count of parts; a side of the script of plays. -/
import Derived.Test.YtefobboakikpbaaDoorBytes
namespace Go.Proofs.YtefobboakikpbaaDoor
open Go.RowKit
set_option linter.unusedVariables false
set_option linter.unusedSimpArgs false

/-- At p lies a count: how many more parts there may be. -/
def CountAt (w : World) (p : Nat) (z : Int) : Prop := w.heap[p]? = some (.cells #[.int .i64 z] 93 (0, 0))
theorem many_any (w : World) (n : Int) : Calls Tryd.prog 15 #[.int .i64 n] w fun e w' => e = .returned (.pointer (some ⟨w.heap.size, 0, none⟩)) ∧ CountAt w' w.heap.size n ∧ Below w.heap.size w w' := by
  go_enter Tryd.func15, Tryd.ntmps15
  go_wp2
  go_ret
  exact ⟨rfl, heap_alloc_new w _, on_alloc (Below.refl _ _) _⟩
theorem countOk_any (w : World) (p : Nat) (z : Int) (h : CountAt w p z) : Calls Tryd.prog 16 #[.pointer (some ⟨p, 0, none⟩)] w fun e w' => e = .returned (.bool (decide (0 ≤ z))) ∧ w' = w := by
  have f0 := cell_of_row w p 0 _ _ _ h
  simp at f0
  clear h
  go_enter Tryd.func16, Tryd.ntmps16
  go_wp2
  go_ret
  exact ⟨rfl, rfl⟩
theorem countAdd_any (w : World) (p : Nat) (z n : Int) (h : CountAt w p z) (hz : z ≤ 100000) (hn : (0 ≤ n ∧ n ≤ 9223372036854775807) ∨ n = -9223372036854775808) :
    Calls Tryd.prog 17 #[.pointer (some ⟨p, 0, none⟩), .int .i64 n] w fun e w' => ∃ (b : Bool) (z' : Int), e = .returned (.bool b) ∧ CountAt w' p z' ∧ (z' < 0 ∨ (0 ≤ z ∧ 0 ≤ n ∧ z' = z - n)) ∧ (z < 0 → z' < 0) ∧ Upd (fun k => k = p) w w' := by
  have f0 := cell_of_row w p 0 _ _ _ h
  simp at f0
  have z0 := frozen_of_row w p 0 _ _ h
  have H := Lib.hid h
  clear h
  by_cases hz0 : 0 ≤ z
  · obtain ⟨q, hq, hq2⟩ : ∃ q, IntKind.i64.wrap (z - n) = q ∧ (q < 0 ∨ (0 ≤ z ∧ 0 ≤ n ∧ q = z - n)) := by
      refine ⟨_, rfl, ?_⟩
      rcases hn with ⟨h1, h2⟩ | rfl
      · right
        refine ⟨hz0, h1, ?_⟩
        exact IntWalk.i64_in _ (by omega)
      · left
        rw [IntKind.wrap_i64]
        omega
    have Hq2 := Lib.hid hq2
    clear hq2 hn
    go_enter Tryd.func17, Tryd.ntmps17
    go_wp2
    go_ret
    have hs := heap_setCell_same w p 0 _ _ (.int .i64 q) H.out
    simp at hs
    exact ⟨_, q, rfl, hs, Hq2.out, fun h => by omega, (Upd.refl _ _).setCell _ _ (fun _ => rfl)⟩
  · go_enter Tryd.func17, Tryd.ntmps17
    go_wp2
    go_ret
    exact ⟨.inl rfl, z, H.out, Or.inl (by omega), by omega, Upd.refl _ _⟩
end Go.Proofs.YtefobboakikpbaaDoor
