/- The map of groups: pieces by their weak sums. -/
import Derived.Test.YtefobboakikpbaaFind4
namespace Go.Proofs.Ytefobboakikpbaa
open Go.RowKit Go.Shelf Go.Maps
set_option linter.unusedVariables false
set_option linter.unusedSimpArgs false

theorem info_int : (Try.prog.info? 3).map (fun i => (i.zero, i.size, i.bytes)) = some (some (.int .i64 0), 1, 8) := by kernel_rfl
theorem key32 : Keyed Try.prog 26 := int_keyed Try.underlying26
theorem zero_ints (w : World) : (zeroValue 42).run Try.prog w = .ok (.slice none 0 0) w := by kernel_rfl
theorem weak_range (l : List UInt8) : 0 ≤ weakSum l ∧ weakSum l < 4294967296 := by unfold weakSum weakOf; omega
theorem key_of_weak (l : List UInt8) : keyOf Try.prog 26 (.int .u32 (weakSum l)) = some (.int .u32 (weakSum l)) := by
  have h := weak_range l
  have e0 : IntKind.u32.min = 0 := by decide
  have e1 : IntKind.u32.max = 4294967295 := by decide
  exact keyOf_int_mk Try.underlying26 (by simp only [Lit.wf, e0, e1, Bool.and_eq_true, decide_eq_true_eq]; omega)

/-- What stands at a weak sum. -/
def atSum (g : Value → Option Value) (s : Int) : Value := (g (.int .u32 s)).getD (.slice none 0 0)
/-- At each weak sum lie its pieces, of the first k, each group in its own row. -/
structure Groups (w : World) (g : Value → Option Value) (old : List UInt8) (k base : Nat) : Prop where
  own : ∀ s, ∃ a c, atSum g s = .slice a (group old k s).length c ∧ Own w 3 1 (.slice a (group old k s).length c) (group old k s).length (natv (group old k s)) ∧ ∀ b, (Value.slice a (group old k s).length c).ownBlock = some b → base ≤ b
  apart : ∀ s s', s ≠ s' → ∀ b, (atSum g s).ownBlock = some b → (atSum g s').ownBlock ≠ some b
theorem Groups.start (w : World) (old : List UInt8) (base : Nat) : Groups w (fun _ => none) old 0 base :=
  ⟨fun s => ⟨none, 0, rfl, Own.nil _ _ _, fun b hb => by simp [Value.ownBlock] at hb⟩, fun s s' _ b hb => by simp [atSum, Value.ownBlock] at hb⟩
theorem Groups.kept {S : Nat → Prop} {w w' : World} {g : Value → Option Value} {old : List UInt8} {k base : Nat} (h : Groups w g old k base) (hu : Upd S w w') (hS : ∀ b, base ≤ b → b < w.heap.size → ¬ S b) : Groups w' g old k base := by
  refine ⟨fun s => ?_, h.apart⟩
  obtain ⟨a, c, h1, h2, h3⟩ := h.own s
  exact ⟨a, c, h1, h2.kept hu (fun b hb => hS b (h3 b hb) (h2.lt hb)), h3⟩
theorem int_u32_inj {s s' : Int} (h : s ≠ s') : Value.int .u32 s' ≠ .int .u32 s := by
  intro e
  injection e with _ e
  exact h e.symm
theorem atSum_same (g : Value → Option Value) (s : Int) (v : Value) : atSum (putAt g (.int .u32 s) v) s = v := by simp [atSum, putAt_same]
theorem atSum_other (g : Value → Option Value) {s s' : Int} (v : Value) (h : s ≠ s') : atSum (putAt g (.int .u32 s) v) s' = atSum g s' := by simp [atSum, putAt_other (int_u32_inj h)]
/-- A piece more. -/
theorem Groups.step {w w' : World} {g : Value → Option Value} {old : List UInt8} {k base : Nat} (h : Groups w g old k base) {s : Int} (hs : s = weakSum (pieceAt old k)) {a' : Option Addr} {c' : Nat}
    (hown : Own w' 3 1 (.slice a' ((group old k s).length + 1) c') ((group old k s).length + 1) (natv (group old k s) ++ [.int .i64 k])) (hu : Upd (fun b => (atSum g s).ownBlock = some b) w w') (hbase : base ≤ w.heap.size)
    (hb : ∀ b, (atSum g s).ownBlock ≠ some b → (Value.slice a' ((group old k s).length + 1) c').ownBlock = some b → w.heap.size ≤ b) :
    Groups w' (putAt g (.int .u32 s) (.slice a' ((group old k s).length + 1) c')) old (k + 1) base := by
  have e1 : group old (k + 1) s = group old k s ++ [k] := by rw [hs, group_hit]
  have e2 : (group old (k + 1) s).length = (group old k s).length + 1 := by rw [e1]; simp
  have hnb : ∀ b, (Value.slice a' ((group old k s).length + 1) c').ownBlock = some b → (atSum g s).ownBlock = some b ∨ w.heap.size ≤ b := fun b hb' => by
    by_cases hq : (atSum g s).ownBlock = some b
    · exact .inl hq
    · exact .inr (hb b hq hb')
  have hlt : ∀ s' b, (atSum g s').ownBlock = some b → base ≤ b ∧ b < w.heap.size := fun s' b hb' => by
    obtain ⟨a, c, h1, h2, h3⟩ := h.own s'
    rw [h1] at hb'
    exact ⟨h3 b hb', h2.lt hb'⟩
  refine ⟨fun s' => ?_, fun s' s'' hne b hb' => ?_⟩
  · by_cases hs' : s = s'
    · subst hs'
      rw [atSum_same, e2]
      refine ⟨a', c', rfl, ?_, fun b hb' => ?_⟩
      · have : natv (group old (k + 1) s) = natv (group old k s) ++ [.int .i64 k] := by rw [e1]; simp [natv]
        rw [this]; exact hown
      · rcases hnb b hb' with hq | hq
        · exact (hlt s b hq).1
        · omega
    · obtain ⟨a, c, h1, h2, h3⟩ := h.own s'
      rw [atSum_other g _ hs', group_miss old k s' (by rw [← hs]; exact hs')]
      exact ⟨a, c, h1, h2.kept hu (fun b hb' => h.apart s' s (fun e => hs' e.symm) b (by rw [h1]; exact hb')), h3⟩
  · by_cases h1 : s = s'
    · subst h1
      rw [atSum_same] at hb'
      rw [atSum_other g _ hne]
      rcases hnb b hb' with hq | hq
      · exact h.apart s s'' hne b hq
      · intro hc
        have := (hlt s'' b hc).2
        omega
    · rw [atSum_other g _ h1] at hb'
      by_cases h2 : s = s''
      · subst h2
        rw [atSum_same]
        intro hc
        rcases hnb b hc with hq | hq
        · exact h.apart s' s (fun e => h1 e.symm) b hb' hq
        · have := (hlt s' b hb').2
          omega
      · rw [atSum_other g _ h2]
        exact h.apart s' s'' hne b hb'
end Go.Proofs.Ytefobboakikpbaa
