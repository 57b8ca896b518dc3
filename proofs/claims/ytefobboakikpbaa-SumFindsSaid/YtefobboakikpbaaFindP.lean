/- Which whole pieces of bytes stand in others: plain laws. -/
import Derived.Test.YtefobboakikpbaaRoll3
namespace Go.Proofs.Ytefobboakikpbaa
set_option linter.unusedVariables false
set_option linter.unusedSimpArgs false

/-- The k-th piece of bytes. -/
def pieceAt (old : List UInt8) (k : Nat) : List UInt8 := (old.drop (512 * k)).take 512
theorem pieceAt_length (old : List UInt8) (k : Nat) (h : 512 * k + 512 ≤ old.length) : (pieceAt old k).length = 512 := by simp [pieceAt]; omega
/-- The first piece that is these bytes. -/
def hit (old here : List UInt8) : Option Nat := (List.range (old.length / 512)).find? fun k => pieceAt old k == here
theorem hit_some {old here : List UInt8} {k : Nat} (h1 : k < old.length / 512) (h2 : pieceAt old k = here) (h3 : ∀ j, j < k → pieceAt old j ≠ here) : hit old here = some k := by
  unfold hit
  rw [List.find?_range_eq_some]
  exact ⟨by simpa using h2, by simpa using h1, fun j hj => by simpa using h3 j hj⟩
theorem hit_none {old here : List UInt8} (h : ∀ j, j < old.length / 512 → pieceAt old j ≠ here) : hit old here = none := by
  unfold hit
  rw [List.find?_eq_none]
  intro j hj
  simpa using h j (by simpa using hj)
theorem hit_is {old here : List UInt8} {k : Nat} (h : hit old here = some k) : k < old.length / 512 ∧ pieceAt old k = here := by
  unfold hit at h
  rw [List.find?_range_eq_some] at h
  exact ⟨by simpa using h.2.1, by simpa using h.1⟩

/-- The pieces of one weak sum, of the first j. -/
def group (old : List UInt8) (j : Nat) (s : Int) : List Nat := (List.range j).filter fun k => decide (weakSum (pieceAt old k) = s)
theorem group_zero (old : List UInt8) (s : Int) : group old 0 s = [] := rfl
theorem group_hit (old : List UInt8) (j : Nat) : group old (j + 1) (weakSum (pieceAt old j)) = group old j (weakSum (pieceAt old j)) ++ [j] := by
  simp [group, List.range_succ, List.filter_append]
theorem group_miss (old : List UInt8) (j : Nat) (s : Int) (h : weakSum (pieceAt old j) ≠ s) : group old (j + 1) s = group old j s := by
  simp [group, List.range_succ, List.filter_append, h]
theorem group_length (old : List UInt8) (j : Nat) (s : Int) : (group old j s).length ≤ j := by
  have := List.length_filter_le (fun k => decide (weakSum (pieceAt old k) = s)) (List.range j)
  simpa [group] using this
theorem group_lt {old : List UInt8} {j : Nat} {s : Int} {k : Nat} (h : k ∈ group old j s) : k < j := by
  simpa using (List.mem_filter.1 h).1
theorem find_group (old here : List UInt8) (m : Nat) : (group old m (weakSum here)).find? (fun k => pieceAt old k == here) = (List.range m).find? fun k => pieceAt old k == here := by
  unfold group
  rw [List.find?_filter]
  congr 1
  funext k
  by_cases h : pieceAt old k = here
  · simp [h]
  · simp [h]
/-- In a group the first that is so is the first of all. -/
theorem hit_group (old here : List UInt8) : hit old here = (group old (old.length / 512) (weakSum here)).find? fun k => pieceAt old k == here := by
  rw [find_group]; rfl
theorem hit_at {old here : List UInt8} {i : Nat} {l : List Nat} (hl : l = group old (old.length / 512) (weakSum here)) (hi : i < l.length) (h1 : pieceAt old (l.getD i 0) = here) (h2 : ∀ j, j < i → pieceAt old (l.getD j 0) ≠ here) :
    hit old here = some (l.getD i 0) := by
  rw [hit_group, ← hl]
  rw [List.find?_eq_some_iff_getElem]
  refine ⟨by simpa using h1, i, hi, by simp [hi], fun j hj => ?_⟩
  have := h2 j hj
  rw [List.getD_eq_getElem?_getD, List.getElem?_eq_getElem (by omega)] at this
  simpa using this
theorem hit_not {old here : List UInt8} {l : List Nat} (hl : l = group old (old.length / 512) (weakSum here)) (h2 : ∀ j, j < l.length → pieceAt old (l.getD j 0) ≠ here) : hit old here = none := by
  rw [hit_group, ← hl, List.find?_eq_none]
  intro k hk
  obtain ⟨i, hi, rfl⟩ := List.getElem_of_mem hk
  have := h2 i hi
  rw [List.getD_eq_getElem?_getD, List.getElem?_eq_getElem hi] at this
  simpa using this

/-- The window at a place. -/
def winAt (b : List UInt8) (i : Nat) : List UInt8 := (b.drop i).take 512
theorem winAt_length (b : List UInt8) (i : Nat) (h : i + 512 ≤ b.length) : (winAt b i).length = 512 := by simp [winAt]; omega
theorem winAt_step (b : List UInt8) (i : Nat) (h : i + 512 < b.length) : stepW (winAt b i) (b.getD (i + 512) 0) = winAt b (i + 1) := by
  have hne : winAt b i ≠ [] := by
    intro e
    have := winAt_length b i (by omega)
    rw [e] at this
    simp at this
  unfold stepW
  rw [if_neg hne]
  apply List.ext_getElem
  · simp [winAt]; omega
  · intro j h1 h2
    have h3 : j < 512 := by simp [winAt] at h2; omega
    by_cases hj : j < 511
    · rw [List.getElem_append_left (by simp [winAt]; omega)]
      simp [winAt]
      congr 1
      omega
    · have : j = 511 := by omega
      subst this
      rw [List.getElem_append_right (by simp [winAt]; omega)]
      simp [winAt]
      rw [List.getElem?_eq_getElem h]
      simp

set_option maxRecDepth 10000 in
/-- What Find tells from a place on. -/
def finds (old b : List UInt8) (i : Nat) : List (Nat × Nat) :=
  if i + 512 ≤ b.length then
    match hit old (winAt b i) with
    | some k => (i, k) :: finds old b (i + 512)
    | none => finds old b (i + 1)
  else []
termination_by b.length - i
decreasing_by all_goals omega
theorem finds_end {old b : List UInt8} {i : Nat} (h : b.length < i + 512) : finds old b i = [] := by
  unfold finds; rw [if_neg (by omega)]
theorem finds_hit {old b : List UInt8} {i k : Nat} (h : i + 512 ≤ b.length) (hk : hit old (winAt b i) = some k) : finds old b i = (i, k) :: finds old b (i + 512) := by
  rw [finds, if_pos h, hk]
theorem finds_miss {old b : List UInt8} {i : Nat} (h : i + 512 ≤ b.length) (hk : hit old (winAt b i) = none) : finds old b i = finds old b (i + 1) := by
  rw [finds, if_pos h, hk]
theorem finds_head {old b : List UInt8} {p k : Nat} {t : List (Nat × Nat)} : ∀ {i : Nat}, finds old b i = (p, k) :: t → i ≤ p ∧ p + 512 ≤ b.length ∧ 512 * k + 512 ≤ old.length ∧ pieceAt old k = winAt b p ∧ t = finds old b (p + 512) := by
  intro i
  generalize hn : b.length - i = n
  induction n using Nat.strongRecOn generalizing i with
  | _ n ih =>
    intro h
    by_cases hi : i + 512 ≤ b.length
    · cases hh : hit old (winAt b i) with
      | some k' =>
        rw [finds_hit hi hh] at h
        injection h with h1 h2
        injection h1 with h3 h4
        subst h3 h4
        obtain ⟨h5, h6⟩ := hit_is hh
        exact ⟨Nat.le_refl _, hi, by omega, h6, h2.symm⟩
      | none =>
        rw [finds_miss hi hh] at h
        obtain ⟨h1, h2⟩ := ih (b.length - (i + 1)) (by omega) rfl h
        exact ⟨by omega, h2⟩
    · rw [finds_end (by omega)] at h
      cases h
set_option maxRecDepth 10000 in
theorem finds_length (old b : List UInt8) : ∀ i, (finds old b i).length * 512 + i ≤ b.length + 512 ∨ (finds old b i).length = 0 := by
  intro i
  generalize hn : b.length - i = n
  induction n using Nat.strongRecOn generalizing i with
  | _ n ih =>
    by_cases hi : i + 512 ≤ b.length
    · cases hh : hit old (winAt b i) with
      | some k' =>
        rw [finds_hit hi hh]
        rcases ih (b.length - (i + 512)) (by omega) (i + 512) rfl with h | h <;> (simp; omega)
      | none =>
        rw [finds_miss hi hh]
        rcases ih (b.length - (i + 1)) (by omega) (i + 1) rfl with h | h <;> omega
    · rw [finds_end (by omega)]
      exact .inr rfl

/-- The bytes put together, a find on. -/
theorem glue (old b : List UInt8) (a p k : Nat) (ha : a ≤ p) (hp : p + 512 ≤ b.length) (h : pieceAt old k = winAt b p) :
    (b.take a ++ (b.drop a).take (p - a)) ++ pieceAt old k = b.take (p + 512) := by
  rw [h]
  have h1 : b.take a ++ (b.drop a).take (p - a) = b.take p := by
    have := List.take_add (l := b) (i := a) (j := p - a)
    rw [show a + (p - a) = p by omega] at this
    exact this.symm
  rw [h1]
  exact (List.take_add (l := b) (i := p) (j := 512)).symm

/-- Finds as cells. -/
def fcells (l : List (Nat × Nat)) : List Value := l.flatMap fun x => [.int .i64 x.1, .int .i64 x.2]
theorem fcells_length (l : List (Nat × Nat)) : (fcells l).length = l.length * 2 := by
  induction l with
  | nil => rfl
  | cons x r ih => simp [fcells] at ih ⊢; omega
theorem fcells_append (l m : List (Nat × Nat)) : fcells (l ++ m) = fcells l ++ fcells m := by simp [fcells]
theorem fcells_get (l : List (Nat × Nat)) (i : Nat) (h : i < l.length) : (fcells l)[i * 2]? = some (.int .i64 l[i].1) ∧ (fcells l)[i * 2 + 1]? = some (.int .i64 l[i].2) := by
  induction l generalizing i with
  | nil => simp at h
  | cons x r ih =>
    cases i with
    | zero => simp [fcells]
    | succ i =>
      obtain ⟨h1, h2⟩ := ih i (by simpa using h)
      have e : fcells (x :: r) = .int .i64 x.1 :: .int .i64 x.2 :: fcells r := rfl
      rw [e]
      refine ⟨?_, ?_⟩
      · rw [show (i + 1) * 2 = i * 2 + 1 + 1 by omega]
        simpa using h1
      · rw [show (i + 1) * 2 + 1 = i * 2 + 1 + 1 + 1 by omega]
        simpa using h2
theorem fcells_one (l : List (Nat × Nat)) : ∀ u ∈ fcells l, u.oneCell' = true := by
  intro u hu
  simp only [fcells, List.mem_flatMap] at hu
  obtain ⟨x, _, hx⟩ := hu
  simp at hx
  rcases hx with rfl | rfl <;> rfl
end Go.Proofs.Ytefobboakikpbaa
