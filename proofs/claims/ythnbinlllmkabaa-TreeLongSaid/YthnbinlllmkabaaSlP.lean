/- Plain laws on owned slices of one-cell elements that are written over. Nothing of the program stands here. -/
import Derived.Test.YthnbinlllmkabaaGen
import Derived.Laws.CopyOwn
import Derived.Shelf.Spec.SlicesInsertGrow
import Derived.Lib.SliceRun
namespace Go.Proofs.Ythnbinlllmkabaa
open Go.RowKit
set_option linter.unusedVariables false
set_option linter.unusedSimpArgs false

theorem splice_cons {α : Type} (L : List α) (k : Nat) (v : α) (r : List α) (hk : k < L.length) : splice L k (v :: r) = splice (L.set k v) (k + 1) r := by
  unfold splice
  have e1 : (L.set k v).take (k + 1) = L.take k ++ [v] := by
    rw [List.take_succ_eq_append_getElem (by simpa using hk), List.take_set_of_le (Nat.le_refl k)]
    simp
  rw [e1, List.drop_set_of_lt (by omega), List.append_assoc, List.length_cons]
  simp only [List.cons_append, List.nil_append]
  rw [show k + (r.length + 1) = k + 1 + r.length by omega]
theorem splice_nil {α : Type} (L : List α) (k : Nat) : splice L k [] = L := by simp [splice]
theorem Upd.setCells' {S : Nat → Prop} {a : World} (g : Nat) (hg : g < a.heap.size → S g) : ∀ (vs : List Value) (o : Nat) (w : World), Upd S a w → Upd S a (w.setCells g o vs)
  | [], _, _, h => h
  | v :: r, o, w, h => Upd.setCells' g hg r (o + 1) _ (h.setCell ⟨g, o, none⟩ v hg)
theorem Own.setCells {e : TypeId} {g off n c : Nat} : ∀ (vs : List Value) (w : World) (xs : List Value) (k : Nat), Own w e 1 (.slice (some ⟨g, off, none⟩) n c) n xs → k + vs.length ≤ n →
    Own (w.setCells g (off + k) vs) e 1 (.slice (some ⟨g, off, none⟩) n c) n (splice xs k vs)
  | [], w, xs, k, h, _ => by rw [splice_nil]; exact h
  | v :: r, w, xs, k, h, hk => by
    have hk' : k + (r.length + 1) ≤ n := hk
    have hl := h.1
    rw [splice_cons xs k v r (by omega)]
    exact Own.setCells r (w.setCell ⟨g, off + k, none⟩ v) (xs.set k v) (k + 1) (h.set k v (by omega)) (by omega)
theorem Own.drew {w : World} {e : TypeId} {size n : Nat} {v : Value} {xs : List Value} (h : Own w e size v n xs) : Own w.drew e size v n xs := h
/-- The whole row behind a slice. -/
theorem Own.full {w : World} {e : TypeId} {g off n c : Nat} {xs : List Value} (h : Own w e 1 (.slice (some ⟨g, off, none⟩) n c) n xs) :
    ∃ ys, ys.length = c ∧ ys.take n = xs ∧ n ≤ c ∧ c ≤ 9223372036854775807 ∧ Own w e 1 (.slice (some ⟨g, off, none⟩) c c) c ys := by
  rcases h.2.2 with ⟨hv, _⟩ | ⟨g', off', cap', cur, hv, hg, hnc, hcm, hcs, ht⟩
  · cases hv
  · injection hv with hv _ hc
    injection hv with hv
    injection hv with h1 h2
    subst h1 h2 hc
    refine ⟨(cur.toList.drop off).take (c * 1), by simp; omega, ?_, hnc, hcm, by simp; omega, hcm, .inr ⟨g, off, c, cur, rfl, hg, Nat.le_refl _, hcm, hcs, rfl⟩⟩
    rw [← ht, List.take_take]
    congr 1
    omega
theorem Own.part {w : World} {e : TypeId} {g off c : Nat} {ys : List Value} (h : Own w e 1 (.slice (some ⟨g, off, none⟩) c c) c ys) (n : Nat) (hn : n ≤ c) :
    Own w e 1 (.slice (some ⟨g, off, none⟩) n c) n (ys.take n) := by
  have hl := h.1
  rcases h.2.2 with ⟨hv, _⟩ | ⟨g', off', cap', cur, hv, hg, hnc, hcm, hcs, ht⟩
  · cases hv
  · injection hv with hv _ hc
    injection hv with hv
    injection hv with h1 h2
    subst h1 h2 hc
    refine ⟨by simp; omega, by omega, .inr ⟨g, off, c, cur, rfl, hg, hn, hcm, hcs, ?_⟩⟩
    rw [← ht, List.take_take]
    congr 1
    omega
theorem Own.row_made (w : World) (e : TypeId) (n : Nat) (cur : Array Value) (hn : n ≤ cur.size) (hc : cur.size ≤ 9223372036854775807) :
    Own (w.alloc (.cells cur e)) e 1 (.slice (some ⟨w.heap.size, 0, none⟩) n cur.size) n (cur.toList.take n) :=
  ⟨by simp; omega, by omega, .inr ⟨w.heap.size, 0, cur.size, cur, rfl, heap_alloc_new w _, hn, hc, by omega, by simp⟩⟩
/-- The cells of a whole row: there, and not frozen. -/
theorem Own.spots {w : World} {e : TypeId} {g off c : Nat} {ys : List Value} (h : Own w e 1 (.slice (some ⟨g, off, none⟩) c c) c ys) :
    (∀ j u, ys[j]? = some u → w.cell? ⟨g, off + j, none⟩ = some u) ∧ (∀ j, j < c → (w.cell? ⟨g, off + j, none⟩).isSome = true) ∧ (∀ j, w.frozen? ⟨g, j, none⟩ = false) ∧ ∃ k, w.shape? g = some (e, k) ∧ off + c ≤ k := by
  have hl := h.1
  rcases h.2.2 with ⟨hv, _⟩ | ⟨g', off', cap', cur, hv, hg, hnc, hcm, hcs, ht⟩
  · cases hv
  · injection hv with hv _ hc
    injection hv with hv
    injection hv with h1 h2
    subst h1 h2 hc
    have hcell : ∀ j u, ys[j]? = some u → w.cell? ⟨g, off + j, none⟩ = some u := fun j u hj => by
      rw [cell_of_row w g _ cur e (0, 0) hg]
      rw [← ht, List.getElem?_take] at hj
      split at hj
      · simpa using hj
      · cases hj
    refine ⟨hcell, fun j hj => ?_, fun j => frozen_of_row w g j cur e hg, cur.size, ?_, by omega⟩
    · rw [hcell j _ (List.getElem?_eq_getElem (by omega))]; rfl
    · unfold World.shape?; rw [hg]
theorem shift_eq (ys : List Value) (n i : Nat) (x : Value) (hi : i ≤ n) (hn : n + 1 ≤ ys.length) : (splice (splice ys (i + 1) ((ys.take n).drop i)) i [x]).take (n + 1) = (ys.take n).take i ++ x :: (ys.take n).drop i := by
  have hd : ((ys.take n).drop i).length = n - i := by simp; omega
  unfold splice
  rw [hd, List.length_singleton]
  have e1 : List.take i (List.take (i + 1) ys ++ (List.drop i (List.take n ys) ++ List.drop (i + 1 + (n - i)) ys)) = ys.take i := by
    rw [List.take_append_of_le_length (by simp; omega), List.take_take, Nat.min_eq_left (by omega)]
  have e2 : List.drop (i + 1) (List.take (i + 1) ys ++ (List.drop i (List.take n ys) ++ List.drop (i + 1 + (n - i)) ys)) = List.drop i (List.take n ys) ++ List.drop (i + 1 + (n - i)) ys := by
    exact List.drop_left' (by simp; omega)
  rw [e1, e2, List.take_take, Nat.min_eq_left hi, List.take_append, List.length_take, Nat.min_eq_left (by omega), List.take_of_length_le (by simp; omega)]
  congr 1
  rw [show n + 1 - i = (n - i) + 1 by omega]
  show (x :: (List.drop i (List.take n ys) ++ List.drop (i + 1 + (n - i)) ys)).take (n - i + 1) = _
  rw [List.take_succ_cons, List.take_left' hd]
theorem grow_eq (Z : List Value) (xs : List Value) (n i : Nat) (x : Value) (hi : i ≤ n) (hx : xs.length = n) (hz : n + 1 ≤ Z.length) (h0 : Z.take i = xs.take i) : (splice (splice Z i [x]) (i + 1) (xs.drop i)).take (n + 1) = xs.take i ++ x :: xs.drop i := by
  have hd : (xs.drop i).length = n - i := by simp; omega
  unfold splice
  rw [hd, List.length_singleton]
  have e1 : List.take (i + 1) (List.take i Z ++ ([x] ++ List.drop (i + 1) Z)) = xs.take i ++ [x] := by
    rw [← List.append_assoc, List.take_left' (by simp; omega), h0]
  rw [e1, List.take_append, List.take_of_length_le (by simp; omega), List.append_assoc]
  congr 1
  have hl : (xs.take i ++ [x]).length = i + 1 := by simp; omega
  rw [hl, show n + 1 - (i + 1) = n - i by omega, List.take_left' hd]
  rfl
theorem cut_eq (xs : List Value) (n i : Nat) (z : Value) (hi : i < n) (hx : xs.length = n) : (splice (splice xs i (xs.drop (i + 1))) (n - 1) [z]).take (n - 1) = xs.eraseIdx i := by
  have hd : (xs.drop (i + 1)).length = n - (i + 1) := by simp; omega
  have hl : (splice xs i (xs.drop (i + 1))).length = n := by rw [length_splice _ _ _ (by rw [hd]; omega), hx]
  unfold splice at hl ⊢
  rw [hd] at hl ⊢
  rw [List.take_append_of_le_length (by rw [List.length_take, hl]; omega), List.take_take, Nat.min_self, List.eraseIdx_eq_take_drop_succ, ← List.append_assoc, List.take_left' (by simp; omega)]
end Go.Proofs.Ythnbinlllmkabaa
