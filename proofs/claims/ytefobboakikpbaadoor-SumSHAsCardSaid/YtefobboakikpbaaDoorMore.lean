/- More words for walks: an array laid into a local that is just made; tables that are kept. -/
import Derived.Test.YtefobboakikpbaaDoorDig
import Derived.Lib.SlBytesConst
import Derived.ChangeKeysEq
namespace Go.Proofs.YtefobboakikpbaaDoor
open Go.RowKit
set_option linter.unusedVariables false
set_option linter.unusedSimpArgs false

theorem parts_none (w : World) (a : Option Addr) (c : Nat) : Parts w (.slice a 0 c) [] := ⟨[], ⟨a, c, rfl, rfl, by decide, fun h => absurd rfl h⟩, fun i hi => absurd hi (Nat.not_lt_zero _)⟩
theorem KeysAt.on {S : Nat → Prop} {w w' : World} (h : KeysAt w) (hu : Upd S w w') (hn : ¬ S 2) : KeysAt w' := fun i hi => hu.cell (h i hi) hn
theorem BeginAt.on {S : Nat → Prop} {w w' : World} (h : BeginAt w) (hu : Upd S w w') (hn : ¬ S 0) : BeginAt w' := fun j u hj => hu.cell (h j u hj) hn

/-- An array laid into a local that was just made: of the world only what is asked later stays. -/
theorem wpList_store_fresh {P : Program} {ops : Array Oper} {rest : List Oper} {o : Oper} {a : Act} {Q : Exit → Act → World → Prop} {w0 : World} {old : Array Value} {t : TypeId} (hgd : o.guard = none) (ty : TypeId) (x y : Operand) (ho : o.op = .store ty x y)
    (cells : Array Value) (hx : a.eval x = .pointer (some ⟨w0.heap.size, 0, none⟩)) (hy : a.eval y = .agg cells) (hi : (P.info? ty).map (·.size) = some cells.size) (hold : old.size = cells.size) (h1 : cells.all (·.oneCell') = true)
    (h : ∀ w2 : World, w2.heap.size = w0.heap.size + 1 → w2.heap[w0.heap.size]? = some (.cells cells t (0, 0)) → Below w0.heap.size w0 w2 → wpList P ops Q rest (a.put o.dst undef) w2) :
    wpList P ops Q (o :: rest) a (w0.alloc (.cells old t)) := by
  have hr := heap_alloc_new w0 (.cells old t)
  refine wpList_store_row hgd ty x y ho w0.heap.size cells hx hy t old hr hi hold h1 (h _ ?_ (setRow_heap _ _ old cells t (0, 0) hr) (below_setRow ((Below.refl _ _).alloc (Nat.le_refl _) _) (Nat.le_refl _) cells))
  simp [World.setRow]
/-- The sum of some bytes, as the cells of an array. -/
theorem sum_cells (l : List UInt8) (h : l.length = 32) : ((bytes l).toArray.size = 32) ∧ ((bytes l).toArray.all (·.oneCell') = true) :=
  ⟨by simp [bytes_length, h], by rw [Array.all_eq_true_iff_forall_mem]; intro u hu; exact bytes_one _ u (by simpa using hu)⟩
/-- A sum equals itself. -/
theorem eq_sum_any (d : Nat) (l : List UInt8) (h : l.length = 32) (w : World) : (Op.equalIn (d + 1 + 1) 26 (.agg (bytes l).toArray) (.agg (bytes l).toArray)).run Tryd.prog w = .ok true w := by
  obtain ⟨i0, hi, _⟩ := info_parts info_byte
  have hc : Tryd.prog.cellsOf 5 = 1 := by kernel_rfl
  have hp : Tryd.prog.plainKey 5 = true := by kernel_rfl
  rw [run_equalIn_array w (d + 1) _ _ Tryd.underlying26 hi, hc]
  have key : ∀ is : List Nat, (∀ i ∈ is, i < 32) → (Op.eqItems (d + 1) 5 1 (bytes l).toArray (bytes l).toArray is).run Tryd.prog w = .ok true w := by
    intro is
    induction is with
    | nil => intro _; simp [Op.eqItems]
    | cons i is ih =>
      intro hi2
      have hil : i < l.length := by rw [h]; exact hi2 i (by simp)
      have hg : (bytes l).toArray[i * 1]? = some (.int .u8 (l[i].toNat)) := by rw [Nat.mul_one, List.getElem?_toArray]; exact bytes_get l i hil
      have hq : (Op.equalIn (d + 1) 5 (.int .u8 (l[i].toNat)) (.int .u8 (l[i].toNat))).run Tryd.prog w = .ok true w := by
        simp [Op.equalIn, run_underlying Tryd.underlying5]
      simp only [Op.eqItems, Sem.run_bind, run_part_plain w hp hg, Result.andThen_ok]
      rw [hq]
      simp only [Result.andThen_ok]
      simpa using ih (fun j hj => hi2 j (by simp [hj]))
  exact key _ (fun i hi => by simpa using hi)
theorem eq_sum (l : List UInt8) (h : l.length = 32) (w : World) : (Op.equalIn 10000 26 (.agg (bytes l).toArray) (.agg (bytes l).toArray)).run Tryd.prog w = .ok true w := eq_sum_any 9998 l h w
/-- A row of bytes, read as a slice. -/
theorem sl_row {w : World} {g : Nat} {C : Array Value} {T : TypeId} {fr : Nat × Nat} (h : w.heap[g]? = some (.cells C T fr)) (x : List UInt8) (hx : C.toList = bytes x) (n c : Nat) (hn : x.length = n) (hm : n ≤ 9223372036854775807) : Sl w 1 (.slice (some ⟨g, 0, none⟩) n c) n (bytes x) := by
  refine ⟨_, c, rfl, by rw [bytes_length]; omega, hm, fun _ => ⟨_, rfl, fun j u hj => ?_⟩⟩
  rw [add_off, cell_of_row w g _ C T fr h, ← hj, ← hx]
  simp
/-- The world behind a step, seen from the world ahead of what was made for it. -/
theorem below_on {wc e wn : World} (h1 : Below wc.heap.size wc e) (h2 : Below e.heap.size e wn) : Below wc.heap.size wc wn := h1.trans (h2.mono h1.size)
theorem on_alloc {wc e : World} (h : Below wc.heap.size wc e) (o : Obj) : Below wc.heap.size wc (e.alloc o) := h.alloc h.size o
theorem on_drew {wc e : World} (h : Below wc.heap.size wc e) : Below wc.heap.size wc e.drew := h.drew
theorem convert_const_under {P : Program} (w : World) (t e : TypeId) (C : Array Value) (n c : Nat) (o : Obj) (ht : P.underlying t = some (.slice e)) (he : P.underlying e = some (.int .u8)) :
    (convert t t (.slice (some ⟨w.heap.size, 0, none⟩) n c)).run P ((w.alloc (.cells C e)).alloc o) = .ok (.slice (some ⟨w.heap.size, 0, none⟩) n c) ((w.alloc (.cells C e (C.size, C.size + 1))).alloc o) := by
  have h0 : ((w.alloc (.cells C e)).alloc o).heap[w.heap.size]? = some (.cells C e) := by
    show ((w.heap.push (.cells C e)).push o)[w.heap.size]? = _
    rw [Array.getElem?_push, if_neg (by simp), Array.getElem?_push, if_pos rfl]
  have hsh : ((w.alloc (.cells C e)).alloc o).shape? w.heap.size = some (e, C.size) := by
    unfold World.shape?
    rw [h0]
  have hfr : ∀ (k : Nat), ((w.alloc (.cells C e)).alloc o).freeze ⟨w.heap.size, k, none⟩ 1 = (w.alloc (.cells C e (k, k + 1))).alloc o := fun k => by
    have hm : ∀ (a : Array Obj) (x y : Obj) (f : Obj → Obj), ((a.push x).push y).modify a.size f = (a.push (f x)).push y := by
      intro a x y f
      apply Array.ext
      · simp
      · intro i h1 h2
        simp only [Array.getElem_modify, Array.getElem_push]
        by_cases h : a.size = i
        · subst h
          simp
        · by_cases h3 : i = a.size + 1
          · subst h3; simp
          · have hi : i < a.size := by simp at h1; omega
            simp [h, hi, show i < a.size + 1 by omega]
    unfold World.freeze
    rw [if_neg (by decide)]
    show ({ (w.alloc (.cells C e)).alloc o with heap := ((w.heap.push (.cells C e)).push o).modify w.heap.size _ } : World) = _
    rw [hm]
    rfl
  simp [convert, run_underlying ht, run_underlying he, markStringish, hsh]
  exact hfr _
end Go.Proofs.YtefobboakikpbaaDoor
