/- Words on slices and blocks in memory, and plain laws on them: what the proofs of this seat share. Nothing of the program stands here. -/
import Derived.Below
import Derived.OwnWalk
import Derived.WalkKit
import Derived.WalkSpells
import Derived.WalkLawsBesides
import Derived.KernelRfl
import Derived.RowKit3
import Derived.Lib.Hide
import Derived.Outline
import Derived.Deep.QuietTactic
import Derived.BigQuiet
import Derived.BigRegion
import Derived.Deep.LoopGhost
import Derived.Deep.DeepCutAuto
import Derived.Deep.CutBlock
import Derived.Deep.RegionHeld3
import Derived.Deep.RegionWith
import Derived.Deep.RegionLaw
import Derived.StillTailTactics
import Derived.Deep.DeepFit
import Derived.OpenShut
import Derived.Laws.AppendOwnNone
namespace Go.Proofs.Ythnbinlllmkabaa
open Go.RowKit

/-! ### Slices that are read -/
theorem add_off (g o j : Nat) : (⟨g, o, none⟩ : Addr).add j = ⟨g, o + j, none⟩ := by unfold Addr.add; split <;> simp_all

/-- v is a slice of n elements of so many cells each; its cells read as xs. -/
def Sl (w : World) (size : Nat) (v : Value) (n : Nat) (xs : List Value) : Prop :=
  ∃ a c, v = .slice a n c ∧ xs.length = n * size ∧ n ≤ 9223372036854775807 ∧ (xs ≠ [] → ∃ ad, a = some ad ∧ ∀ j u, xs[j]? = some u → w.cell? (ad.add j) = some u)

theorem ne_nil_of_length {α : Type} {xs : List α} (h : 0 < xs.length) : xs ≠ [] := by intro e; rw [e] at h; exact absurd h (by simp)

def bytes (l : List UInt8) : List Value := l.map fun x => .int .u8 x.toNat
theorem bytes_length (l : List UInt8) : (bytes l).length = l.length := by simp [bytes]
theorem bytes_append (k l : List UInt8) : bytes (k ++ l) = bytes k ++ bytes l := by simp [bytes]
theorem bytes_get (l : List UInt8) (j : Nat) (h : j < l.length) : (bytes l)[j]? = some (.int .u8 (l[j].toNat)) := by
  simp [bytes, h]
theorem bytes_getD (l : List UInt8) (j : Nat) (h : j < l.length) : (bytes l)[j]? = some (.int .u8 ((l.getD j 0).toNat)) := by
  simp [bytes, h]
theorem bytes_one (l : List UInt8) : ∀ u ∈ bytes l, u.oneCell' = true := by
  intro u hu
  simp only [bytes, List.mem_map] at hu
  obtain ⟨x, _, rfl⟩ := hu
  rfl

/-! ### Worlds that differ in some blocks -/

/-- Of the blocks of w, w' has changed at most those of S. -/
structure Upd (S : Nat → Prop) (w w' : World) : Prop where
  os : w'.os = w.os
  tape : w'.tape = w.tape
  output : w'.output = w.output
  size : w.heap.size ≤ w'.heap.size
  block : ∀ k, k < w.heap.size → ¬ S k → w'.heap[k]? = w.heap[k]?

theorem Upd.refl (S : Nat → Prop) (w : World) : Upd S w w := ⟨rfl, rfl, rfl, Nat.le_refl _, fun _ _ _ => rfl⟩
theorem Upd.trans {S : Nat → Prop} {a b c : World} (h : Upd S a b) (k : Upd S b c) : Upd S a c :=
  ⟨k.os.trans h.os, k.tape.trans h.tape, k.output.trans h.output, Nat.le_trans h.size k.size,
    fun i hi hn => (k.block i (Nat.lt_of_lt_of_le hi h.size) hn).trans (h.block i hi hn)⟩
/-- What the second step changes besides are blocks that the first world had not. -/
theorem Upd.then {S T : Nat → Prop} {a b c : World} (h : Upd S a b) (k : Upd T b c) (hT : ∀ i, i < a.heap.size → T i → S i) : Upd S a c :=
  ⟨k.os.trans h.os, k.tape.trans h.tape, k.output.trans h.output, Nat.le_trans h.size k.size,
    fun i hi hn => (k.block i (Nat.lt_of_lt_of_le hi h.size) (fun t => hn (hT i hi t))).trans (h.block i hi hn)⟩
theorem Upd.mono {S T : Nat → Prop} {a b : World} (h : Upd S a b) (hT : ∀ i, i < a.heap.size → S i → T i) : Upd T a b :=
  ⟨h.os, h.tape, h.output, h.size, fun i hi hn => h.block i hi (fun s => hn (hT i hi s))⟩
theorem Upd.drew {S : Nat → Prop} {a w : World} (h : Upd S a w) : Upd S a w.drew := ⟨h.os, h.tape, h.output, h.size, h.block⟩
theorem Upd.drewN {S : Nat → Prop} {a w : World} (h : Upd S a w) (n : Nat) : Upd S a (w.drewN n) := ⟨h.os, h.tape, h.output, h.size, h.block⟩
theorem Upd.alloc {S : Nat → Prop} {a w : World} (h : Upd S a w) (o : Obj) : Upd S a (w.alloc o) :=
  ⟨h.os, h.tape, h.output, Nat.le_trans h.size (by simp), fun i hi hn => (Below.heap_alloc w o i (Nat.lt_of_lt_of_le hi h.size)).trans (h.block i hi hn)⟩
theorem Upd.setCell {S : Nat → Prop} {a w : World} (h : Upd S a w) (p : Addr) (u : Value) (hp : p.block < a.heap.size → S p.block) : Upd S a (w.setCell p u) :=
  ⟨h.os, h.tape, h.output, Nat.le_trans h.size (by simp [World.setCell]), fun i hi hn =>
    (Below.heap_setCell w p u i (fun e => by subst e; exact hn (hp hi))).trans (h.block i hi hn)⟩
theorem Upd.grown {S : Nat → Prop} {a w w' : World} {row : Option Nat} (h : Upd S a w) (hg : w.grownBy w' row) (hr : ∀ k, row = some k → k < a.heap.size → S k) : Upd S a w' :=
  h.then ⟨hg.os, hg.tape, hg.output, hg.size, fun k hk hn => hg.block k hk (fun e => hn (show row = some k from e.symm))⟩ (fun i hi t => hr i t hi)
theorem Upd.below {w w' : World} (h : Below w.heap.size w w') (S : Nat → Prop) : Upd S w w' :=
  ⟨h.os, h.tape, h.output, h.size, fun k hk _ => h.block k hk⟩
theorem Upd.toBelow {S : Nat → Prop} {B : Nat} {w w' : World} (h : Upd S w w') (hS : ∀ k, S k → B ≤ k) (hB : B ≤ w.heap.size) : Below B w w' :=
  ⟨h.os, h.tape, h.output, h.size, fun k hk => h.block k (Nat.lt_of_lt_of_le hk hB) (fun s => by have := hS k s; omega)⟩
theorem _root_.Go.RowKit.Below.upd {B : Nat} {S : Nat → Prop} {a b c : World} (h : Below B a b) (hB : B ≤ a.heap.size) (k : Upd S b c) (hS : ∀ i, S i → B ≤ i) : Below B a c :=
  h.trans (k.toBelow hS (Nat.le_trans hB h.size))
theorem Upd.cell {S : Nat → Prop} {w w' : World} (h : Upd S w w') {a : Addr} {v : Value} (hc : w.cell? a = some v) (hn : ¬ S a.block) : w'.cell? a = some v :=
  (World.cell?_of_block (h.block a.block (World.block_lt_of_cell? w a hc) hn)).trans hc

theorem lt_heap {w : World} {k : Nat} {o : Obj} (h : w.heap[k]? = some o) : k < w.heap.size := (Array.getElem?_eq_some_iff.1 h).1
theorem Upd.at_ {S : Nat → Prop} {w w' : World} (h : Upd S w w') {k : Nat} {o : Obj} (hc : w.heap[k]? = some o) (hn : ¬ S k) : w'.heap[k]? = some o :=
  (h.block k (lt_heap hc) hn).trans hc

/-- A slice that is read and not empty: where its cells lie. -/
theorem Sl.open_ {w : World} {size n c : Nat} {a : Option Addr} {xs : List Value} (h : Sl w size (.slice a n c) n xs) (hx : 0 < xs.length) :
    ∃ g off, a = some ⟨g, off, none⟩ ∧ g < w.heap.size ∧ ∀ j u, xs[j]? = some u → w.cell? ⟨g, off + j, none⟩ = some u := by
  obtain ⟨a0, c0, he, hl, hm, hc⟩ := h
  injection he with h1 h2 h3
  subst h1
  obtain ⟨⟨g, off, sp⟩, rfl, hcc⟩ := hc (by intro e; rw [e] at hx; exact absurd hx (by simp))
  have h0 := hcc 0 xs[0] (by simp [hx])
  have hsp : sp = none := by
    cases sp with
    | none => rfl
    | some x =>
      exfalso
      simp only [Addr.add, if_true, World.cell?] at h0
      split at h0 <;> simp at h0
  subst hsp
  refine ⟨g, off, rfl, ?_, fun j u hj => ?_⟩
  · have := block_lt_of_cell h0
    simpa [Addr.add] using this
  · have := hcc j u hj
    rw [add_off] at this
    exact this
/-- A slice that is read stays so where no block that it lies in is changed. -/
theorem Sl.kept {S : Nat → Prop} {w w' : World} {size n : Nat} {v : Value} {xs : List Value} (h : Sl w size v n xs) (hu : Upd S w w')
    (hn : ∀ k, v.ownBlock = some k → xs ≠ [] → ¬ S k) : Sl w' size v n xs := by
  obtain ⟨a, c, rfl, hl, hm, hc⟩ := h
  refine ⟨a, c, rfl, hl, hm, fun hx => ?_⟩
  obtain ⟨ad, rfl, hc2⟩ := hc hx
  exact ⟨ad, rfl, fun j u hj => hu.cell (hc2 j u hj) (by
    have : (ad.add j).block = ad.block := by unfold Addr.add; split <;> rfl
    rw [this]; exact hn ad.block rfl hx)⟩
theorem Sl.below {w w' : World} {size n : Nat} {v : Value} {xs : List Value} (h : Sl w size v n xs) (hb : Below w.heap.size w w') : Sl w' size v n xs :=
  h.kept (Upd.below hb fun _ => False) (fun _ _ _ => id)

/-! ### Slices of the call's own -/

/-- v is a slice of n elements of type e, of so many cells each, which read as xs; its spare room may be written. -/
def Own (w : World) (e : TypeId) (size : Nat) (v : Value) (n : Nat) (xs : List Value) : Prop :=
  xs.length = n * size ∧ n ≤ 9223372036854775807 ∧
  ((v = .slice none 0 0 ∧ n = 0) ∨
   ∃ g off cap cur, v = .slice (some ⟨g, off, none⟩) n cap ∧ w.heap[g]? = some (.cells cur e (0, 0)) ∧ n ≤ cap ∧ cap ≤ 9223372036854775807 ∧
     off + cap * size ≤ cur.size ∧ (cur.toList.drop off).take (n * size) = xs)

theorem Own.nil (w : World) (e : TypeId) (size : Nat) : Own w e size (.slice none 0 0) 0 [] := ⟨by simp, by omega, .inl ⟨rfl, rfl⟩⟩
theorem Own.lt {w : World} {e : TypeId} {size n : Nat} {v : Value} {xs : List Value} (h : Own w e size v n xs) {k : Nat} (hk : v.ownBlock = some k) : k < w.heap.size := by
  rcases h.2.2 with ⟨rfl, _⟩ | ⟨g, off, cap, cur, rfl, hg, _⟩
  · simp [Value.ownBlock] at hk
  · have : g = k := by simpa [Value.ownBlock] using hk
    subst this; exact lt_heap hg
theorem Own.kept {S : Nat → Prop} {w w' : World} {e : TypeId} {size n : Nat} {v : Value} {xs : List Value} (h : Own w e size v n xs) (hu : Upd S w w')
    (hn : ∀ k, v.ownBlock = some k → ¬ S k) : Own w' e size v n xs := by
  refine ⟨h.1, h.2.1, ?_⟩
  rcases h.2.2 with hn' | ⟨g, off, cap, cur, rfl, hg, rest⟩
  · exact .inl hn'
  · exact .inr ⟨g, off, cap, cur, rfl, hu.at_ hg (hn g rfl), rest⟩
theorem Own.slice {w : World} {e : TypeId} {size n : Nat} {v : Value} {xs : List Value} (h : Own w e size v n xs) : ∃ a c, v = .slice a n c := by
  rcases h.2.2 with ⟨rfl, rfl⟩ | ⟨g, off, cap, cur, rfl, _⟩
  · exact ⟨_, _, rfl⟩
  · exact ⟨_, _, rfl⟩
theorem Own.sl {w : World} {e : TypeId} {size n : Nat} {v : Value} {xs : List Value} (h : Own w e size v n xs) : Sl w size v n xs := by
  rcases h.2.2 with ⟨rfl, rfl⟩ | ⟨g, off, cap, cur, rfl, hg, hnc, hcm, hcs, ht⟩
  · exact ⟨none, 0, rfl, h.1, h.2.1, fun hx => by have := h.1; simp at this; exact absurd this hx⟩
  · refine ⟨_, cap, rfl, h.1, h.2.1, fun _ => ⟨_, rfl, fun j u hj => ?_⟩⟩
    rw [add_off, cell_of_row w g _ cur e (0, 0) hg]
    rw [← ht, List.getElem?_take] at hj
    split at hj
    · simpa using hj
    · cases hj
/-- A new block whose cells are the elements. -/
theorem Own.made (w : World) (e : TypeId) (size n : Nat) (cur : Array Value) (hs : cur.size = n * size) (hn : n ≤ 9223372036854775807) :
    Own (w.alloc (.cells cur e)) e size (.slice (some ⟨w.heap.size, 0, none⟩) n n) n cur.toList :=
  ⟨by simp [hs], hn, .inr ⟨w.heap.size, 0, n, cur, rfl, heap_alloc_new w _, Nat.le_refl _, hn, by omega, by rw [← hs, List.drop_zero]; exact List.take_of_length_le (by simp)⟩⟩
theorem Own.ofRow {w : World} {base : Nat} {e : TypeId} {size n : Nat} {v : Value} {xs : List Value} (h : w.ownsRow base e size v n xs) : Own w e size v n xs := by
  rcases h.2 with ⟨rfl, rfl⟩ | ⟨g, cap, cur, rfl, hb, hg, hnc, hcm, hcs, ht⟩
  · exact ⟨h.1, by omega, .inl ⟨rfl, rfl⟩⟩
  · have hcm' : cap ≤ 9223372036854775807 := by simp only [maxLen] at hcm; omega
    exact ⟨h.1, by omega, .inr ⟨g, 0, cap, cur, rfl, hg, hnc, hcm', by omega, by simpa using ht⟩⟩
/-- A new block, whatever its mark, as a slice that is read. -/
theorem Sl.made (w : World) (e : TypeId) (size n c : Nat) (C : Array Value) (fr : Nat × Nat) (xs : List Value) (hx : C.toList = xs) (hs : xs.length = n * size) (hn : n ≤ 9223372036854775807) :
    Sl (w.alloc (.cells C e fr)) size (.slice (some ⟨w.heap.size, 0, none⟩) n c) n xs := by
  refine ⟨_, c, rfl, hs, hn, fun _ => ⟨_, rfl, fun j u hj => ?_⟩⟩
  rw [add_off, cell_of_row _ w.heap.size _ C e fr (heap_alloc_new w _)]
  subst hx
  simpa using hj
/-- An element of an owned slice: its cell, and that it may be written. -/
theorem Own.cells {w : World} {e : TypeId} {size n : Nat} {v : Value} {xs : List Value} (h : Own w e size v n xs) (hx : xs ≠ []) :
    ∃ g off cap cur, v = .slice (some ⟨g, off, none⟩) n cap ∧ w.heap[g]? = some (.cells cur e (0, 0)) ∧ off + cap * size ≤ cur.size ∧ n ≤ cap ∧
      (∀ j u, xs[j]? = some u → w.cell? ⟨g, off + j, none⟩ = some u) ∧ (∀ j, w.frozen? ⟨g, j, none⟩ = false) := by
  have hs := h.sl
  rcases h.2.2 with ⟨rfl, rfl⟩ | ⟨g, off, cap, cur, rfl, hg, hnc, hcm, hcs, ht⟩
  · have := h.1; simp at this; exact absurd this hx
  · refine ⟨g, off, cap, cur, rfl, hg, hcs, hnc, fun j u hj => ?_, fun j => frozen_of_row w g j cur e hg⟩
    obtain ⟨a, c, he, _, _, hc⟩ := hs
    obtain ⟨ad, rfl, hc2⟩ := hc hx
    have hc3 := hc2 j u hj
    injection he with he
    injection he with he
    rw [← he, add_off] at hc3
    exact hc3
/-- An element is written. -/
theorem Own.set {w : World} {e : TypeId} {size n : Nat} {g off cap : Nat} {xs : List Value} (h : Own w e size (.slice (some ⟨g, off, none⟩) n cap) n xs) (j : Nat) (u : Value) (hj : j < n * size) :
    Own (w.setCell ⟨g, off + j, none⟩ u) e size (.slice (some ⟨g, off, none⟩) n cap) n (xs.set j u) := by
  refine ⟨by simp [h.1], h.2.1, ?_⟩
  rcases h.2.2 with ⟨hv, _⟩ | ⟨g', off', cap', cur, hv, hg, hnc, hcm, hcs, ht⟩
  · cases hv
  · injection hv with hv _ hc
    injection hv with hv
    injection hv with h1 h2
    subst h1 h2 hc
    refine .inr ⟨g, off, cap, _, rfl, heap_setCell_same w g (off + j) cur e u hg, hnc, hcm, by simpa using hcs, ?_⟩
    rw [← ht]
    simp only [Array.toList_setIfInBounds]
    apply List.ext_getElem?
    intro i
    simp only [List.getElem?_take, List.getElem?_drop, List.getElem?_set, List.length_take, List.length_drop, Array.length_toList]
    have := Nat.mul_le_mul_right size hnc
    by_cases hi : i < n * size
    · rw [if_pos hi]
      by_cases hij : j = i
      · subst hij
        rw [if_pos rfl, if_pos rfl, if_pos (by omega), if_pos (by omega)]
      · rw [if_neg (by omega), if_neg hij, if_pos hi]
    · rw [if_neg hi, if_neg (by omega), if_neg hi]

/-! ### Slices of slices -/
section
variable {P : Program}
/-- s[k:] of an owned slice. -/
theorem Own.from {w : World} {t e : TypeId} {size n c : Nat} {a : Option Addr} {xs : List Value} (h : Own w e size (.slice a n c) n xs)
    (ht : P.underlying t = some (.slice (P.elem t))) (hs : ∀ w, (sizeOf (P.elem t)).run P w = .ok size w) (k : Nat) (ki : Int) (hki : ki = k) (hk : k ≤ n) :
    ∃ a', (∀ w, (Instr.sliceAt t (.slice a n c) (some (.int .i64 ki)) none none).run P w = .ok (.slice a' (n - k) (c - k)) w) ∧
      Own w e size (.slice a' (n - k) (c - k)) (n - k) (xs.drop (k * size)) ∧ (∀ g, (Value.slice a' (n - k) (c - k)).ownBlock = some g → (Value.slice a n c).ownBlock = some g) ∧ (a.isSome → a'.isSome) := by
  subst hki
  refine ⟨if c = k then a else a.map (·.add (k * size)), fun w => ?_, ⟨?_, by have := h.2.1; omega, ?_⟩, ?_, ?_⟩
  · rw [run_sliceAt_slice w t _ _ _ _ ht, run_slice_l w t a n c ht .i64 k (by omega) (by omega)]
    simp [hs, sliced]
  · rw [List.length_drop, h.1, Nat.sub_mul]
  · rcases h.2.2 with ⟨hv, rfl⟩ | ⟨g, off, cap, cur, hv, hg, hnc, hcm, hcs, htk⟩
    · injection hv with h1 h2 h3
      subst h1 h3
      obtain rfl : k = 0 := by omega
      exact .inl ⟨by simp, rfl⟩
    · injection hv with h1 h2 h3
      subst h1 h3
      by_cases hck : c = k
      · have hnk : n = k := by omega
        refine .inr ⟨g, off, c - k, cur, by rw [if_pos hck], hg, by omega, by omega, ?_, ?_⟩
        · rw [hck]; simp; have := Nat.zero_le (c * size); omega
        · rw [hnk]; simp
          rw [h.1, hnk]; exact Nat.le_refl _
      · refine .inr ⟨g, off + k * size, c - k, cur, by rw [if_neg hck]; simp [add_off], hg, by omega, by omega, ?_, ?_⟩
        · rw [Nat.sub_mul]
          have := Nat.mul_le_mul_right size (show k ≤ c by omega)
          omega
        · rw [← htk, List.drop_take, List.drop_drop, Nat.sub_mul]
  · intro g hg
    cases a with
    | none => simp [Value.ownBlock] at hg
    | some a =>
      simp only [Value.ownBlock] at hg ⊢
      by_cases hck : c = k
      · rw [if_pos hck] at hg; exact hg
      · rw [if_neg hck] at hg
        simp only [Option.map_some] at hg
        have : (a.add (k * size)).block = a.block := by unfold Addr.add; split <;> rfl
        rw [this] at hg; exact hg
  · intro hsm
    cases a with
    | none => simp at hsm
    | some a => split <;> simp
/-- s[l:h] of a slice that is read; h = n where the upper bound is left out. -/
theorem Sl.cut {w : World} {t : TypeId} {size n c : Nat} {a : Option Addr} {xs : List Value} (h : Sl w size (.slice a n c) n xs)
    (ht : P.underlying t = some (.slice (P.elem t))) (hs : ∀ w, (sizeOf (P.elem t)).run P w = .ok size w) (l k : Nat) (hlk : l ≤ k) (hk : k ≤ n) (hnc : n ≤ c) :
    ∃ a', (∀ w (li ki : Int), li = l → ki = k → (Instr.sliceAt t (.slice a n c) (some (.int .i64 li)) (some (.int .i64 ki)) none).run P w = .ok (.slice a' (k - l) (c - l)) w) ∧
      (∀ w (li : Int), li = l → k = n → (Instr.sliceAt t (.slice a n c) (some (.int .i64 li)) none none).run P w = .ok (.slice a' (k - l) (c - l)) w) ∧
      (∀ w (ki : Int), l = 0 → ki = k → (Instr.sliceAt t (.slice a n c) none (some (.int .i64 ki)) none).run P w = .ok (.slice a' (k - l) (c - l)) w) ∧
      Sl w size (.slice a' (k - l) (c - l)) (k - l) ((xs.drop (l * size)).take ((k - l) * size)) ∧ (∀ g, (Value.slice a' (k - l) (c - l)).ownBlock = some g → (Value.slice a n c).ownBlock = some g) := by
  obtain ⟨a0, c0, he, hl, hm, hc⟩ := h
  injection he with h1 h2 h3
  subst h1 h3
  refine ⟨if c = l then a else a.map (·.add (l * size)), ?_, ?_, ?_, ⟨_, _, rfl, ?_, by omega, ?_⟩, ?_⟩
  · rintro w li ki rfl rfl
    rw [run_sliceAt_slice w t _ _ _ _ ht, run_slice_lh w t a n c ht .i64 .i64 l k (by omega) (by omega) (by omega)]
    simp [hs, sliced]
  · rintro w li rfl rfl
    rw [run_sliceAt_slice w t _ _ _ _ ht, run_slice_l w t a k c ht .i64 l (by omega) (by omega)]
    simp [hs, sliced]
  · rintro w ki rfl rfl
    rw [run_sliceAt_slice w t _ _ _ _ ht, run_slice_h w t a n c ht .i64 k (by omega) (by omega)]
    simp [hs, sliced]
  · rw [List.length_take, List.length_drop, hl, Nat.sub_mul]
    have := Nat.mul_le_mul_right size hk
    omega
  · intro hx
    have hne : xs ≠ [] := by intro e; rw [e] at hx; simp at hx
    obtain ⟨ad, rfl, hc2⟩ := hc hne
    have hlt : l < k := by
      rcases Nat.lt_or_ge l k with h | h
      · exact h
      · exfalso; apply hx; rw [show k - l = 0 by omega]; simp
    rw [if_neg (by omega)]
    refine ⟨_, rfl, fun j u hj => ?_⟩
    rw [List.getElem?_take] at hj
    split at hj
    · rw [List.getElem?_drop] at hj
      have := hc2 _ u hj
      have e : (ad.add (l * size)).add j = ad.add (l * size + j) := by
        unfold Addr.add
        by_cases h1 : j = 0
        · subst h1; simp
        · by_cases h2 : l * size = 0
          · simp [h1, h2]
          · simp [h1, h2, Nat.add_assoc]
      rw [e]; exact this
    · cases hj
  · intro g hg
    cases a with
    | none => simp [Value.ownBlock] at hg
    | some a =>
      simp only [Value.ownBlock] at hg ⊢
      by_cases hck : c = l
      · rw [if_pos hck] at hg; exact hg
      · rw [if_neg hck] at hg
        simp only [Option.map_some] at hg
        have : (a.add (l * size)).block = a.block := by unfold Addr.add; split <;> rfl
        rw [this] at hg; exact hg
end

/-! ### append -/

/-- append to an owned slice, whatever is appended, and wherever it lies. -/
theorem run_append_any {P : Program} {w : World} (t ty e : TypeId) (i : TypeInfo) (z : Value) (size bytes : Nat) (ht : P.underlying t = some (.slice e)) (hi : P.info? e = some i) (hz : i.zero = some z)
    (hsize : i.size = size) (hby : i.bytes = bytes) (hzs : z.cells.size = size) (hsz : 0 < size)
    {v x : Value} {n m : Nat} {xs news : List Value} (hown : Own w e size v n xs) (hx : Sl w size x m news) (h1 : ∀ u ∈ news, u.oneCell' = true)
    (h63 : n + m ≤ 9223372036854775807) (hbytes : (n + m) * bytes ≤ 140737488355328) :
    ∃ v' w', (Builtin.append_ #[t, t] ty #[v, x]).run P w = .ok v' w' ∧ Own w' e size v' (n + m) (xs ++ news) ∧ w.grownBy w' v.ownBlock ∧
      (v'.ownBlock = v.ownBlock ∨ ∃ k, v'.ownBlock = some k ∧ w.heap.size ≤ k) := by
  subst hsize hby
  obtain ⟨xa, xc, rfl, hl, hm, hcx⟩ := hx
  have hlen : (xs ++ news).length = (n + m) * i.size := by rw [List.length_append, hown.1, hl, Nat.add_mul]
  rcases Nat.eq_zero_or_pos m with hm0 | hm0
  · -- nothing is appended
    subst hm0
    have hnews : news = [] := List.eq_nil_of_length_eq_zero (by simpa using hl)
    subst hnews
    have hlc : ∀ w : World, ∀ a : Option Addr, (Builtin.firstCells i.size 0 (.slice a 0 xc)).run P w = .ok #[] w := by
      intro w a; cases a <;> simp [Builtin.firstCells, loadCells, loadCellsFrom]
    refine ⟨v, w, ?_, by simpa using hown, ⟨rfl, rfl, rfl, Nat.le_refl _, fun _ _ _ => rfl⟩, .inl rfl⟩
    · rcases hown.2.2 with ⟨rfl, rfl⟩ | ⟨g, off, cap, cur, rfl, hg, hnc, _⟩
      · simp [Builtin.append_, run_underlying ht, sizeOf, typeInfo, hi, Builtin.lenOf, hlc]
      · simp [Builtin.append_, run_underlying ht, sizeOf, typeInfo, hi, Builtin.lenOf, hlc, hnc, storeCells]
  · have hne : news ≠ [] := by
      intro hE; rw [hE] at hl; have hp := Nat.mul_pos hm0 hsz; simp only [List.length_nil] at hl; omega
    obtain ⟨ad, rfl, hcy⟩ := hcx hne
    clear hcx
    have grown : ∀ (old : Nat), old < n + m →
        Own (w.drew.alloc (.cells (xs.toArray ++ news.toArray ++ Builtin.zeroCells z.cells (grownCap w (n + m) old e - (n + m))) e)) e i.size
          (.slice (some ⟨w.heap.size, 0, none⟩) (n + m) (grownCap w (n + m) old e)) (n + m) (xs ++ news) ∧
        ∀ row, w.grownBy (w.drew.alloc (.cells (xs.toArray ++ news.toArray ++ Builtin.zeroCells z.cells (grownCap w (n + m) old e - (n + m))) e)) row := by
      intro old ho
      have hge := grownCap_ge w (n + m) old e
      have hcm : grownCap w (n + m) old e ≤ maxLen := grownCap_le_maxLen w (n + m) old e (by simp only [maxLen]; omega)
      simp only [maxLen] at hcm
      refine ⟨⟨hlen, h63, .inr ⟨w.heap.size, 0, _, _, rfl, heap_alloc_new w.drew _, hge, by omega, ?_, ?_⟩⟩, fun row => ⟨rfl, rfl, rfl, by simp, fun k hk _ => Below.heap_alloc w.drew _ k hk⟩⟩
      · simp only [Array.size_append, List.size_toArray, size_zeroCells, hzs, hown.1, hl, ← Nat.add_mul, Nat.zero_add]
        exact Nat.mul_le_mul_right _ (by omega)
      · simp only [Array.toList_append, List.append_assoc, List.drop_zero]
        rw [← List.append_assoc, ← hlen]
        exact List.take_left
    have h63' : ((n + m : Nat) : Int) ≤ 9223372036854775807 := by omega
    rcases hown.2.2 with ⟨rfl, rfl⟩ | ⟨g, off, cap, cur, rfl, hg, hnc, hcm, hcs, htake⟩
    · have hxs : xs = [] := List.eq_nil_of_length_eq_zero (by simpa using hown.1)
      subst hxs
      have hr := run_append_nil (P := P) w t ty e i z ht hi hz ad m xc news hl hcy hm0 (by omega) (by have hb := hbytes; simp only [Nat.zero_add] at hb; omega)
      have hgr := grown 0 (by omega)
      simp only [Nat.zero_add, List.nil_append, Array.empty_append] at hgr ⊢
      exact ⟨_, _, hr, hgr.1, hgr.2 _, .inr ⟨_, rfl, Nat.le_refl _⟩⟩
    · by_cases hroom : n + m ≤ cap
      · have hfit : off + n * i.size + news.length ≤ cur.size := by
          have := Nat.mul_le_mul_right i.size hroom
          rw [Nat.add_mul] at this; rw [hl]; omega
        have hf := run_firstCells_some (P := P) w i.size m ad m xc news hl hcy
        have hst := run_storeCells_at P g (off + n * i.size) e news 0 cur w hg (by simpa using hfit) h1
        simp only [Nat.add_zero] at hst
        refine ⟨.slice (some ⟨g, off, none⟩) (n + m) cap, _, by simp [Builtin.append_, run_underlying ht, sizeOf, typeInfo, hi, Builtin.lenOf, hroom, hf, add_off, hst]; rfl, ⟨hlen, h63, .inr ⟨g, off, cap, _, rfl, setRow_heap w g cur _ e _ hg, hroom, hcm, ?_, ?_⟩⟩,
          ⟨rfl, rfl, rfl, by simp, fun k _ hk => setRow_other w g k _ (fun e => hk (by simp [Value.ownBlock, e]))⟩, .inl rfl⟩
        · simp only [List.size_toArray, List.length_append, List.length_take, List.length_drop, Array.length_toList]
          omega
        · have hx1 : xs.length = n * i.size := hown.1
          have hL : (cur.toList.take (off + n * i.size)).length = off + n * i.size := by
            rw [List.length_take, Array.length_toList]; omega
          have e1 : cur.toList.take (off + n * i.size) = cur.toList.take off ++ xs := by
            rw [List.take_add, htake]
          show List.take ((n + m) * i.size) (List.drop off (cur.toList.take (off + n * i.size) ++ (news ++ cur.toList.drop (off + n * i.size + news.length)))) = xs ++ news
          have hoff : (cur.toList.take off).length = off := by rw [List.length_take, Array.length_toList]; omega
          rw [e1, List.append_assoc, List.drop_append_of_le_length (by omega), List.drop_of_length_le (by omega), List.nil_append, ← List.append_assoc, ← hlen]
          exact List.take_left
      · have holds : ∀ j u, xs[j]? = some u → w.cell? ((⟨g, off, none⟩ : Addr).add j) = some u := by
          intro j u hj
          rw [add_off, cell_of_row w g _ cur e (0, 0) hg]
          rw [← htake, List.getElem?_take] at hj
          split at hj
          · simpa using hj
          · cases hj
        have hr := run_append_grow (P := P) w t ty e i z ht hi hz ⟨g, off, none⟩ n cap xs hown.1 holds ad m xc news hl hcy (by omega) h63' (growslice_fits (by omega) hbytes)
        have hgr := grown cap (by omega)
        exact ⟨_, _, hr, hgr.1, hgr.2 _, .inr ⟨_, rfl, Nat.le_refl _⟩⟩

/-- append, in a walk. -/
theorem wpList_append_any {P : Program} {w : World} {ops : Array Oper} {rest : List Oper} {o : Oper} {a : Act} {Q : Exit → Act → World → Prop} (hgd : o.guard = none) (s x : Operand) (t : TypeId)
    (ho : o.op = .call { callee := .builtin .append, args := #[s, x], argTypes := #[t, t] })
    (e : TypeId) (i : TypeInfo) (z : Value) (size bytes : Nat) (ht : P.underlying t = some (.slice e)) (hi : P.info? e = some i) (hz : i.zero = some z)
    (hsize : i.size = size) (hby : i.bytes = bytes) (hzs : z.cells.size = size) (hsz : 0 < size)
    (v : Value) (n : Nat) (xs : List Value) (y : Value) (m : Nat) (news : List Value) (hs : a.eval s = v) (hx' : a.eval x = y) (hown : Own w e size v n xs) (hx : Sl w size y m news) (h1 : ∀ u ∈ news, u.oneCell' = true)
    (h63 : n + m ≤ 9223372036854775807) (hbytes : (n + m) * bytes ≤ 140737488355328)
    (h : ∀ a' c' w', Own w' e size (.slice a' (n + m) c') (n + m) (xs ++ news) → w.grownBy w' v.ownBlock → ((∀ k, v.ownBlock ≠ some k → (Value.slice a' (n + m) c').ownBlock = some k → w.heap.size ≤ k)) →
      wpList P ops Q rest (a.put o.dst (.slice a' (n + m) c')) w') : wpList P ops Q (o :: rest) a w :=
  wpList_plain hgd fun K hK => by
    obtain ⟨v', w', hr, h2, h3, h4⟩ := run_append_any (P := P) t o.type e i z size bytes ht hi hz hsize hby hzs hsz hown hx h1 h63 hbytes
    unfold Oper.wp execOp
    simp only [ho, resolve, invoke, builtin, Sem.run_bind, Sem.run_pure, Result.andThen_ok, List.map_toArray, List.map_cons, List.map_nil, hs, hx', hr]
    obtain ⟨a', c', rfl⟩ := h2.slice
    refine hK _ _ (h a' c' w' h2 h3 fun k hk he => ?_)
    rcases h4 with h4 | ⟨g, h4, hle⟩
    · exact absurd (h4.symm.trans he) hk
    · rw [he] at h4; injection h4 with h4; omega
/-- append, as one step of a region that draws its order. -/
theorem step_append_any {P : Program} {ops : Array Oper} {o : Oper} {a : Act} {w : World} {K : Act → World → Prop} {Q : Exit → Act → World → Prop} {E : Prop} (hgd : o.guard = none) (s x : Operand) (t : TypeId)
    (ho : o.op = .call { callee := .builtin .append, args := #[s, x], argTypes := #[t, t] })
    (e : TypeId) (i : TypeInfo) (z : Value) (size bytes : Nat) (ht : P.underlying t = some (.slice e)) (hi : P.info? e = some i) (hz : i.zero = some z)
    (hsize : i.size = size) (hby : i.bytes = bytes) (hzs : z.cells.size = size) (hsz : 0 < size)
    (v : Value) (n : Nat) (xs : List Value) (y : Value) (m : Nat) (news : List Value) (hs : a.eval s = v) (hx' : a.eval x = y) (hown : Own w e size v n xs) (hx : Sl w size y m news) (h1 : ∀ u ∈ news, u.oneCell' = true)
    (h63 : n + m ≤ 9223372036854775807) (hbytes : (n + m) * bytes ≤ 140737488355328)
    (h : ∀ a' c' w', Own w' e size (.slice a' (n + m) c') (n + m) (xs ++ news) → w.grownBy w' v.ownBlock → ((∀ k, v.ownBlock ≠ some k → (Value.slice a' (n + m) c').ownBlock = some k → w.heap.size ≤ k)) →
      K (a.put o.dst (.slice a' (n + m) c')) w') : if Region.wanted o (yielded ops a.tmps) = true then Oper.wp P o a w K Q else E := by
  have hw : Region.wanted o (yielded ops a.tmps) = true := by simp [Region.wanted, hgd]
  rw [if_pos hw]
  obtain ⟨v', w', hr, h2, h3, h4⟩ := run_append_any (P := P) t o.type e i z size bytes ht hi hz hsize hby hzs hsz hown hx h1 h63 hbytes
  unfold Oper.wp execOp
  simp only [ho, resolve, invoke, builtin, Sem.run_bind, Sem.run_pure, Result.andThen_ok, List.map_toArray, List.map_cons, List.map_nil, hs, hx', hr]
  obtain ⟨a', c', rfl⟩ := h2.slice
  refine h a' c' w' h2 h3 fun k hk he => ?_
  rcases h4 with h4 | ⟨g, h4, hle⟩
  · exact absurd (h4.symm.trans he) hk
  · rw [he] at h4; injection h4 with h4; omega

/-- A callee that leaves the world alone, met in a quiet region behind another one. -/
theorem quiet_more {P : Program} {f : FuncId} {args : Array Value} {w : World} {a n : Nat} {v : Value}
    (h : Calls P f args (w.drewN (a + n)) fun e w' => e = .returned v ∧ w' = w.drewN (a + n)) :
    Calls P f args (w.drewN (a + n)) fun e w'' => e = .returned v ∧ ∃ m, w'' = w.drewN (a + m) :=
  h.mono fun _ _ ⟨he, hm⟩ => ⟨he, n, hm⟩

theorem alloc3 (w : World) (A B C : Obj) : (((w.alloc A).alloc B).alloc C).heap[w.heap.size]? = some A ∧ (((w.alloc A).alloc B).alloc C).heap[w.heap.size + 1]? = some B ∧
    (((w.alloc A).alloc B).alloc C).heap[w.heap.size + 1 + 1]? = some C := by
  refine ⟨?_, ?_, ?_⟩
  · show (((w.heap.push A).push B).push C)[w.heap.size]? = some A
    rw [Array.getElem?_push, if_neg (by simp only [Array.size_push]; omega), Array.getElem?_push, if_neg (by simp only [Array.size_push]; omega), Array.getElem?_push, if_pos rfl]
  · show (((w.heap.push A).push B).push C)[w.heap.size + 1]? = some B
    rw [Array.getElem?_push, if_neg (by simp only [Array.size_push]; omega), Array.getElem?_push, if_pos (by simp only [Array.size_push])]
  · show (((w.heap.push A).push B).push C)[w.heap.size + 1 + 1]? = some C
    rw [Array.getElem?_push, if_pos (by simp only [Array.size_push])]

/-- A slice of bytes doesn't lie in a block that holds no byte. -/
theorem bytes_apart {w : World} {p : Nat} {cs : Array Value} {T : TypeId} {fr : Nat × Nat} (hrow : w.heap[p]? = some (.cells cs T fr)) (hcs : ∀ u ∈ cs.toList, ∀ n, u ≠ .int .u8 n)
    {v : Value} {n : Nat} {x : List UInt8} (hx : Sl w 1 v n (bytes x)) : ∀ k, v.ownBlock = some k → bytes x ≠ [] → k ≠ p := by
  rintro k hk hne rfl
  have hlen : 0 < (bytes x).length := List.length_pos_iff.2 hne
  obtain ⟨a, c, rfl, hl, hm, hc⟩ := hx
  obtain ⟨g, off, rfl, hg, hcell⟩ := Sl.open_ (⟨a, c, rfl, hl, hm, hc⟩ : Sl w 1 (.slice a n c) n (bytes x)) hlen
  have hkg : g = k := by simpa [Value.ownBlock] using hk
  subst hkg
  cases x with
  | nil => exact hne rfl
  | cons b r =>
    have h := hcell 0 _ (by simp [bytes]; rfl)
    rw [cell_of_row w g _ cs T fr hrow] at h
    exact hcs _ (Array.mem_toList_iff.2 (Array.mem_of_getElem? h)) _ rfl

/-! ### What comes in -/
theorem u8_of_wf {z : Int} (h : (Lit.int .u8 z).wf = true) : ((UInt8.ofNat z.toNat).toNat : Int) = z := by
  have := bounds_u8 h
  rw [UInt8.toNat_ofNat']
  omega
/-- A slice of bytes that came in, as the frame tells of it. -/
theorem sl_of_row {w : World} {a : Option Addr} {len cap : Nat} {zs : List Int}
    (h : (a = none ∧ len = 0 ∧ cap = 0 ∧ zs = []) ∨ ∃ x, a = some x ∧ len ≤ cap ∧ cap ≤ maxLen ∧ zs.length = cap ∧ (∀ i, i < zs.length → w.cell? (x.add i) = some (.int .u8 (zs.getD i 0))) ∧ ∀ n ∈ zs, (Lit.int .u8 n).wf = true) :
    ∃ l : List UInt8, l.length = len ∧ Sl w 1 (.slice a len cap) len (bytes l) ∧ len ≤ cap ∧ len ≤ 9223372036854775807 := by
  rcases h with ⟨rfl, rfl, rfl, rfl⟩ | ⟨x, rfl, hl, hm, hz, hc, hw⟩
  · exact ⟨[], rfl, ⟨none, 0, rfl, rfl, by omega, fun h => absurd rfl h⟩, Nat.le_refl _, by omega⟩
  · have hm' : cap ≤ 9223372036854775807 := by simp only [maxLen] at hm; omega
    refine ⟨(zs.take len).map fun z => UInt8.ofNat z.toNat, by simp; omega, ⟨_, cap, rfl, by simp [bytes]; omega, by omega, fun _ => ⟨x, rfl, fun j u hj => ?_⟩⟩, hl, by omega⟩
    simp only [bytes, List.map_map, List.getElem?_map, Option.map_eq_some_iff] at hj
    obtain ⟨z, hz1, rfl⟩ := hj
    rw [List.getElem?_take] at hz1
    split at hz1
    · rename_i hjl
      have hlt : j < zs.length := by omega
      rw [hc j hlt]
      have : zs.getD j 0 = z := by simp [List.getD_eq_getElem?_getD, hz1]
      rw [this]
      simp only [Function.comp]
      rw [u8_of_wf (hw z (List.mem_of_getElem? hz1))]
    · cases hz1
end Go.Proofs.Ythnbinlllmkabaa
