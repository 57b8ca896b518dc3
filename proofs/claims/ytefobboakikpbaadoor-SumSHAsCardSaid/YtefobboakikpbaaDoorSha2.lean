/- The contract of sum's block: one block of SHA-256. -/
import Derived.Test.YtefobboakikpbaaDoorSha1
import Derived.Laws.ResultCell
namespace Go.Proofs.YtefobboakikpbaaDoor
open Go.RowKit
set_option linter.unusedVariables false
set_option linter.unusedSimpArgs false

def stCells (s : St) : Array Value := #[.int .u32 (s.a : Nat), .int .u32 (s.b : Nat), .int .u32 (s.c : Nat), .int .u32 (s.d : Nat), .int .u32 (s.e : Nat), .int .u32 (s.f : Nat), .int .u32 (s.g : Nat), .int .u32 (s.h : Nat)]
/-- The words K stand in the program's variable. -/
def KeysAt (w : World) : Prop := ∀ i, i < 64 → w.cell? ⟨2, i, none⟩ = some (.int .u32 (keys.getD i 0 : Nat))

/-- The schedule's array behind k rounds. -/
def schedCells (l : List Nat) : Array Value := ((l.map fun x => Value.int .u32 (x : Nat)) ++ List.replicate (64 - l.length) (Value.int .u32 0)).toArray
theorem schedCells_get (l : List Nat) (j : Nat) (h : j < l.length) : (schedCells l)[j]? = some (.int .u32 (l.getD j 0 : Nat)) := by
  unfold schedCells
  rw [List.getElem?_toArray, List.getElem?_append_left (by simpa using h)]
  simp [h]
theorem schedCells_spare (l : List Nat) (h : l.length < 64) : (schedCells l)[l.length]? = some (.int .u32 0) := by
  unfold schedCells
  rw [List.getElem?_toArray, List.getElem?_append_right (by simp), List.getElem?_replicate, if_pos (by simp; omega)]
theorem schedCells_set (l : List Nat) (x : Nat) (h : l.length < 64) : (schedCells l).setIfInBounds l.length (.int .u32 (x : Nat)) = schedCells (l ++ [x]) := by
  unfold schedCells
  apply Array.ext'
  simp only [Array.toList_setIfInBounds, List.map_append, List.length_append, List.length_cons, List.length_nil]
  rw [List.set_append_right _ _ (by simp)]
  have e : 64 - l.length = (64 - (l.length + (0 + 1))) + 1 := by omega
  rw [e, List.replicate_succ]
  simp

theorem word4_bits (x0 x1 x2 x3 : Nat) (h0 : x0 < 256) (h1 : x1 < 256) (h2 : x2 < 256) (h3 : x3 < 256) :
    bits BinOp.or IntKind.u32 (bits BinOp.or IntKind.u32 (bits BinOp.or IntKind.u32 ((x0 : Int) * 16777216) ((x1 : Int) * 65536)) ((x2 : Int) * 256)) (x3 : Int) =
      ((x0 * 16777216 + x1 * 65536 + x2 * 256 + x3 : Nat) : Int) := by
  have e0 : (x0 : Int) * 16777216 = ((x0 * 16777216 : Nat) : Int) := by omega
  have e1 : (x1 : Int) * 65536 = ((x1 * 65536 : Nat) : Int) := by omega
  have e2 : (x2 : Int) * 256 = ((x2 * 256 : Nat) : Int) := by omega
  rw [e0, e1, e2, u32_or_nat _ _ (by omega) (by omega), nat_join 24 _ _ (by omega) (by omega), u32_or_nat _ _ (by omega) (by omega), nat_join 16 _ _ (by omega) (by omega),
    u32_or_nat _ _ (by omega) (by omega), nat_join 8 _ _ (by omega) (by omega)]
theorem rel_sched (w wr : World) (s : St) (b : List UInt8) (k : Nat) (x : Int) (hx : x = (nextWord b (sched b k) : Nat)) (hk : k < 64) (Z : Array Value)
    (h0 : wr.heap[w.heap.size]? = some (.cells (stCells s) 86 (0, 0))) (h1 : wr.heap[w.heap.size + 1]? = some (.cells Z 86 (0, 0)))
    (h2 : wr.heap[w.heap.size + 1 + 1]? = some (.cells (schedCells (sched b k)) 103 (0, 0))) (hb : Below w.heap.size w wr) :
    (wr.setCell ⟨w.heap.size + 1 + 1, k, none⟩ (.int .u32 x)).heap[w.heap.size]? = some (.cells (stCells s) 86 (0, 0)) ∧
    (wr.setCell ⟨w.heap.size + 1 + 1, k, none⟩ (.int .u32 x)).heap[w.heap.size + 1]? = some (.cells Z 86 (0, 0)) ∧
    (wr.setCell ⟨w.heap.size + 1 + 1, k, none⟩ (.int .u32 x)).heap[w.heap.size + 1 + 1]? = some (.cells (schedCells (sched b (k + 1))) 103 (0, 0)) ∧
    Below w.heap.size w (wr.setCell ⟨w.heap.size + 1 + 1, k, none⟩ (.int .u32 x)) := by
  have hl := sched_length b k
  refine ⟨(heap_setCell_other _ _ _ _ (by simp; omega)).trans h0, (heap_setCell_other _ _ _ _ (by simp)).trans h1, ?_, hb.setCell (by simp; omega) _⟩
  rw [heap_setCell_same _ _ _ _ _ _ h2, hx]
  have := schedCells_set (sched b k) (nextWord b (sched b k)) (by omega)
  rw [hl] at this
  rw [this]; rfl
theorem sched_bits (y16 y15 y7 y2 : Nat) (h15 : y15 < 4294967296) (h2 : y2 < 4294967296) :
    ((y16 : Int) + bits BinOp.xor IntKind.u32 (bits BinOp.xor IntKind.u32 (rotr y15 7 : Nat) (rotr y15 18 : Nat)) ((y15 : Int) / 8) + (y7 : Int) +
      bits BinOp.xor IntKind.u32 (bits BinOp.xor IntKind.u32 (rotr y2 17 : Nat) (rotr y2 19 : Nat)) ((y2 : Int) / 1024)) % 4294967296 =
      (((y16 + sig0 y15 + y7 + sig1 y2) % 4294967296 : Nat) : Int) := by
  have e1 : (y15 : Int) / 8 = ((y15 / 8 : Nat) : Int) := rfl
  have e2 : (y2 : Int) / 1024 = ((y2 / 1024 : Nat) : Int) := rfl
  rw [e1, e2, u32_xor_nat _ _ (rotr_lt _ _ h15) (rotr_lt _ _ h15), u32_xor_nat _ _ (lt32_xor (rotr_lt _ _ h15) (rotr_lt _ _ h15)) (lt32_div h15),
    u32_xor_nat _ _ (rotr_lt _ _ h2) (rotr_lt _ _ h2), u32_xor_nat _ _ (lt32_xor (rotr_lt _ _ h2) (rotr_lt _ _ h2)) (lt32_div h2)]
  rfl
theorem nextWord_low (b : List UInt8) (k : Nat) (hk : k < 16) : nextWord b (sched b k) = word4 b k := by
  unfold nextWord; rw [sched_length, if_pos hk]
theorem nextWord_high (b : List UInt8) (k : Nat) (hk : ¬ k < 16) : nextWord b (sched b k) =
    ((sched b k).getD (k - 16) 0 + sig0 ((sched b k).getD (k - 15) 0) + (sched b k).getD (k - 7) 0 + sig1 ((sched b k).getD (k - 2) 0)) % 4294967296 := by
  unfold nextWord; rw [sched_length, if_neg hk]
theorem sched_getD_lt (b : List UInt8) (k j : Nat) : (sched b k).getD j 0 < 4294967296 := by
  rw [List.getD_eq_getElem?_getD]
  cases h : (sched b k)[j]? with
  | none => simp
  | some x => exact sched_lt b k x (List.mem_of_getElem? h)

theorem not_bits (e : Nat) (he : e < 4294967296) : bits BinOp.xor IntKind.u32 IntKind.u32.max (e : Int) = ((4294967295 - e : Nat) : Int) := by
  have hm : IntKind.u32.max = ((4294967295 : Nat) : Int) := by decide +kernel
  rw [hm, u32_xor_nat 4294967295 e (by decide) he]
  congr 1
  apply Nat.eq_of_testBit_eq
  intro i
  have h2 : (4294967295 - e : Nat) = 2 ^ 32 - (e + 1) := by omega
  rw [h2, Nat.testBit_two_pow_sub_succ (show e < 2 ^ 32 from he), Nat.testBit_xor, show (4294967295 : Nat) = 2 ^ 32 - 1 from rfl, Nat.testBit_two_pow_sub_one]
  by_cases hi : i < 32
  · simp [hi]
  · have : e.testBit i = false := Nat.testBit_lt_two_pow (Nat.lt_of_lt_of_le he (Nat.pow_le_pow_right (n := 2) (by decide) (show 32 ≤ i by omega)))
    simp [hi, this]
theorem sum_step (a b : Nat) : ∃ t : Nat, t = (a + b) % 4294967296 ∧ IntKind.u32.wrap ((a : Int) + (b : Int)) = (t : Int) ∧ ((a : Int) + (b : Int)) % 4294967296 = (t : Int) := by
  refine ⟨_, rfl, ?_, ?_⟩
  · rw [IntKind.wrap_u32]; omega
  · omega
theorem xor_step (a b : Nat) (ha : a < 4294967296) (hb : b < 4294967296) : ∃ t : Nat, t = a ^^^ b ∧ t < 4294967296 ∧ bits BinOp.xor IntKind.u32 (a : Int) (b : Int) = (t : Int) := ⟨_, rfl, lt32_xor ha hb, u32_xor_nat _ _ ha hb⟩
theorem and_step (a b : Nat) (ha : a < 4294967296) (hb : b < 4294967296) : ∃ t : Nat, t = a &&& b ∧ t < 4294967296 ∧ bits BinOp.and IntKind.u32 (a : Int) (b : Int) = (t : Int) := ⟨_, rfl, lt32_and ha, u32_and_nat _ _ ha hb⟩
theorem set8 (w : World) (p : Nat) (T : TypeId) (c0 c1 c2 c3 c4 c5 c6 c7 : Value) (h : w.heap[p]? = some (.cells #[c0, c1, c2, c3, c4, c5, c6, c7] T (0, 0))) (v0 v1 v2 v3 v4 v5 v6 v7 : Value) :
    ((((((((w.setCell ⟨p, 0, none⟩ v0).setCell ⟨p, 1, none⟩ v1).setCell ⟨p, 2, none⟩ v2).setCell ⟨p, 3, none⟩ v3).setCell ⟨p, 4, none⟩ v4).setCell ⟨p, 5, none⟩ v5).setCell ⟨p, 6, none⟩ v6).setCell ⟨p, 7, none⟩ v7).heap[p]? =
      some (.cells #[v0, v1, v2, v3, v4, v5, v6, v7] T (0, 0)) := by
  have h0 := heap_setCell_same _ p 0 _ _ v0 h
  simp at h0
  have h1 := heap_setCell_same _ p 1 _ _ v1 h0
  simp at h1
  have h2 := heap_setCell_same _ p 2 _ _ v2 h1
  simp at h2
  have h3 := heap_setCell_same _ p 3 _ _ v3 h2
  simp at h3
  have h4 := heap_setCell_same _ p 4 _ _ v4 h3
  simp at h4
  have h5 := heap_setCell_same _ p 5 _ _ v5 h4
  simp at h5
  have h6 := heap_setCell_same _ p 6 _ _ v6 h5
  simp at h6
  have h7 := heap_setCell_same _ p 7 _ _ v7 h6
  simp at h7
  exact h7

theorem round_eq (r : St) (kk ww : Nat) : ∀ t1 t2 t3 x z1 y n d, t1 = (r.h + big1 r.e) % 4294967296 → t2 = (t1 + choose r.e r.f r.g) % 4294967296 → t3 = (t2 + kk) % 4294967296 → x = (t3 + ww) % 4294967296 →
    z1 = big0 r.a → y = (z1 + most r.a r.b r.c) % 4294967296 → n = (x + y) % 4294967296 → d = (r.d + x) % 4294967296 → r.round kk ww = ⟨n, r.a, r.b, r.c, d, r.e, r.f, r.g⟩ := by
  intro t1 t2 t3 x z1 y n d h1 h2 h3 h4 h5 h6 h7 h8
  have hx : x = (r.h + big1 r.e + choose r.e r.f r.g + kk + ww) % 4294967296 := by omega
  unfold St.round
  simp only
  rw [← hx, ← h5, ← h6, ← h7, ← h8]

/-- The words added one by one: behind k of them. -/
def addCells (s t : St) (k : Nat) : Array Value := ((List.range 8).map fun j => Value.int .u32 ((if j < k then ((stList s).getD j 0 + (stList t).getD j 0) % 4294967296 else (stList s).getD j 0 : Nat) : Int)).toArray
theorem addCells_zero (s t : St) : addCells s t 0 = stCells s := by
  simp [addCells, stCells, stList, List.range, List.range.loop]
theorem addCells_all (s t : St) : addCells s t 8 = stCells (s.add t) := by
  simp [addCells, stCells, stList, List.range, List.range.loop, St.add]
theorem addCells_get (s t : St) (k : Nat) (hk : k < 8) : (addCells s t k)[k]? = some (.int .u32 ((stList s).getD k 0 : Nat)) := by
  unfold addCells
  rw [List.getElem?_toArray, List.getElem?_map, List.getElem?_range hk]
  simp
theorem stCells_get (t : St) (k : Nat) (hk : k < 8) : (stCells t)[k]? = some (.int .u32 ((stList t).getD k 0 : Nat)) := by
  have h := addCells_get t t k hk
  rcases (by omega : k = 0 ∨ k = 1 ∨ k = 2 ∨ k = 3 ∨ k = 4 ∨ k = 5 ∨ k = 6 ∨ k = 7) with rfl | rfl | rfl | rfl | rfl | rfl | rfl | rfl <;> rfl
theorem addCells_set (s t : St) (k : Nat) (hk : k < 8) : (addCells s t k).setIfInBounds k (.int .u32 (((stList s).getD k 0 + (stList t).getD k 0) % 4294967296 : Nat)) = addCells s t (k + 1) := by
  unfold addCells
  apply Array.ext'
  simp only [Array.toList_setIfInBounds]
  apply List.ext_getElem?
  intro i
  rw [List.getElem?_set]
  by_cases hik : k = i
  · subst hik
    simp [hk, List.getElem?_range]
  · rw [if_neg hik]
    by_cases hi : i < 8
    · simp only [List.getElem?_map, List.getElem?_range hi, Option.map_some]
      by_cases h : i < k
      · rw [if_pos h, if_pos (by omega)]
      · rw [if_neg h, if_neg (by omega)]
    · rw [List.getElem?_eq_none (by simp; omega), List.getElem?_eq_none (by simp; omega)]

set_option maxHeartbeats 4000000 in
set_option maxRecDepth 100000 in
theorem block_any (w : World) (s : St) (hs : s.Ok) (a : Option Addr) (c : Nat) (b : List UInt8) (hb : Sl w 1 (.slice a 64 c) 64 (bytes b)) (hl : b.length = 64) (hk : KeysAt w) :
    Calls Tryd.prog 42 #[.agg (stCells s), .slice a 64 c] w fun e w' => e = .returned (.agg (stCells (blockOf s b))) ∧ Below w.heap.size w w' := by
  unfold stCells
  go_enter Tryd.func42, Tryd.ntmps42
  go_wp2_with fail
  have Hb := Lib.hid hb
  have Hk := Lib.hid hk
  clear hb hk
  go_loopw [16] (fun i wr => ∃ k : Nat, k ≤ 64 ∧ i = .int .i64 k ∧ wr.heap[w.heap.size]? = some (.cells (stCells s) 86 (0, 0)) ∧
      wr.heap[w.heap.size + 1]? = some (.cells #[.int .u32 0, .int .u32 0, .int .u32 0, .int .u32 0, .int .u32 0, .int .u32 0, .int .u32 0, .int .u32 0] 86 (0, 0)) ∧
      wr.heap[w.heap.size + 1 + 1]? = some (.cells (schedCells (sched b k)) 103 (0, 0)) ∧ Below w.heap.size w wr) (fun i _ => 64 - (intOf i).toNat)
  case atStart => exact ⟨0, by omega, rfl, (alloc3 w _ _ _).1, (alloc3 w _ _ _).2.1, (alloc3 w _ _ _).2.2, (((Below.refl _ _).alloc (Nat.le_refl _) _).alloc (by simp) _).alloc (by simp; omega) _⟩
  case round =>
    obtain ⟨k, hk, rfl, h0, h1, h2, hbe⟩ := hrel
    have hsl := sched_length b k
    have H0 := Lib.hid h0
    have H1 := Lib.hid h1
    have H2 := Lib.hid h2
    have Hbe := Lib.hid hbe
    clear h0 h1 h2 hbe
    by_cases hk16 : k < 16
    ·
      obtain ⟨g, off, rfl, hgl, hc2⟩ := (Hb.out.below Hbe.out).open_ (by rw [bytes_length]; omega)
      have Hsl := Lib.hid hsl
      clear hsl
      have f0 := hc2 (4 * k) _ (bytes_getD b (4 * k) (by omega))
      obtain ⟨x0, hx0⟩ : ∃ x, x = (b.getD (4 * k) 0).toNat := ⟨_, rfl⟩
      have hb0 : x0 < 256 := by rw [hx0]; exact UInt8.toNat_lt _
      rw [← hx0] at f0
      have HX0 := Lib.hid hx0
      clear hx0
      have f1 := hc2 (4 * k + 1) _ (bytes_getD b (4 * k + 1) (by omega))
      obtain ⟨x1, hx1⟩ : ∃ x, x = (b.getD (4 * k + 1) 0).toNat := ⟨_, rfl⟩
      have hb1 : x1 < 256 := by rw [hx1]; exact UInt8.toNat_lt _
      rw [← hx1] at f1
      have HX1 := Lib.hid hx1
      clear hx1
      have f2 := hc2 (4 * k + 2) _ (bytes_getD b (4 * k + 2) (by omega))
      obtain ⟨x2, hx2⟩ : ∃ x, x = (b.getD (4 * k + 2) 0).toNat := ⟨_, rfl⟩
      have hb2 : x2 < 256 := by rw [hx2]; exact UInt8.toNat_lt _
      rw [← hx2] at f2
      have HX2 := Lib.hid hx2
      clear hx2
      have f3 := hc2 (4 * k + 3) _ (bytes_getD b (4 * k + 3) (by omega))
      obtain ⟨x3, hx3⟩ : ∃ x, x = (b.getD (4 * k + 3) 0).toNat := ⟨_, rfl⟩
      have hb3 : x3 < 256 := by rw [hx3]; exact UInt8.toNat_lt _
      rw [← hx3] at f3
      have HX3 := Lib.hid hx3
      clear hx3
      have g0 := cell_of_row wr _ k _ _ _ H2.out
      have g1 := frozen_of_row wr _ k _ _ H2.out
      have e1 := schedCells_spare (sched b k) (by rw [Hsl.out]; omega)
      rw [Hsl.out] at e1
      rw [e1] at g0
      clear e1 hc2
      have p0 : (0 : Int) ≤ 4 * k := by omega
      have p4 : (4 * (k : Int)).toNat = 4 * k := by omega
      have p5 : (4 * (k : Int) + 1).toNat = 4 * k + 1 := by omega
      have p6 : (4 * (k : Int) + 2).toNat = 4 * k + 2 := by omega
      have p7 : (4 * (k : Int) + 3).toNat = 4 * k + 3 := by omega
      have q0 : (4 * (k : Int)) < 64 := by omega
      have q1 : (4 * (k : Int) + 1) < 64 := by omega
      have q2 : (4 * (k : Int) + 2) < 64 := by omega
      have q3 : (4 * (k : Int) + 3) < 64 := by omega
      have p1 : (0 : Int) ≤ 4 * k + 1 := by omega
      have p2 : (0 : Int) ≤ 4 * k + 2 := by omega
      have p3 : (0 : Int) ≤ 4 * k + 3 := by omega
      have e0 : IntKind.i64.wrap (4 * (k : Int)) = 4 * k := IntWalk.i64_in _ (by omega)
      have e1 : IntKind.i64.wrap (4 * (k : Int) + 1) = 4 * k + 1 := IntWalk.i64_in _ (by omega)
      have e2 : IntKind.i64.wrap (4 * (k : Int) + 2) = 4 * k + 2 := IntWalk.i64_in _ (by omega)
      have e3 : IntKind.i64.wrap (4 * (k : Int) + 3) = 4 * k + 3 := IntWalk.i64_in _ (by omega)
      go_wp2_with fail
      go_still_tail 35, (by kernel_rfl)
      change wpList _ _ _ _ _ wr.drew
      clear e0 e1 e2 e3 p0 p1 p2 p3 p4 p5 p6 p7 q0 q1 q2 q3
      go_wp2
      go_roundw
      case rel =>
        have hx := word4_bits x0 x1 x2 x3 hb0 hb1 hb2 hb3
        rw [HX0.out, HX1.out, HX2.out, HX3.out] at hx
        rw [HX0.out, HX1.out, HX2.out, HX3.out]
        obtain ⟨r0, r1, r2, r3⟩ := rel_sched w wr s b k _ (hx.trans (by rw [nextWord_low b k hk16]; rfl)) (by omega) _ H0.out H1.out H2.out Hbe.out
        exact ⟨k + 1, by omega, by go_num, r0, r1, r2, r3.drew⟩
      case measure => simp [intOf]; omega
    · by_cases hk64 : k < 64
      ·
        have f16 := cell_of_row wr _ (k - 16) _ _ _ H2.out
        have f15 := cell_of_row wr _ (k - 15) _ _ _ H2.out
        have f7 := cell_of_row wr _ (k - 7) _ _ _ H2.out
        have f2 := cell_of_row wr _ (k - 2) _ _ _ H2.out
        rw [schedCells_get (sched b k) (k - 16) (by omega)] at f16
        obtain ⟨y16, hy16⟩ : ∃ y, y = (sched b k).getD (k - 16) 0 := ⟨_, rfl⟩
        have hb16 : y16 < 4294967296 := by rw [hy16]; exact sched_getD_lt _ _ _
        rw [← hy16] at f16
        have HY16 := Lib.hid hy16
        clear hy16
        have e16 : IntKind.i64.wrap ((k : Int) - 16) = k - 16 := IntWalk.i64_in _ (by omega)
        have p16 : (0 : Int) ≤ (k : Int) - 16 := by omega
        have s16 : (16 : Int) ≤ k := by omega
        have q16 : ((k : Int) - 16).toNat = k - 16 := by omega
        have r16 : (k : Int) - 16 < 64 := by omega
        rw [schedCells_get (sched b k) (k - 15) (by omega)] at f15
        obtain ⟨y15, hy15⟩ : ∃ y, y = (sched b k).getD (k - 15) 0 := ⟨_, rfl⟩
        have hb15 : y15 < 4294967296 := by rw [hy15]; exact sched_getD_lt _ _ _
        rw [← hy15] at f15
        have HY15 := Lib.hid hy15
        clear hy15
        have e15 : IntKind.i64.wrap ((k : Int) - 15) = k - 15 := IntWalk.i64_in _ (by omega)
        have p15 : (0 : Int) ≤ (k : Int) - 15 := by omega
        have s15 : (15 : Int) ≤ k := by omega
        have q15 : ((k : Int) - 15).toNat = k - 15 := by omega
        have r15 : (k : Int) - 15 < 64 := by omega
        rw [schedCells_get (sched b k) (k - 7) (by omega)] at f7
        obtain ⟨y7, hy7⟩ : ∃ y, y = (sched b k).getD (k - 7) 0 := ⟨_, rfl⟩
        have hb7 : y7 < 4294967296 := by rw [hy7]; exact sched_getD_lt _ _ _
        rw [← hy7] at f7
        have HY7 := Lib.hid hy7
        clear hy7
        have e7 : IntKind.i64.wrap ((k : Int) - 7) = k - 7 := IntWalk.i64_in _ (by omega)
        have p7 : (0 : Int) ≤ (k : Int) - 7 := by omega
        have s7 : (7 : Int) ≤ k := by omega
        have q7 : ((k : Int) - 7).toNat = k - 7 := by omega
        have r7 : (k : Int) - 7 < 64 := by omega
        rw [schedCells_get (sched b k) (k - 2) (by omega)] at f2
        obtain ⟨y2, hy2⟩ : ∃ y, y = (sched b k).getD (k - 2) 0 := ⟨_, rfl⟩
        have hb2 : y2 < 4294967296 := by rw [hy2]; exact sched_getD_lt _ _ _
        rw [← hy2] at f2
        have HY2 := Lib.hid hy2
        clear hy2
        have e2 : IntKind.i64.wrap ((k : Int) - 2) = k - 2 := IntWalk.i64_in _ (by omega)
        have p2 : (0 : Int) ≤ (k : Int) - 2 := by omega
        have s2 : (2 : Int) ≤ k := by omega
        have q2 : ((k : Int) - 2).toNat = k - 2 := by omega
        have r2 : (k : Int) - 2 < 64 := by omega
        have g0 := cell_of_row wr _ k _ _ _ H2.out
        have g1 := frozen_of_row wr _ k _ _ H2.out
        have e1 := schedCells_spare (sched b k) (by omega)
        rw [hsl] at e1
        rw [e1] at g0
        have Hsl := Lib.hid hsl
        clear e1 hsl
        go_wp2_with fail
        go_quiet (fail)
        go_wp2_with fail
        generalize hwq : wr.drewN nq = wq
        have f16 : wq.cell? ⟨w.heap.size + 1 + 1, k - 16, none⟩ = some (.int .u32 y16) := by rw [← hwq]; exact f16
        have f7 : wq.cell? ⟨w.heap.size + 1 + 1, k - 7, none⟩ = some (.int .u32 y7) := by rw [← hwq]; exact f7
        have g0 : wq.cell? ⟨w.heap.size + 1 + 1, k, none⟩ = some (.int .u32 0) := by rw [← hwq]; exact g0
        have g1 : wq.frozen? ⟨w.heap.size + 1 + 1, k, none⟩ = false := by rw [← hwq]; exact g1
        have Hwq := Lib.hid hwq
        clear hwq f15 f2
        refine wp_region_still_tail 29 (by kernel_rfl) (by kernel_rfl) ?_
        simp only [List.take_succ_cons, List.take_zero, List.drop_succ_cons, List.drop_zero]
        repeat still_step
        still_call (right_7 y15 hb15 _)
        repeat still_step
        still_call (right_18 y15 hb15 _)
        repeat still_step
        still_call (right_17 y2 hb2 _)
        repeat still_step
        still_call (right_19 y2 hb2 _)
        repeat still_step
        refine wpStill_nil ?_
        change wpList _ _ _ _ _ wq.drew
        clear s16 s15 s7 s2 e16 e15 e7 e2 p16 p15 p7 p2 q16 q15 q7 q2 r16 r15 r7 r2
        go_wp2
        go_roundw
        case rel =>
          have hx := sched_bits y16 y15 y7 y2 hb15 hb2
          rw [HY16.out, HY15.out, HY7.out, HY2.out] at hx
          rw [HY16.out, HY15.out, HY7.out, HY2.out]
          obtain rfl := Hwq.out
          obtain ⟨r0, r1, r2, r3⟩ := rel_sched w wr s b k _ (hx.trans (by rw [nextWord_high b k hk16])) hk64 _ H0.out H1.out H2.out Hbe.out
          exact ⟨k + 1, by omega, by go_num, r0, r1, r2, ⟨r3.os, r3.tape, r3.output, r3.size, r3.block⟩⟩
        case measure => simp [intOf]; omega
      · have Hk64 := Lib.hid (show k = 64 by omega)
        have H2 : Hid (wr.heap[w.heap.size + 1 + 1]? = some (.cells (schedCells (sched b 64)) 103 (0, 0))) := by rw [← Hk64.out]; exact H2.out
        clear hsl
        have f0 := cell_of_row wr _ 0 _ _ _ H0.out
        simp only [stCells, List.getElem?_toArray, List.getElem?_cons_succ, List.getElem?_cons_zero] at f0
        have f1 := cell_of_row wr _ 1 _ _ _ H0.out
        simp only [stCells, List.getElem?_toArray, List.getElem?_cons_succ, List.getElem?_cons_zero] at f1
        have f2 := cell_of_row wr _ 2 _ _ _ H0.out
        simp only [stCells, List.getElem?_toArray, List.getElem?_cons_succ, List.getElem?_cons_zero] at f2
        have f3 := cell_of_row wr _ 3 _ _ _ H0.out
        simp only [stCells, List.getElem?_toArray, List.getElem?_cons_succ, List.getElem?_cons_zero] at f3
        have f4 := cell_of_row wr _ 4 _ _ _ H0.out
        simp only [stCells, List.getElem?_toArray, List.getElem?_cons_succ, List.getElem?_cons_zero] at f4
        have f5 := cell_of_row wr _ 5 _ _ _ H0.out
        simp only [stCells, List.getElem?_toArray, List.getElem?_cons_succ, List.getElem?_cons_zero] at f5
        have f6 := cell_of_row wr _ 6 _ _ _ H0.out
        simp only [stCells, List.getElem?_toArray, List.getElem?_cons_succ, List.getElem?_cons_zero] at f6
        have f7 := cell_of_row wr _ 7 _ _ _ H0.out
        simp only [stCells, List.getElem?_toArray, List.getElem?_cons_succ, List.getElem?_cons_zero] at f7
        go_wp2_with fail
        clear f0 f1 f2 f3 f4 f5 f6 f7
        go_loopw [95] (fun i wq => ∃ k : Nat, k ≤ 64 ∧ i = .int .i64 k ∧ wq.heap[wr.heap.size]? = some (.cells (stCells (rounds keys (sched b 64) s k)) 86 (0, 0)) ∧ Upd (fun _ => False) wr wq) (fun i _ => 64 - (intOf i).toNat)
        case atStart => exact ⟨0, by omega, rfl, heap_alloc_new _ _, (Upd.refl _ _).alloc _⟩
        case round =>
          rename World => wq
          obtain ⟨k', hk', rfl, h9, hu9⟩ := hrel
          have H9 := Lib.hid h9
          have Hu9 := Lib.hid hu9
          clear h9 hu9
          by_cases hlt : k' < 64
          ·
            have hwlt := sched_getD_lt b 64 k'
            obtain ⟨r, hr⟩ : ∃ r, r = rounds keys (sched b 64) s k' := ⟨_, rfl⟩
            have hro : r.Ok := by rw [hr]; exact hs.rounds _ _ _
            have h9 := H9.out
            rw [← hr] at h9
            have Hr := Lib.hid hr
            clear hr
            have f0 := cell_of_row wq _ 0 _ _ _ h9
            simp only [stCells, List.getElem?_toArray, List.getElem?_cons_succ, List.getElem?_cons_zero] at f0
            have g0 := frozen_of_row wq _ 0 _ _ h9
            have f1 := cell_of_row wq _ 1 _ _ _ h9
            simp only [stCells, List.getElem?_toArray, List.getElem?_cons_succ, List.getElem?_cons_zero] at f1
            have g1 := frozen_of_row wq _ 1 _ _ h9
            have f2 := cell_of_row wq _ 2 _ _ _ h9
            simp only [stCells, List.getElem?_toArray, List.getElem?_cons_succ, List.getElem?_cons_zero] at f2
            have g2 := frozen_of_row wq _ 2 _ _ h9
            have f3 := cell_of_row wq _ 3 _ _ _ h9
            simp only [stCells, List.getElem?_toArray, List.getElem?_cons_succ, List.getElem?_cons_zero] at f3
            have g3 := frozen_of_row wq _ 3 _ _ h9
            have f4 := cell_of_row wq _ 4 _ _ _ h9
            simp only [stCells, List.getElem?_toArray, List.getElem?_cons_succ, List.getElem?_cons_zero] at f4
            have g4 := frozen_of_row wq _ 4 _ _ h9
            have f5 := cell_of_row wq _ 5 _ _ _ h9
            simp only [stCells, List.getElem?_toArray, List.getElem?_cons_succ, List.getElem?_cons_zero] at f5
            have g5 := frozen_of_row wq _ 5 _ _ h9
            have f6 := cell_of_row wq _ 6 _ _ _ h9
            simp only [stCells, List.getElem?_toArray, List.getElem?_cons_succ, List.getElem?_cons_zero] at f6
            have g6 := frozen_of_row wq _ 6 _ _ h9
            have f7 := cell_of_row wq _ 7 _ _ _ h9
            simp only [stCells, List.getElem?_toArray, List.getElem?_cons_succ, List.getElem?_cons_zero] at f7
            have g7 := frozen_of_row wq _ 7 _ _ h9
            have fk := (Hbe.out.upd (Nat.le_refl _) Hu9.out (fun _ h => h.elim)).cell (block_lt_of_cell (Hk.out k' hlt))
            rw [Hk.out k' hlt] at fk
            have fw := cell_of_row wq _ k' _ _ _ (Hu9.out.at_ H2.out id)
            rw [schedCells_get _ _ (by rw [sched_length]; omega)] at fw
            obtain ⟨kk, hkk⟩ : ∃ x, x = keys.getD k' 0 := ⟨_, rfl⟩
            obtain ⟨ww, hww⟩ : ∃ x, x = (sched b 64).getD k' 0 := ⟨_, rfl⟩
            rw [← hkk] at fk
            rw [← hww] at fw hwlt
            have Hkk := Lib.hid hkk
            have Hww := Lib.hid hww
            clear hkk hww h9
            obtain ⟨v1, d_v1, l_v1, q_v1⟩ := xor_step (rotr r.e 6) (rotr r.e 11) (rotr_lt _ _ hro.e) (rotr_lt _ _ hro.e)
            obtain ⟨v2, d_v2, l_v2, q_v2⟩ := xor_step (v1) (rotr r.e 25) l_v1 (rotr_lt _ _ hro.e)
            obtain ⟨c1, d_c1, l_c1, q_c1⟩ := and_step (r.e) (r.f) hro.e hro.f
            obtain ⟨n1, d_n1, l_n1, q_n1⟩ : ∃ t : Nat, t = 4294967295 - r.e ∧ t < 4294967296 ∧ bits BinOp.xor IntKind.u32 IntKind.u32.max (r.e : Int) = (t : Int) := ⟨_, rfl, by omega, not_bits r.e hro.e⟩
            obtain ⟨c2, d_c2, l_c2, q_c2⟩ := and_step (n1) (r.g) l_n1 hro.g
            obtain ⟨c3, d_c3, l_c3, q_c3⟩ := xor_step (c1) (c2) l_c1 l_c2
            obtain ⟨v3, d_v3, l_v3, q_v3⟩ := xor_step (rotr r.a 2) (rotr r.a 13) (rotr_lt _ _ hro.a) (rotr_lt _ _ hro.a)
            obtain ⟨z1, d_z1, l_z1, q_z1⟩ := xor_step (v3) (rotr r.a 22) l_v3 (rotr_lt _ _ hro.a)
            obtain ⟨m1, d_m1, l_m1, q_m1⟩ := and_step (r.a) (r.b) hro.a hro.b
            obtain ⟨m2, d_m2, l_m2, q_m2⟩ := and_step (r.a) (r.c) hro.a hro.c
            obtain ⟨m3, d_m3, l_m3, q_m3⟩ := xor_step (m1) (m2) l_m1 l_m2
            obtain ⟨m4, d_m4, l_m4, q_m4⟩ := and_step (r.b) (r.c) hro.b hro.c
            obtain ⟨m5, d_m5, l_m5, q_m5⟩ := xor_step (m3) (m4) l_m3 l_m4
            have PA := Lib.hid ((And.intro f5 (And.intro f6 (And.intro f7 (And.intro fk (And.intro fw (And.intro q_v1 (And.intro q_v2 (And.intro q_c1 (And.intro q_n1 (And.intro q_c2 q_c3)))))))))))
            have PB := Lib.hid ((And.intro f1 (And.intro f2 (And.intro q_v3 (And.intro q_z1 (And.intro q_m1 (And.intro q_m2 (And.intro q_m3 (And.intro q_m4 q_m5)))))))))
            have PC := Lib.hid ((And.intro f0 (And.intro f1 (And.intro f2 (And.intro f3 (And.intro f4 (And.intro f5 (And.intro f6 (And.intro f7 (And.intro g0 (And.intro g1 (And.intro g2 (And.intro g3 (And.intro g4 (And.intro g5 (And.intro g6 (And.intro g7 (And.intro q_n1 (And.intro q_c2 q_c3)))))))))))))))))))
            have PD := Lib.hid ((And.intro d_v1 (And.intro d_v2 (And.intro d_c1 (And.intro d_n1 (And.intro d_c2 (And.intro d_c3 (And.intro d_v3 (And.intro d_z1 (And.intro d_m1 (And.intro d_m2 (And.intro d_m3 (And.intro d_m4 d_m5)))))))))))))
            have PO := Lib.hid hro
            have f4' := f4
            have f0' := f0
            clear f0 f1 f2 f3 f4 f5 f6 f7 g0 g1 g2 g3 g4 g5 g6 g7 q_v1 q_v2 q_c1 q_n1 q_c2 q_c3 q_v3 q_z1 q_m1 q_m2 q_m3 q_m4 q_m5 d_v1 d_v2 d_c1 d_n1 d_c2 d_c3 d_v3 d_z1 d_m1 d_m2 d_m3 d_m4 d_m5 l_v1 l_v2 l_c1 l_n1 l_c2 l_c3 l_v3 l_z1 l_m1 l_m2 l_m3 l_m4 l_m5 hwlt fk fw hro
            go_wp2_with fail
            go_quiet (fail)
            clear f4' f0'
            obtain ⟨f5, f6, f7, fk, fw, q_v1, q_v2, q_c1, q_n1, q_c2, q_c3⟩ := PA.out
            go_wp2_with fail
            go_quiet (first | exact quiet_more (right_6 r.e PO.out.e _) | exact quiet_more (right_11 r.e PO.out.e _) | exact quiet_more (right_25 r.e PO.out.e _))
            clear f5 f6 f7 fk fw q_v1 q_v2 q_c1 q_n1 q_c2 q_c3
            obtain ⟨f1, f2, q_v3, q_z1, q_m1, q_m2, q_m3, q_m4, q_m5⟩ := PB.out
            go_wp2_with fail
            go_quiet (first | exact quiet_more (right_2 r.a PO.out.a _) | exact quiet_more (right_13 r.a PO.out.a _) | exact quiet_more (right_22 r.a PO.out.a _))
            clear f1 f2 q_v3 q_z1 q_m1 q_m2 q_m3 q_m4 q_m5
            obtain ⟨f0, f1, f2, f3, f4, f5, f6, f7, g0, g1, g2, g3, g4, g5, g6, g7, q_n1, q_c2, q_c3⟩ := PC.out
            go_wp2
            go_roundw
            case rel =>
              obtain ⟨d_v1, d_v2, d_c1, d_n1, d_c2, d_c3, d_v3, d_z1, d_m1, d_m2, d_m3, d_m4, d_m5⟩ := PD.out
              have hr' : (r.round kk ww) = rounds keys (sched b 64) s (k' + 1) := by rw [rounds, ← Hr.out, Hkk.out, Hww.out]
              have hre : ∀ (n d : Nat), n = (r.h + v2 + c3 + kk + ww + (z1 + m5)) % 4294967296 → d = (r.d + (r.h + v2 + c3 + kk + ww)) % 4294967296 → r.round kk ww = ⟨n, r.a, r.b, r.c, d, r.e, r.f, r.g⟩ := by
                intro n d hn hd
                refine round_eq r kk ww _ _ _ _ z1 _ n d rfl rfl rfl rfl (by rw [d_z1, d_v3]; rfl) rfl ?_ ?_
                · have e1 : big1 r.e = v2 := by rw [d_v2, d_v1]; rfl
                  have e2 : choose r.e r.f r.g = c3 := by rw [d_c3, d_c1, d_c2, d_n1]; rfl
                  have e3 : most r.a r.b r.c = m5 := by rw [d_m5, d_m3, d_m1, d_m2, d_m4]; rfl
                  rw [e1, e2, e3, hn]; omega
                · have e1 : big1 r.e = v2 := by rw [d_v2, d_v1]; rfl
                  have e2 : choose r.e r.f r.g = c3 := by rw [d_c3, d_c1, d_c2, d_n1]; rfl
                  rw [e1, e2, hd]; omega
              have hn : (((r.h : Int) + v2 + c3 + kk + ww + (z1 + m5)) % 4294967296) = (((r.h + v2 + c3 + kk + ww + (z1 + m5)) % 4294967296 : Nat) : Int) := by omega
              have hd : (((r.d : Int) + (r.h + v2 + c3 + kk + ww)) % 4294967296) = (((r.d + (r.h + v2 + c3 + kk + ww)) % 4294967296 : Nat) : Int) := by omega
              rw [hn, hd]
              have hre := hre _ _ rfl rfl
              generalize (r.h + v2 + c3 + kk + ww + (z1 + m5)) % 4294967296 = nn at *
              generalize (r.d + (r.h + v2 + c3 + kk + ww)) % 4294967296 = dd at *
              have h := H9.out
              rw [← Hr.out] at h
              have hset := fun (n : Nat) => set8 (wq.drewN n) wr.heap.size _ _ _ _ _ _ _ _ _ h
              refine ⟨k' + 1, hlt, by go_num, ?_, ?_⟩
              · rw [← hr', hre]
                with_reducible refine (hset _ _ _ _ _ _ _ _ _).trans ?_
                rfl
              · have hu := Hu9.out
                repeat (first | (with_reducible refine Upd.setCell ?_ _ _ (fun h => absurd h (Nat.lt_irrefl _))) | (with_reducible refine Upd.drewN ?_ _))
                exact hu
            case measure => simp [intOf]; omega
          · have Hk'64 := Lib.hid (show k' = 64 by omega)
            have h9 := H9.out
            rw [Hk'64.out] at h9
            obtain ⟨R, hR⟩ : ∃ R, R = rounds keys (sched b 64) s 64 := ⟨_, rfl⟩
            rw [← hR] at h9
            have HR := Lib.hid hR
            clear H9
            have H9 := Lib.hid h9
            clear hR h9
            have hle : w.heap.size + 1 + 1 < wr.heap.size := lt_heap H2.out
            go_wp2_with fail
            go_loopw [177] (fun i wz => ∃ k : Nat, k ≤ 8 ∧ i = .int .i64 k ∧ wz.heap[w.heap.size]? = some (.cells (addCells s R k) 86 (0, 0)) ∧
                wz.heap[w.heap.size + 1]? = some (.cells #[.int .u32 0, .int .u32 0, .int .u32 0, .int .u32 0, .int .u32 0, .int .u32 0, .int .u32 0, .int .u32 0] 86 (0, 0)) ∧
                wz.heap[wr.heap.size]? = some (.cells (stCells R) 86 (0, 0)) ∧ Below w.heap.size w wz) (fun i _ => 8 - (intOf i).toNat)
            case atStart => exact ⟨0, by omega, rfl, by rw [addCells_zero]; exact Hu9.out.at_ H0.out id, Hu9.out.at_ H1.out id, H9.out, Hbe.out.upd (Nat.le_refl _) Hu9.out (fun _ h => h.elim)⟩
            case round =>
              rename World => wz
              obtain ⟨k3, hk3, rfl, h0, h1, h9, hbz⟩ := hrel
              by_cases hlt3 : k3 < 8
              · have f0 := cell_of_row wz _ k3 _ _ _ h0
                rw [addCells_get s R k3 hlt3] at f0
                have f1 := cell_of_row wz _ k3 _ _ _ h9
                rw [stCells_get R k3 hlt3] at f1
                have g0 := frozen_of_row wz _ k3 _ _ h0
                obtain ⟨x, hx⟩ : ∃ x, x = (stList s).getD k3 0 := ⟨_, rfl⟩
                obtain ⟨y, hy⟩ : ∃ y, y = (stList R).getD k3 0 := ⟨_, rfl⟩
                rw [← hx] at f0
                rw [← hy] at f1
                have HX := Lib.hid hx
                have HY := Lib.hid hy
                have H0z := Lib.hid h0
                have H1z := Lib.hid h1
                have H9z := Lib.hid h9
                have Hbz := Lib.hid hbz
                clear hx hy h0 h1 h9 hbz
                go_wp2_with fail
                go_still_tail 8, (by kernel_rfl)
                change wpList _ _ _ _ _ wz.drew
                go_wp2
                go_roundw
                case rel =>
                  have e : (((x : Int) + y) % 4294967296) = (((stList s).getD k3 0 + (stList R).getD k3 0) % 4294967296 : Nat) := by rw [← HX.out, ← HY.out]; omega
                  rw [e]
                  refine ⟨k3 + 1, by omega, by go_num, ?_, (heap_setCell_other _ _ _ _ (by simp)).trans H1z.out, (heap_setCell_other _ _ _ _ (by simp; omega)).trans H9z.out, ?_⟩
                  · rw [← addCells_set s R k3 hlt3]
                    exact heap_setCell_same _ _ _ _ _ _ H0z.out
                  · exact (Hbz.out.setCell (Nat.le_refl _) _).drew
                case measure => simp [intOf]; omega
              · have Hk3 := Lib.hid (show k3 = 8 by omega)
                rw [Hk3.out, addCells_all] at h0
                obtain ⟨N, hN⟩ : ∃ N, N = s.add R := ⟨_, rfl⟩
                rw [← hN] at h0
                have HN := Lib.hid hN
                clear hN
                have f0 := cell_of_row wz _ 0 _ _ _ h0
                have g0 := cell_of_row wz _ 0 _ _ _ h1
                have z0 := frozen_of_row wz _ 0 _ _ h1
                simp only [stCells, List.getElem?_toArray, List.getElem?_cons_succ, List.getElem?_cons_zero] at f0 g0
                have f1 := cell_of_row wz _ 1 _ _ _ h0
                have g1 := cell_of_row wz _ 1 _ _ _ h1
                have z1 := frozen_of_row wz _ 1 _ _ h1
                simp only [stCells, List.getElem?_toArray, List.getElem?_cons_succ, List.getElem?_cons_zero] at f1 g1
                have f2 := cell_of_row wz _ 2 _ _ _ h0
                have g2 := cell_of_row wz _ 2 _ _ _ h1
                have z2 := frozen_of_row wz _ 2 _ _ h1
                simp only [stCells, List.getElem?_toArray, List.getElem?_cons_succ, List.getElem?_cons_zero] at f2 g2
                have f3 := cell_of_row wz _ 3 _ _ _ h0
                have g3 := cell_of_row wz _ 3 _ _ _ h1
                have z3 := frozen_of_row wz _ 3 _ _ h1
                simp only [stCells, List.getElem?_toArray, List.getElem?_cons_succ, List.getElem?_cons_zero] at f3 g3
                have f4 := cell_of_row wz _ 4 _ _ _ h0
                have g4 := cell_of_row wz _ 4 _ _ _ h1
                have z4 := frozen_of_row wz _ 4 _ _ h1
                simp only [stCells, List.getElem?_toArray, List.getElem?_cons_succ, List.getElem?_cons_zero] at f4 g4
                have f5 := cell_of_row wz _ 5 _ _ _ h0
                have g5 := cell_of_row wz _ 5 _ _ _ h1
                have z5 := frozen_of_row wz _ 5 _ _ h1
                simp only [stCells, List.getElem?_toArray, List.getElem?_cons_succ, List.getElem?_cons_zero] at f5 g5
                have f6 := cell_of_row wz _ 6 _ _ _ h0
                have g6 := cell_of_row wz _ 6 _ _ _ h1
                have z6 := frozen_of_row wz _ 6 _ _ h1
                simp only [stCells, List.getElem?_toArray, List.getElem?_cons_succ, List.getElem?_cons_zero] at f6 g6
                have f7 := cell_of_row wz _ 7 _ _ _ h0
                have g7 := cell_of_row wz _ 7 _ _ _ h1
                have z7 := frozen_of_row wz _ 7 _ _ h1
                simp only [stCells, List.getElem?_toArray, List.getElem?_cons_succ, List.getElem?_cons_zero] at f7 g7
                have Hbz := Lib.hid hbz
                have H1z := Lib.hid h1
                clear h0 h1 h9 hbz
                go_wp2
                have hset := set8 wz (w.heap.size + 1) _ _ _ _ _ _ _ _ _ H1z.out (.int .u32 (N.a : Nat)) (.int .u32 (N.b : Nat)) (.int .u32 (N.c : Nat)) (.int .u32 (N.d : Nat)) (.int .u32 (N.e : Nat)) (.int .u32 (N.f : Nat)) (.int .u32 (N.g : Nat)) (.int .u32 (N.h : Nat))
                refine bodyPost_ret (results_cell_row (P := Tryd.prog) Tryd.results42 _ _ (w.heap.size + 1) 86 (stCells N) (0, 0) _ rfl hset Tryd.underlying86 rfl (by kernel_rfl)) rfl ⟨?_, ?_⟩
                · rw [HN.out, HR.out]; rfl
                · have hb := Hbz.out
                  exact (((((((hb.setCell (by simp) _).setCell (by simp) _).setCell (by simp) _).setCell (by simp) _).setCell (by simp) _).setCell (by simp) _).setCell (by simp) _).setCell (by simp) _
end Go.Proofs.YtefobboakikpbaaDoor
