/- Numbers out of a number: a turner's next, a place, four figures. -/
import Derived.Test.YthnbinlllmkabaaGen
import Derived.Test.YthnbinlllmkabaaProg
import Derived.Lib.SlBytesConst
import Derived.Laws.IdiomStrings
namespace Go.Proofs.Ythnbinlllmkabaa
open Go.RowKit
set_option linter.unusedVariables false
set_option linter.unusedSimpArgs false

theorem i64_and_nat (a b : Nat) (ha : a < 9223372036854775808) (hb : b < 9223372036854775808) : bits .and .i64 (a : Int) (b : Int) = ((a &&& b : Nat) : Int) := by
  have hx : a &&& b < 9223372036854775808 := Nat.lt_of_le_of_lt Nat.and_le_left ha
  have h64 : ∀ c : Nat, c < 9223372036854775808 → (BitVec.ofInt 64 (c : Int)).toNat = c := fun c hc => by
    rw [BitVec.ofInt_natCast, BitVec.toNat_ofNat]; exact Nat.mod_eq_of_lt (by omega)
  show IntKind.i64.wrap ((BitVec.ofInt 64 (a : Int) &&& BitVec.ofInt 64 (b : Int)).toNat : Int) = _
  rw [BitVec.toNat_and, h64 a ha, h64 b hb]
  exact IntWalk.i64_in _ (by omega)

set_option maxHeartbeats 1000000 in
theorem next_any (w : World) (X : Nat) (T : TypeId) (x : Nat) (hr : w.heap[X]? = some (.cells #[.int .i64 (x : Nat)] T (0, 0))) (hx : x < 2147483648) (n : Nat) (hn : 0 < n) (hn2 : n ≤ 2147483647) :
    Calls Try.prog 34 #[.pointer (some ⟨X, 0, none⟩), .int .i64 (n : Nat)] w fun e w' => ∃ (r x' : Nat), e = .returned (.int .i64 r) ∧ r < n ∧ x' < 2147483648 ∧ w'.heap[X]? = some (.cells #[.int .i64 (x' : Nat)] T (0, 0)) ∧ Upd (fun k => k = X) w w' := by
  have f0 := cell_of_row w _ 0 _ _ _ hr
  simp at f0
  have z0 := frozen_of_row w _ 0 _ _ hr
  have Hr := Lib.hid hr
  clear hr
  obtain ⟨x', hx', q⟩ : ∃ x' : Nat, x' < 2147483648 ∧ bits BinOp.and IntKind.i64 ((x : Int) * 1103515 + 12345) 2147483647 = (x' : Int) := by
    refine ⟨(x * 1103515 + 12345) &&& 2147483647, Nat.lt_of_le_of_lt Nat.and_le_right (by decide), ?_⟩
    rw [show ((x : Int) * 1103515 + 12345) = ((x * 1103515 + 12345 : Nat) : Int) by omega, show (2147483647 : Int) = ((2147483647 : Nat) : Int) from rfl]
    exact i64_and_nat _ _ (by omega) (by decide)
  go_enter Try.func34, Try.ntmps34
  have hne : (n : Int) ≠ 0 := by omega
  obtain ⟨r, hr⟩ : ∃ r, r = (x' / 64) % n := ⟨_, rfl⟩
  have hrn : r < n := by rw [hr]; exact Nat.mod_lt _ hn
  have e1 : (x' : Int).tdiv 64 = ((x' / 64 : Nat) : Int) := rfl
  have e2 : (((x' / 64 : Nat) : Int)).tmod (n : Int) = (r : Int) := by rw [hr]; rfl
  have e3 : ((x' : Int) / 64) % (n : Int) = (r : Int) := by rw [hr]; rfl
  have e4 : ((x' : Int) / 64).tmod (n : Int) = (r : Int) := by rw [hr]; rfl
  have HR := Lib.hid hrn
  clear hr hrn
  go_wp2
  go_ret
  refine ⟨r, x', rfl, HR.out, hx', ?_, (Upd.refl _ _).setCell _ _ (fun _ => rfl)⟩
  have h := heap_setCell_same w X 0 _ _ (.int .i64 (x' : Nat)) Hr.out
  simpa using h

theorem place_any (w : World) (k n : Int) (hn : 0 < n) (hm : n ≤ 4611686018427387904) (hk1 : -9223372036854775808 ≤ k) (hk2 : k ≤ 9223372036854775807) :
    Calls Try.prog 31 #[.int .i64 k, .int .i64 n] w fun e w' => (∃ r : Nat, (r : Int) < n ∧ e = .returned (.int .i64 r)) ∧ w' = w := by
  have h1 := Int.tmod_lt_of_pos k hn
  have h2 := Int.lt_tmod_of_pos k hn
  obtain ⟨t, ht⟩ : ∃ t, t = k.tmod n := ⟨_, rfl⟩
  rw [← ht] at h1 h2
  have e := ht.symm
  have hne : n ≠ 0 := by omega
  clear ht
  by_cases h0 : t < 0
  · have e2 : IntKind.i64.wrap (t + n) = t + n := IntWalk.i64_in _ (by omega)
    go_enter Try.func31, Try.ntmps31
    go_wp2
    all_goals
      go_ret
      exact ⟨⟨(t + n).toNat, by omega, by simp; omega⟩, rfl⟩
  · go_enter Try.func31, Try.ntmps31
    go_wp2
    all_goals
      go_ret
      exact ⟨⟨t.toNat, by omega, by simp; omega⟩, rfl⟩

/-- A figure of a number. -/
def fig (i j : Nat) : UInt8 := UInt8.ofNat (48 + i / j % 10)
/-- Four figures. -/
def figs (i : Nat) : ByteArray := ⟨#[fig i 1000, fig i 100, fig i 10, fig i 1]⟩
theorem fig_nat (i j : Nat) : (fig i j).toNat = 48 + i / j % 10 := by
  have : i / j % 10 < 10 := Nat.mod_lt _ (by decide)
  unfold fig
  rw [UInt8.toNat_ofNat', Nat.mod_eq_of_lt (by omega)]
/-- The figures written so far, from the last one on. -/
def drow (n j : Nat) : List Value := [.int .u8 (if 4 ≤ j then (fig n 1000).toNat else 48 : Nat), .int .u8 (if 3 ≤ j then (fig n 100).toNat else 48 : Nat), .int .u8 (if 2 ≤ j then (fig n 10).toNat else 48 : Nat), .int .u8 (if 1 ≤ j then (fig n 1).toNat else 48 : Nat)]
def pow10 : Nat → Nat | 0 => 1 | 1 => 10 | 2 => 100 | 3 => 1000 | _ => 10000
theorem drow_set (n j r : Nat) (hj : j ≤ 3) (hr : r = n / pow10 j % 10) : (drow n j).toArray.setIfInBounds (3 - j) (.int .u8 (48 + (r : Int))) = (drow n (j + 1)).toArray := by
  apply Array.ext'
  rw [Array.toList_setIfInBounds]
  match j, hj with
  | 0, _ => simp [drow, pow10, fig_nat] at hr ⊢; omega
  | 1, _ => simp [drow, pow10, fig_nat] at hr ⊢; omega
  | 2, _ => simp [drow, pow10, fig_nat] at hr ⊢; omega
  | 3, _ => simp [drow, pow10, fig_nat] at hr ⊢; omega
theorem pow10_succ (n j : Nat) (hj : j ≤ 3) : n / pow10 (j + 1) = n / pow10 j / 10 := by
  match j, hj with
  | 0, _ => simp [pow10]
  | 1, _ => simp [pow10]; omega
  | 2, _ => simp [pow10]; omega
  | 3, _ => simp [pow10]; omega
theorem heap_setCell_mark {w : World} {b i : Nat} {cs : Array Value} {T : TypeId} {fr : Nat × Nat} (hb : w.heap[b]? = some (.cells cs T fr)) (v : Value) :
    (w.setCell ⟨b, i, none⟩ v).heap[b]? = some (.cells (cs.setIfInBounds i v) T fr) := by
  simp [World.setCell, Array.getElem?_modify, hb]
theorem frozen_mark {w : World} {b i lo hi : Nat} {cs : Array Value} {T : TypeId} (hb : w.heap[b]? = some (.cells cs T (lo, hi))) (h : i < lo) : w.frozen? ⟨b, i, none⟩ = false := by
  simp [World.frozen?, hb]
  omega
theorem drow_cell {w : World} {b n j i : Nat} {T : TypeId} {fr : Nat × Nat} (h : w.heap[b]? = some (.cells (drow n j).toArray T fr)) (hi : i < 4) : w.cell? ⟨b, i, none⟩ = (drow n j)[i]? := by
  simp [World.cell?, h]
set_option maxHeartbeats 2000000 in
set_option maxRecDepth 100000 in
theorem digits_any (w : World) (n : Nat) (hn : n < 10000) :
    Calls Try.prog 33 #[.int .i64 (n : Nat)] w fun e w' => e = .returned (.string (figs n)) ∧ Below w.heap.size w w' := by
  have kc := fun (w : World) (C : Array Value) (n c : Nat) => Lib.run_convert_bytes_const (P := Try.prog) w 127 5 C n c Try.underlying127 Try.underlying5
  go_enter Try.func33, Try.ntmps33
  go_wp2_with fail
  go_loopw [0, 4] (fun m i wr => ∃ j : Nat, j ≤ 4 ∧ m = .int .i64 ((n / pow10 j : Nat) : Int) ∧ i = .int .i64 (3 - (j : Int)) ∧ wr.heap[w.heap.size]? = some (.cells (drow n j).toArray 5 (4, 5)) ∧ Below w.heap.size w wr) (fun _ i _ => (intOf i + 1).toNat)
  case atStart => exact ⟨0, by omega, by simp [pow10], rfl, heap_alloc_new w _, on_alloc (Below.refl _ w) _⟩
  case round =>
    obtain ⟨j, hj, rfl, rfl, hb, hbe⟩ := hrel
    have Hb := Lib.hid hb
    have Hbe := Lib.hid hbe
    obtain ⟨m, hm⟩ : ∃ m, m = n / pow10 j := ⟨_, rfl⟩
    rw [← hm]
    have hmm : m ≤ n := by rw [hm]; exact Nat.div_le_self _ _
    have e1 : (m : Int).tmod 10 = ((m % 10 : Nat) : Int) := rfl
    have e2 : (m : Int).tdiv 10 = ((m / 10 : Nat) : Int) := rfl
    have hm10 : m % 10 < 10 := Nat.mod_lt _ (by decide)
    obtain ⟨r, hr⟩ : ∃ r, r = m % 10 := ⟨_, rfl⟩
    obtain ⟨q, hq⟩ : ∃ q, q = m / 10 := ⟨_, rfl⟩
    rw [← hr] at e1 hm10
    rw [← hq] at e2
    have Hm := Lib.hid hm
    have Hr := Lib.hid hr
    have Hq := Lib.hid hq
    clear hm hr hq hb hbe
    by_cases h4 : j = 4
    · subst h4
      clear e1 e2 hm10
      have hcv := run_convert_bytes_back (P := Try.prog) wr 127 9 5 ⟨w.heap.size, 0, none⟩ 4 [fig n 1000, fig n 100, fig n 10, fig n 1] Try.underlying127 Try.underlying5 Try.underlying9 (fun i hi => by
        rw [show (⟨w.heap.size, 0, none⟩ : Addr).add i = ⟨w.heap.size, i, none⟩ by simp [Addr.add]; exact fun h => h.symm, drow_cell Hb.out hi]
        match i, hi with
        | 0, _ => rfl
        | 1, _ => rfl
        | 2, _ => rfl
        | 3, _ => rfl)
      have hcv2 : (convert 127 9 (.slice (some ⟨w.heap.size, 0, none⟩) 4 4)).run Try.prog wr = .ok (.string (figs n)) wr := hcv
      clear hcv
      go_wp2
      go_ret
      exact ⟨rfl, Hbe.out⟩
    · have hj3 : j ≤ 3 := by omega
      obtain ⟨i, hi⟩ : ∃ i, i = 3 - j := ⟨_, rfl⟩
      have hi3 : i ≤ 3 := by omega
      have ei : (3 : Int) - (j : Int) = (i : Int) := by omega
      rw [ei]
      have f0 := drow_cell (i := i) Hb.out (by omega)
      rw [List.getElem?_eq_getElem (show i < 4 by omega)] at f0
      generalize (drow n j)[i]'(show i < 4 by omega) = old at f0
      have z0 := frozen_mark (i := i) Hb.out (by omega)
      have Hi := Lib.hid hi
      have ew : IntKind.u8.wrap (48 + (r : Int)) = ((48 + r : Nat) : Int) := by
        show (48 + (r : Int)) % 256 = _
        omega
      have er : (r : Int) % 256 = (r : Int) := by omega
      clear hi ei
      go_wp2
      go_roundw
      case rel =>
        have hs := heap_setCell_mark (i := i) Hb.out (.int .u8 (48 + (r : Int)))
        rw [show i = 3 - j from Hi.out, drow_set n j r hj3 (by rw [Hr.out, Hm.out]), ← Hi.out] at hs
        refine ⟨j + 1, by omega, congrArg (Value.int .i64) ?_, congrArg (Value.int .i64) (by have := Hi.out; omega), hs, ?_⟩
        · rw [pow10_succ n j hj3, ← Hm.out, ← Hq.out]
          have hqm : q ≤ m := by rw [Hq.out]; exact Nat.div_le_self _ _
          exact IntWalk.wrap64_in (q : Int) (by omega)
        · exact Hbe.out.setCell (Nat.le_refl _) _
      case measure => simp [intOf]
end Go.Proofs.Ythnbinlllmkabaa
