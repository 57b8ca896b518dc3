/- The count of parts of nodes. -/
import Derived.Test.YthnbinlllmkabaaNd
namespace Go.Proofs.Ythnbinlllmkabaa
open Go.RowKit
set_option linter.unusedVariables false
set_option linter.unusedSimpArgs false

/-- At p lies a count: how many more parts there may be. -/
def CountAt (w : World) (p : Nat) (z : Int) : Prop := w.heap[p]? = some (.cells #[.int .i64 z] 146 (0, 0))
theorem many_any (w : World) (n : Int) : Calls Try.prog 56 #[.int .i64 n] w fun e w' => e = .returned (.pointer (some ⟨w.heap.size, 0, none⟩)) ∧ CountAt w' w.heap.size n ∧ Below w.heap.size w w' := by
  go_enter Try.func56, Try.ntmps56
  go_wp2
  go_ret
  exact ⟨rfl, heap_alloc_new w _, on_alloc (Below.refl _ _) _⟩
theorem countOk_any (w : World) (p : Nat) (z : Int) (h : CountAt w p z) : Calls Try.prog 58 #[.pointer (some ⟨p, 0, none⟩)] w fun e w' => e = .returned (.bool (decide (0 ≤ z))) ∧ w' = w := by
  have f0 := cell_of_row w p 0 _ _ _ h
  simp at f0
  clear h
  go_enter Try.func58, Try.ntmps58
  go_wp2
  go_ret
  exact ⟨rfl, rfl⟩
theorem countAdd_any (w : World) (p : Nat) (z n : Int) (h : CountAt w p z) (hz : z ≤ 100000) (hn : (0 ≤ n ∧ n ≤ 9223372036854775807) ∨ n = -9223372036854775808) :
    Calls Try.prog 129 #[.pointer (some ⟨p, 0, none⟩), .int .i64 n] w fun e w' => ∃ (b : Bool) (z' : Int), e = .returned (.bool b) ∧ CountAt w' p z' ∧ (z' < 0 ∨ (0 ≤ z ∧ 0 ≤ n ∧ z' = z - n)) ∧ (z < 0 → z' < 0) ∧ Upd (fun k => k = p) w w' := by
  have f0 := cell_of_row w p 0 _ _ _ h
  simp at f0
  have z0 := frozen_of_row w p 0 _ _ h
  have H := Lib.hid h
  clear h
  by_cases hz0 : 0 ≤ z
  · obtain ⟨q, hq, hq2⟩ : ∃ q, IntKind.i64.wrap (z - n) = q ∧ (q < 0 ∨ (0 ≤ z ∧ 0 ≤ n ∧ q = z - n)) := by
      refine ⟨_, rfl, ?_⟩
      rcases hn with ⟨h1, h2⟩ | rfl
      · right
        refine ⟨hz0, h1, ?_⟩
        exact IntWalk.i64_in _ (by omega)
      · left
        rw [IntKind.wrap_i64]
        omega
    have Hq2 := Lib.hid hq2
    clear hq2 hn
    go_enter Try.func129, Try.ntmps129
    go_wp2
    go_ret
    have hs := heap_setCell_same w p 0 _ _ (.int .i64 q) H.out
    simp at hs
    exact ⟨_, q, rfl, hs, Hq2.out, fun h => by omega, (Upd.refl _ _).setCell _ _ (fun _ => rfl)⟩
  · go_enter Try.func129, Try.ntmps129
    go_wp2
    go_ret
    exact ⟨.inl rfl, z, H.out, Or.inl (by omega), by omega, Upd.refl _ _⟩
theorem countText_any (w : World) (p : Nat) (z : Int) (s : ByteArray) (h : CountAt w p z) (hz : z ≤ 100000) (hs : s.size ≤ 9223372036854775807) :
    Calls Try.prog 121 #[.pointer (some ⟨p, 0, none⟩), .string s] w fun e w' => e = .returned (.tuple #[]) ∧ ∃ z' : Int, CountAt w' p z' ∧ z' ≤ 100000 ∧ (0 ≤ z' → z' = z - (1 + s.size)) ∧ (z < 0 → z' < 0) ∧ Upd (fun k => k = p) w w' := by
  have H := Lib.hid h
  clear h
  go_enter Try.func121, Try.ntmps121
  go_wp2_with fail
  refine (countAdd_any w p z 1 H.out hz (.inl ⟨by decide, by decide⟩)).mono ?_
  rintro e w1 ⟨b, z1, rfl, h1, h2, h3, hu1⟩
  have hz1 : z1 ≤ 100000 := by omega
  have H1 := Lib.hid (And.intro h1 (And.intro h2 (And.intro h3 hu1)))
  clear h1 h2 h3 hu1
  go_wp2_with fail
  refine (countAdd_any w1 p z1 s.size H1.out.1 hz1 (.inl ⟨by omega, by omega⟩)).mono ?_
  rintro e w2 ⟨b2, z2, rfl, h1, h2, h3, hu2⟩
  have H2 := Lib.hid (And.intro h1 (And.intro h2 (And.intro h3 hu2)))
  clear h1 h2 h3 hu2
  go_wp2
  go_end0
  obtain ⟨g1, g2, g3, g4⟩ := H1.out
  obtain ⟨k1, k2, k3, k4⟩ := H2.out
  refine ⟨rfl, z2, k1, by omega, fun hh => by omega, fun hh => by omega, g4.trans k4⟩
mutual
/-- How many parts a node comes to. -/
def Nd.parts : Nd → Nat | .mk n _ _ ks => 1 + n.size + partsAll ks
def partsAll : List Nd → Nat | [] => 0 | k :: ks => k.parts + partsAll ks
end
theorem parts_eq (n : Nd) : n.parts = 1 + n.name.size + partsAll n.kids := by cases n; rfl
theorem partsAll_append : ∀ (a b : List Nd), partsAll (a ++ b) = partsAll a + partsAll b
  | [], b => by simp [partsAll]
  | x :: a, b => by simp [partsAll, partsAll_append a b]; omega
theorem partsAll_take (ks : List Nd) (i : Nat) (h : i < ks.length) : partsAll (ks.take (i + 1)) = partsAll (ks.take i) + (ks[i]).parts := by
  rw [List.take_succ_eq_append_getElem h, partsAll_append]; simp [partsAll]
def Counted (w : World) (p : Nat) (z : Int) (n : Nat) (w' : World) : Prop := ∃ z' : Int, CountAt w' p z' ∧ z' ≤ 100000 ∧ (0 ≤ z' → z' = z - n) ∧ (z < 0 → z' < 0) ∧ Upd (fun k => k = p) w w'
/-- What Nodes does to the count, of lists as deep as d. -/
def NodesOk (F : Nat → Prop) (p d : Nat) : Prop := ∀ (w : World) (z : Int) (ks : List Nd) (m : Nat) (a : Option Addr) (c : Nat), CountAt w p z → z ≤ 100000 → KidsIn w F d a ks → ks.length = m → m ≤ 9223372036854775807 →
  Calls Try.prog 57 #[.pointer (some ⟨p, 0, none⟩), .slice a m c] w fun e w' => e = .returned (.tuple #[]) ∧ Counted w p z (partsAll ks) w'
set_option maxRecDepth 100000 in
theorem countNode_of {F : Nat → Prop} {p d : Nat} (hFp : ¬ F p) (hN : NodesOk F p d) (w : World) (z : Int) (n : Nd) (a : Option Addr) (c : Nat) (h : CountAt w p z) (hz : z ≤ 100000) (hn : NodeIn w F d n a) :
    Calls Try.prog 100 #[.pointer (some ⟨p, 0, none⟩), .agg (n.row a c).toArray] w fun e w' => e = .returned (.tuple #[]) ∧ Counted w p z n.parts w' := by
  obtain ⟨f0, _, _, f40⟩ := nrow_at (b := w.heap.size) (o := 0) hn.vwf (rangeAt_row (heap_alloc_new w (.cells (n.row a c).toArray 30)))
  have hsz := hn.nsz
  have hkz := hn.ksz
  have hp := lt_heap h
  have hb1 : Upd (fun k => k = p) w (w.alloc (.cells (n.row a c).toArray 30)) := (Upd.refl _ _).alloc _
  have H := Lib.hid (And.intro h (And.intro hn hb1))
  have HN := Lib.hid hN
  simp only [Nat.zero_add] at f0 f40
  clear h hn hb1 hN
  go_enter Try.func100, Try.ntmps100
  go_wp2_with fail
  obtain ⟨w1, hw1⟩ : ∃ w1, w1 = w.alloc (.cells (n.row a c).toArray 30) := ⟨_, rfl⟩
  obtain ⟨B, hB⟩ : ∃ B, B = w.heap.size := ⟨_, rfl⟩
  have h1 : CountAt w1 p z := by show w1.heap[p]? = _; rw [hw1]; exact (Below.heap_alloc w _ p hp).trans H.out.1
  have hn1 : NodeIn w1 F d n a := by rw [hw1]; exact H.out.2.1.below ((Below.refl _ _).alloc (Nat.le_refl _) _)
  have hu1 : Upd (fun k => k = p) w w1 := by rw [hw1]; exact H.out.2.2
  rw [← hB, ← hw1] at f40 ⊢
  have H1 := Lib.hid (And.intro h1 (And.intro hn1 hu1))
  have hBp : B ≠ p := by omega
  clear h1 hn1 hu1 hw1 f0 hB
  refine (countText_any w1 p z n.name H1.out.1 hz hsz).mono ?_
  rintro e w2 ⟨rfl, z2, h2, hz2, h3, h4, hu2⟩
  have f40' := hu2.cell f40 hBp
  have H2 := Lib.hid (And.intro h2 (And.intro h3 (And.intro h4 hu2)))
  clear h2 h3 h4 hu2 f40
  go_wp2_with fail
  refine (HN.out w2 z2 n.kids _ a c H2.out.1 hz2 (KidsIn.kept H2.out.2.2.2 (fun b hb e => hFp (e ▸ hb)) _ _ _ H1.out.2.1.kids) rfl hkz).mono ?_
  rintro e w3 ⟨rfl, hc3⟩
  have H3 := Lib.hid hc3
  clear hc3 f40'
  go_wp2
  go_end0
  obtain ⟨z3, k1, k2, k3, k4, k5⟩ := H3.out
  obtain ⟨j1, j2, j3, j4⟩ := H2.out
  refine ⟨rfl, z3, k1, k2, fun hh => ?_, fun hh => k4 (j3 hh), (H1.out.2.2.trans j4).trans k5⟩
  have := k3 hh
  rw [parts_eq]
  by_cases h0 : 0 ≤ z2
  · have := j2 h0; omega
  · have := k4 (by omega); omega
set_option maxHeartbeats 1000000 in
set_option maxRecDepth 100000 in
theorem countNodes_ok {F : Nat → Prop} {p : Nat} (hFp : ¬ F p) : ∀ d : Nat, NodesOk F p d := by
  intro d
  induction d with
  | zero =>
    intro w z ks m a c h hz hk hm hm2
    obtain rfl : ks = [] := hk
    obtain rfl : m = 0 := by simpa using hm.symm
    have H := Lib.hid h
    clear h hm
    go_enter Try.func57, Try.ntmps57
    go_wp2_with fail
    go_loopw [4] (fun i wr => i = .int .i64 0 ∧ wr = w) (fun _ _ => 0)
    case atStart => exact ⟨rfl, rfl⟩
    case round =>
      obtain ⟨rfl, hw⟩ := hrel
      obtain rfl := hw.symm
      go_wp2
      go_end0
      exact ⟨rfl, z, H.out, hz, fun _ => by simp [partsAll], fun h => h, Upd.refl _ _⟩
  | succ d ih =>
    intro w z ks m a c h hz hk hm hm2
    have H := Lib.hid h
    have HK := Lib.hid hk
    have Hm := Lib.hid hm
    have Ih := Lib.hid ih
    clear h hk hm ih
    go_enter Try.func57, Try.ntmps57
    go_wp2_with fail
    go_loopw [4] (fun i wr => ∃ (k : Nat), k ≤ m ∧ i = .int .i64 k ∧ Counted w p z (partsAll (ks.take k)) wr) (fun i _ => m - (intOf i).toNat)
    case atStart => exact ⟨0, Nat.zero_le _, rfl, z, H.out, hz, fun _ => by simp [partsAll], fun h => h, Upd.refl _ _⟩
    case round =>
      obtain ⟨k, hkm, rfl, zr, hc, hzr, hz1, hz2, hu⟩ := hrel
      have Hc := Lib.hid (And.intro hc (And.intro hz1 (And.intro hz2 hu)))
      clear hc hz1 hz2 hu
      by_cases hlt : k < m
      · by_cases h0 : 0 ≤ zr
        · go_wp2_with fail
          refine (countOk_any wr p zr Hc.out.1).mono ?_
          rintro e w' ⟨rfl, hw⟩
          obtain rfl := hw.symm
          rw [show decide (0 ≤ zr) = true by simp [h0]]
          obtain ⟨g, off, a', c', rfl, hF, hr, hni⟩ := (KidsIn.kept Hc.out.2.2.2 (fun b hb e => hFp (e ▸ hb)) _ _ _ HK.out).at (i := k) (by rw [Hm.out]; exact hlt)
          obtain ⟨x, hx⟩ : ∃ x, x = ks[k]'(by rw [Hm.out]; exact hlt) := ⟨_, rfl⟩
          rw [← hx] at hr hni
          have Hr := Lib.hid (And.intro hr hni)
          have Hx := Lib.hid hx
          have hvwf := Lib.hid (nrow_length (s := x.name) (m := x.m) (k := .slice a' x.kids.length c') hni.vwf)
          have i1 : (0 : Int) ≤ (k : Int) := by omega
          have i2 : (k : Int) < (m : Int) := by omega
          clear hr hni hx
          go_wp2_with (refine wpList_load_midg (by rfl) 30 (.tmp 18) rfl g (off + k * 41) rfl (x.row a' c') _ Hr.out.1 Try.underlying30 rfl (by rw [show (x.row a' c').length = 41 from hvwf.out]; kernel_rfl) ?_)
          refine (countNode_of hFp Ih.out wr zr x a' c' Hc.out.1 hzr Hr.out.2).mono ?_
          rintro e w3 ⟨rfl, z3, k1, k2, k3, k4, k5⟩
          have H3 := Lib.hid (And.intro k1 (And.intro k3 (And.intro k4 k5)))
          clear k1 k3 k4 k5
          go_wp2
          go_roundw
          case rel =>
            obtain ⟨j1, j2, j3, j4⟩ := H3.out
            obtain ⟨l1, l2, l3, l4⟩ := Hc.out
            refine ⟨k + 1, hlt, by go_num, z3, j1, k2, fun hh => ?_, fun hh => j3 (l3 hh), l4.trans j4⟩
            have e1 := j2 hh
            have e2 := l2 h0
            rw [partsAll_take ks k (by rw [Hm.out]; exact hlt), ← Hx.out]
            omega
          case measure => simp [intOf]; omega
        · have hz9 : decide (0 ≤ zr) = false := by simp; omega
          go_wp2_with fail
          refine (countOk_any wr p zr Hc.out.1).mono ?_
          rintro e w' ⟨rfl, hw⟩
          obtain rfl := hw.symm
          rw [hz9]
          go_wp2
          go_end0
          exact ⟨rfl, zr, Hc.out.1, hzr, fun h => by omega, Hc.out.2.2.1, Hc.out.2.2.2⟩
      · obtain rfl : k = m := by omega
        have e : ks.take k = ks := List.take_of_length_le (by rw [Hm.out]; exact Nat.le_refl _)
        have Hc2 := Hc.out.2.1
        rw [e] at Hc2
        have HC2 := Lib.hid Hc2
        clear e Hc2
        go_wp2
        go_end0
        exact ⟨rfl, zr, Hc.out.1, hzr, HC2.out, Hc.out.2.2.1, Hc.out.2.2.2⟩
end Go.Proofs.Ythnbinlllmkabaa
