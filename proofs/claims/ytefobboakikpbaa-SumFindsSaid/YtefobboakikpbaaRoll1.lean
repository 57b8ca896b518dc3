/- Contracts of slices.Clone, sum.NewRoller and the roller's Sum. -/
import Derived.Test.YtefobboakikpbaaProg
import Derived.Test.YtefobboakikpbaaBase
namespace Go.Proofs.Ytefobboakikpbaa
open Go.RowKit
set_option linter.unusedVariables false
set_option linter.unusedSimpArgs false
theorem info_byte : (Try.prog.info? 5).map (fun i => (i.zero, i.size, i.bytes)) = some (some (.int .u8 0), 1, 1) := by kernel_rfl

set_option maxHeartbeats 400000 in
theorem clone_any (w : World) (v : Value) (n : Nat) (xs : List Value) (hs : Sl w 1 v n xs) (h1 : ∀ u ∈ xs, u.oneCell' = true) (hn : n ≤ 140737488351232) :
    Calls Try.prog 14 #[v] w fun e w' => ∃ a' c', e = .returned (.slice a' n c') ∧ Own w' 5 1 (.slice a' n c') n xs ∧ Below w.heap.size w w' ∧ (∀ k, (Value.slice a' n c').ownBlock = some k → w.heap.size ≤ k) := by
  obtain ⟨i0, hi, hz0, hz1, hz2⟩ := info_parts info_byte
  have hs0 := hs
  obtain ⟨a, c, rfl, hl, hm, hc⟩ := hs
  cases a with
  | none =>
    have hx : xs = [] := Classical.byContradiction fun h => by obtain ⟨ad, h, _⟩ := hc h; cases h
    subst hx
    have h0 : n = 0 := by simpa using hl.symm
    subst h0
    clear hc hs0 hl h1
    have hnil := fun w => Lib.run_eql_slice_nil (P := Try.prog) w 22 5 none 0 c 0 0 Try.underlying22
    go_enter Try.func14, Try.ntmps14
    go_wp2
    go_ret
    exact ⟨_, _, rfl, Own.nil _ _ _, Below.refl _ _, fun k hk => by simp [Value.ownBlock] at hk⟩
  | some a =>
    have hnil := fun w => Lib.run_eql_slice_nil (P := Try.prog) w 22 5 (some a) n c 0 0 Try.underlying22
    clear hc
    have H1 := Lib.hid h1
    clear h1
    have H2 := Lib.hid hl
    clear hl
    go_enter Try.func14, Try.ntmps14
    go_wp2_with (at_builtin; go_loud (refine wpList_append_any rfl _ _ 22 rfl 5 i0 (.int .u8 0) 1 1 Try.underlying22 hi hz0 hz1 hz2 rfl (by decide) (.slice (some ⟨w.heap.size, 0, none⟩) 0 0) 0 [] _ n xs rfl rfl ?ho ?h0 H1.out ?h3 ?h4 ?h5))
    case ho => exact Own.made w 5 1 0 #[] rfl (by omega)
    case h0 => exact hs0.kept (Upd.alloc (Upd.refl (fun _ => False) w) _) (fun _ _ _ => id)
    case h3 => omega
    case h4 => omega
    intro a' c' w1 hown hg hb
    go_wp2
    go_ret
    refine ⟨a', c', rfl, hown, ((Below.refl _ _).alloc (Nat.le_refl _) _).grown hg (by simp) (by simp [Value.ownBlock]), fun k hk => ?_⟩
    by_cases h : (Value.slice (some ⟨w.heap.size, 0, none⟩) 0 0).ownBlock = some k
    · simp [Value.ownBlock] at h; omega
    · have := hb k h (by simpa using hk); simpa using Nat.le_of_succ_le this

/-- The two halves of the weak sum of the first k of some bytes. -/
def lowTo (l : List UInt8) : Nat → Int
  | 0 => 0
  | k + 1 => lowTo l k + (l.getD k 0).toNat
def highTo (l : List UInt8) : Nat → Int
  | 0 => 0
  | k + 1 => highTo l k + ((l.length : Int) - k) * (l.getD k 0).toNat

theorem lowTo_succ (l : List UInt8) (k : Nat) (h : k < l.length) : lowTo l (k + 1) = lowTo l k + l[k].toNat := by
  simp [lowTo, h]
theorem highTo_succ (l : List UInt8) (k : Nat) (h : k < l.length) : highTo l (k + 1) = highTo l k + ((l.length : Int) - k) * l[k].toNat := by
  simp [highTo, h]
theorem wrap_u32 (x : Int) : IntKind.u32.wrap x = x % 4294967296 := by simp [IntKind.wrap_u32]
theorem add_mul_mod (x y z : Int) : (x + y % 4294967296 * (z % 4294967296)) % 4294967296 = (x + y * z) % 4294967296 := by
  rw [Int.add_emod, ← Int.mul_emod, ← Int.add_emod]

/-- A roller at block p: its ring (of bytes), the place in it, both halves. -/
def RollerAt (w : World) (p : Nat) (v : Value) (ring : List UInt8) (at_ : Nat) (low high : Int) : Prop :=
  w.heap[p]? = some (.cells #[v, .int .i64 at_, .int .u32 low, .int .u32 high] 38 (0, 0)) ∧
  Own w 5 1 v ring.length (bytes ring) ∧ v.ownBlock ≠ some p

set_option maxHeartbeats 1000000 in
theorem newRoller_any (w : World) (v : Value) (l : List UInt8) (hs : Sl w 1 v l.length (bytes l)) (hn : l.length ≤ 140737488351232) :
    Calls Try.prog 5 #[v] w fun e w' => ∃ p v', e = .returned (.pointer (some ⟨p, 0, none⟩)) ∧ w.heap.size ≤ p ∧ (∀ k, v'.ownBlock = some k → w.heap.size ≤ k) ∧
      RollerAt w' p v' l 0 (IntKind.u32.wrap (lowTo l l.length)) (IntKind.u32.wrap (highTo l l.length)) ∧ Below w.heap.size w w' := by
  have hs0 := hs
  obtain ⟨a, c, rfl, hl, hm, hc⟩ := hs
  go_enter Try.func5, Try.ntmps5
  go_wp2_with (go_at_call 14; refine (clone_any w _ l.length (bytes l) hs0 (bytes_one l) hn).mono ?_; rintro e w1 ⟨a1, c1, rfl, hown, hb1, hk1⟩)
  have hrow : (w1.alloc (.cells #[.slice a1 l.length c1, .int .i64 0, .int .u32 0, .int .u32 0] 38)).heap[w1.heap.size]? = some (.cells #[.slice a1 l.length c1, .int .i64 0, .int .u32 0, .int .u32 0] 38 (0, 0)) := heap_alloc_new _ _
  go_loopw [12] (fun i wr => ∃ k : Nat, k ≤ l.length ∧ i = .int .i64 k ∧ Below w1.heap.size w1 wr ∧
      wr.heap[w1.heap.size]? = some (.cells #[.slice a1 l.length c1, .int .i64 0, .int .u32 (IntKind.u32.wrap (lowTo l k)), .int .u32 (IntKind.u32.wrap (highTo l k))] 38 (0, 0)))
    (fun i _ => l.length - (intOf i).toNat)
  case atStart => exact ⟨0, Nat.zero_le _, rfl, (Below.refl _ _).alloc (Nat.le_refl _) _, hrow⟩
  case round =>
    clear hrow
    obtain ⟨k, hk, rfl, hbr, hrow⟩ := hrel
    by_cases hlt : k < l.length
    · have hne : bytes l ≠ [] := by intro h; have := bytes_length l; rw [h] at this; simp at this; omega
      obtain ⟨ad, rfl, hc2⟩ := hc hne
      have hcell := hc2 k _ (bytes_get l k hlt)
      have hcellr : wr.cell? (ad.add k) = some (.int .u8 (l[k].toNat)) := by
        have hlt1 := block_lt_of_cell hcell
        have h1 := (hb1.cell hlt1).trans hcell
        exact (hbr.cell (Nat.lt_of_lt_of_le hlt1 hb1.size)).trans h1
      have f2 := cell_of_row wr _ 2 _ _ _ hrow
      have f3 := cell_of_row wr _ 3 _ _ _ hrow
      simp at f2 f3
      have g2 := frozen_of_row wr _ 2 _ _ hrow
      have g3 := frozen_of_row wr _ 3 _ _ hrow
      have Hrow := Lib.hid hrow
      clear hrow hc hc2 hs0 hown hl hcell
      go_wp2
      go_roundw
      case rel =>
        refine ⟨k + 1, hlt, by go_num, (hbr.setCell (by simp) _).setCell (by simp) _, ?_⟩
        have h2 := heap_setCell_same wr _ 2 _ _ (.int .u32 ((lowTo l k + l[k].toNat) % 4294967296)) Hrow.out
        have h3 := heap_setCell_same _ _ 3 _ _ (.int .u32 ((highTo l k + (l.length - k) % 4294967296 * (l[k].toNat % 4294967296)) % 4294967296)) h2
        refine h3.trans ?_
        rw [lowTo_succ l k hlt, highTo_succ l k hlt, wrap_u32, wrap_u32, add_mul_mod]
        rfl
      case measure => simp [intOf]; omega
    · obtain rfl : k = l.length := by omega
      have Hrow := Lib.hid hrow
      clear hrow hc
      go_wp2
      go_ret
      refine ⟨_, _, rfl, hb1.size, hk1, ⟨Hrow.out, ?_, ?_⟩, hb1.trans (hbr.mono hb1.size)⟩
      · exact hown.kept (Upd.below hbr fun _ => False) (fun _ _ => id)
      · intro he
        have := hown.lt he
        omega

/-- What a roller's Sum tells. -/
def weakOf (low high : Int) : Int := (high % 65536) * 65536 + low % 65536
theorem wraps_u32' (n : Int) (h0 : 0 ≤ n) (h1 : n < 2 ^ 32) : IntKind.u32.wrap n = n := by rw [wrap_u32]; omega
theorem weak_bits (low high : Int) (hl0 : 0 ≤ low) (hl1 : low < 4294967296) :
    bits BinOp.or IntKind.u32 (high * 65536 % 4294967296) (bits BinOp.and IntKind.u32 low 65535) = weakOf low high := by
  have h : bits BinOp.and IntKind.u32 low 65535 = low % 65536 := bits_mask .u32 32 (by decide) wraps_u32' 16 (by decide) low hl0 hl1
  rw [h, u32_or _ _ (by omega) (by omega) (by omega) (by omega), nat_join 16 _ _ (by omega) (by omega)]
  unfold weakOf; omega

set_option maxHeartbeats 400000 in
theorem rollerSum_any (w : World) (p : Nat) (v : Value) (ring : List UInt8) (at_ : Nat) (low high : Int) (h : RollerAt w p v ring at_ low high)
    (hl0 : 0 ≤ low) (hl1 : low < 4294967296) (hh0 : 0 ≤ high) (hh1 : high < 4294967296) :
    Calls Try.prog 7 #[.pointer (some ⟨p, 0, none⟩)] w fun e w' => e = .returned (.int .u32 (weakOf low high)) ∧ (∃ n, w' = w.drewN n) ∧ RollerAt w' p v ring at_ low high := by
  have Hr := Lib.hid h
  obtain ⟨hrow, _, _⟩ := h
  have f2 := cell_of_row w _ 2 _ _ _ hrow
  have f3 := cell_of_row w _ 3 _ _ _ hrow
  simp at f2 f3
  clear hrow
  go_enter Try.func7, Try.ntmps7
  go_wp2_with fail
  go_quiet (fail)
  go_wp2
  go_ret
  exact ⟨by rw [weak_bits low high hl0 hl1]; rfl, ⟨_, rfl⟩, Hr.out⟩

theorem next_high (high y n b : Int) : (high + (y - n % 4294967296 * (b % 4294967296))) % 4294967296 = (high + y % 4294967296 - n * b) % 4294967296 := by
  have h := Int.mul_emod n b 4294967296
  generalize n % 4294967296 * (b % 4294967296) = q at *
  generalize n * b = r at *
  omega
theorem roller_set (w : World) (p g off c : Nat) (ring : List UInt8) (at_ : Nat) (low high A L H : Int) (x : UInt8) (B : Nat)
    (h : RollerAt w p (.slice (some ⟨g, off, none⟩) ring.length c) ring at_ low high) (hat : at_ < ring.length) (hB : A = B) :
    RollerAt ((((w.setCell ⟨g, off + at_, none⟩ (.int .u8 x.toNat)).setCell ⟨p, 1, none⟩ (.int .i64 A)).setCell ⟨p, 2, none⟩ (.int .u32 L)).setCell ⟨p, 3, none⟩ (.int .u32 H)) p
      (.slice (some ⟨g, off, none⟩) ring.length c) (ring.set at_ x) B L H := by
  subst hB
  obtain ⟨hrow, hown, hne⟩ := h
  have hgp : p ≠ g := fun e => hne (by rw [e]; rfl)
  have h0 := (heap_setCell_other w ⟨g, off + at_, none⟩ p (.int .u8 x.toNat) hgp).trans hrow
  have h1 := heap_setCell_same _ p 1 _ _ (.int .i64 B) h0
  have h2 := heap_setCell_same _ p 2 _ _ (.int .u32 L) h1
  have h3 := heap_setCell_same _ p 3 _ _ (.int .u32 H) h2
  refine ⟨h3, ?_, hne⟩
  have ho := hown.set at_ (.int .u8 x.toNat) (by omega)
  have hu : Upd (fun k => k = p) (w.setCell ⟨g, off + at_, none⟩ (.int .u8 x.toNat)) ((((w.setCell ⟨g, off + at_, none⟩ (.int .u8 x.toNat)).setCell ⟨p, 1, none⟩ (.int .i64 B)).setCell ⟨p, 2, none⟩ (.int .u32 L)).setCell ⟨p, 3, none⟩ (.int .u32 H)) :=
    by repeat (first | exact Upd.refl _ _ | refine Upd.drewN ?_ _ | refine Upd.drew ?_ | refine Upd.alloc ?_ _ | refine Upd.setCell ?_ _ _ (by simp [Value.ownBlock]; done))
  have ho := ho.kept hu (fun k hk e => hgp (by simp [Value.ownBlock] at hk; omega))
  simpa [bytes, List.map_set] using ho

set_option maxHeartbeats 1000000 in
theorem rollerNext_any (w : World) (p : Nat) (a : Option Addr) (c : Nat) (ring : List UInt8) (at_ : Nat) (low high : Int) (x : UInt8) (xi : Int) (hxi : xi = x.toNat) (h : RollerAt w p (.slice a ring.length c) ring at_ low high)
    (hat : at_ < ring.length) (hl0 : 0 ≤ low) (hl1 : low < 4294967296) (hh0 : 0 ≤ high) (hh1 : high < 4294967296) :
    Calls Try.prog 9 #[.pointer (some ⟨p, 0, none⟩), .int .u8 xi] w fun e w' => ∃ low' high', low' = (low + x.toNat - ring[at_].toNat) % 4294967296 ∧ high' = (high + low' - ring.length * ring[at_].toNat) % 4294967296 ∧
      e = .returned (.int .u32 (weakOf low' high')) ∧ RollerAt w' p (.slice a ring.length c) (ring.set at_ x) ((at_ + 1) % ring.length) low' high' ∧
      Upd (fun k => k = p ∨ (Value.slice a ring.length c).ownBlock = some k) w w' := by
  subst hxi
  obtain ⟨hrow, hown, hne⟩ := h
  have hb : bytes ring ≠ [] := by intro h; have := bytes_length ring; rw [h] at this; simp at this; omega
  obtain ⟨g, off, cap, cur, hv, hg, hcs, hnc, hcell, hfz⟩ := hown.cells hb
  injection hv with hv1 _ hv3
  subst hv1 hv3
  have hgp : g ≠ p := fun e => hne (by rw [e]; rfl)
  have f0 := cell_of_row w _ 0 _ _ _ hrow
  have f1 := cell_of_row w _ 1 _ _ _ hrow
  have f2 := cell_of_row w _ 2 _ _ _ hrow
  have f3 := cell_of_row w _ 3 _ _ _ hrow
  simp at f0 f1 f2 f3
  have g1 := frozen_of_row w _ 1 _ _ hrow
  have g2 := frozen_of_row w _ 2 _ _ hrow
  have g3 := frozen_of_row w _ 3 _ _ hrow
  have fr := hcell at_ _ (bytes_get ring at_ hat)
  have gr := hfz (off + at_)
  have hm := hown.2.1
  have Hrow := Lib.hid hrow
  have Hcell := Lib.hid hcell
  have Hg := Lib.hid hg
  clear hrow hcell hg hb hfz
  go_enter Try.func9, Try.ntmps9
  go_wp2_with fail
  go_quiet (fail)
  go_wp2_with fail
  go_region
  go_wp2_with fail
  go_region
  go_wp2_with fail
  refine (rollerSum_any _ p (.slice (some ⟨g, off, none⟩) ring.length c) (ring.set at_ x) ((at_ + 1) % ring.length) ((low + x.toNat - ring[at_].toNat) % 4294967296) ((high + ((low + x.toNat - ring[at_].toNat) % 4294967296) - ring.length * ring[at_].toNat) % 4294967296) ?hR ?h1 ?h2 ?h3 ?h4).mono ?_
  case h1 => omega
  case h2 => omega
  case h3 => omega
  case h4 => omega
  case hR =>
    have e1 : (low + ((x.toNat : Int) - ring[at_].toNat)) % 4294967296 = (low + x.toNat - ring[at_].toNat) % 4294967296 := by congr 1; omega
    have e2 : (high + (low + ((x.toNat : Int) - ring[at_].toNat) - ring.length % 4294967296 * (ring[at_].toNat % 4294967296))) % 4294967296 = (high + (low + x.toNat - ring[at_].toNat) % 4294967296 - ring.length * ring[at_].toNat) % 4294967296 := by rw [next_high, e1]
    rw [e1, e2]
    exact roller_set (w.drewN (nq + 1)) p g off c ring at_ low high _ _ _ x _ ⟨Hrow.out, hown, hne⟩ hat (by simp)
  rintro e w2 ⟨rfl, ⟨nd, hw2⟩, hR⟩
  have HR := Lib.hid hR
  have Hw := Lib.hid hw2
  clear hR hw2
  go_wp2
  go_ret
  refine ⟨_, _, rfl, rfl, rfl, HR.out, ?_⟩
  rw [Hw.out]
  repeat (first | exact Upd.refl _ _ | refine Upd.drewN ?_ _ | refine Upd.drew ?_ | refine Upd.alloc ?_ _ | refine Upd.setCell ?_ _ _ (by simp [Value.ownBlock]; done))
end Go.Proofs.Ytefobboakikpbaa
