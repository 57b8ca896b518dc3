/- The depth of a tree: the reference's and the program's. -/
import Derived.Test.YthnbinlllmkabaaAll2
namespace Go.Proofs.Ythnbinlllmkabaa
open Go.RowKit
set_option linter.unusedVariables false
set_option linter.unusedSimpArgs false

def DepthOk (F : Nat → Prop) (d : Nat) : Prop := ∀ (w : World) (n : Nd) (a : Option Addr) (c : Nat), NodeIn w F d n a → n.parts ≤ 1000000 →
  Calls Try.prog 50 #[.agg (n.row a c).toArray] w fun e w' => e = .returned (.int .i64 (n.dep : Nat)) ∧ Below w.heap.size w w'
set_option maxHeartbeats 2000000 in
set_option maxRecDepth 100000 in
theorem depth_step (F : Nat → Prop) (d : Nat) (ih : ∀ e, d = e + 1 → DepthOk F e) : DepthOk F d := by
  intro w n a c hn hpt
  have Ih := Lib.hid ih
  have hblk := heap_alloc_new w (.cells (n.row a c).toArray 30)
  have hbl := on_alloc (Below.refl _ w) (.cells (n.row a c).toArray 30)
  obtain ⟨m, hm⟩ : ∃ m, m = n.kids.length := ⟨_, rfl⟩
  have hme : m ≤ 1000000 := by have h1 := partsAll_len n.kids; have := parts_eq n; omega
  have Hn := Lib.hid hn
  have Hm := Lib.hid hm
  have Hpt := Lib.hid (show partsAll n.kids ≤ 1000000 by have := parts_eq n; omega)
  go_enter Try.func50, Try.ntmps50
  obtain ⟨_, _, _, f40⟩ := nrow_at (o := 0) hn.vwf (rangeAt_row hblk)
  simp only [Nat.zero_add] at f40
  rw [← hm] at f40
  clear hn hm hpt ih
  go_wp2_with fail
  obtain ⟨B, hB⟩ : ∃ B, B = w.heap.size := ⟨_, rfl⟩
  generalize w.alloc (.cells (n.row a c).toArray 30) = w2 at hblk hbl f40 ⊢
  rw [← hB] at hblk
  rw [← hB]
  have hBw : B < w2.heap.size := lt_heap hblk
  have Hblk := Lib.hid hblk
  have Hbl := Lib.hid hbl
  clear hblk hbl hB f40
  go_loopw [3, 4] (fun v i wr => ∃ k : Nat, k ≤ m ∧ i = .int .i64 k ∧ v = .int .i64 ((depAll (n.kids.take k) : Nat) : Int) ∧ Below w2.heap.size w2 wr) (fun _ i _ => m - (intOf i).toNat)
  case atStart => exact ⟨0, Nat.zero_le _, rfl, rfl, Below.refl _ _⟩
  case round =>
    obtain ⟨k, hk, rfl, rfl, hbe⟩ := hrel
    obtain ⟨s, hs⟩ : ∃ s, s = depAll (n.kids.take k) := ⟨_, rfl⟩
    have hs1 : s ≤ 1000001 := by rw [hs]; have h0 := depAll_le (n.kids.take k); have h1 := cntAll_take_le n.kids k; have h2 := cntAll_le n.kids; have := Hpt.out; omega
    rw [← hs]
    have Hs := Lib.hid hs
    have Hbe := Lib.hid hbe
    obtain ⟨_, _, _, f40⟩ := nrow_at (o := 0) Hn.out.vwf (rangeAt_row ((hbe.block B hBw).trans Hblk.out))
    simp only [Nat.zero_add] at f40
    rw [← Hm.out] at f40
    clear hs hbe
    by_cases hlt : k < m
    · have hd : ∃ e, d = e + 1 := by
        cases d with
        | zero => exfalso; have h0 : n.kids = [] := Hn.out.kids; have := Hm.out; rw [h0] at this; simp at this; omega
        | succ e => exact ⟨e, rfl⟩
      obtain ⟨d', hd⟩ := hd
      have ihe := Ih.out d' hd
      have hkn := Hn.out.kids
      rw [hd] at hkn
      have hkm : k < n.kids.length := by rw [← Hm.out]; exact hlt
      obtain ⟨g, off, a', c', rfl, hF, hr, hni⟩ := ((hkn.below Hbl.out).below Hbe.out).at (i := k) hkm
      obtain ⟨x, hx⟩ : ∃ x, x = n.kids[k]'hkm := ⟨_, rfl⟩
      rw [← hx] at hr hni
      have Hr := Lib.hid (And.intro hr hni)
      have Ihe := Lib.hid ihe
      have hvwf := Lib.hid (row_len (a := a') (c := c') hni.vwf)
      have hxp := partsAll_get (ks := n.kids) hkm
      rw [← hx] at hxp
      have Hxp := Lib.hid (show x.parts ≤ 1000000 by have := Hpt.out; omega)
      have hxc : x.dep ≤ 1000000 := Nat.le_trans (Nat.le_trans (Nat.le_of_succ_le (dep_le_cnt x)) (cnt_le_parts x)) Hxp.out
      have et := Lib.hid (show depAll (n.kids.take (k + 1)) = max s (x.dep + 1) by rw [depAll_take n.kids k hkm, Hs.out, ← hx])
      have i1 : (0 : Int) ≤ (k : Int) := by omega
      have i2 : (k : Int) < (m : Int) := by omega
      clear hr hni hx hkn hd ihe hxp
      go_wp2_with (refine wpList_load_midg (by rfl) 30 (.tmp 16) rfl g (off + k * 41) rfl (x.row a' c') _ Hr.out.1 Try.underlying30 rfl (by rw [hvwf.out]; kernel_rfl) ?_)
      refine (Ihe.out wr x a' c' Hr.out.2 Hxp.out).mono ?_
      rintro e w5 ⟨rfl, hb5⟩
      obtain ⟨z, hz⟩ : ∃ z, z = x.dep := ⟨_, rfl⟩
      rw [← hz] at hxc et
      rw [← hz]
      have Hbe5 := Lib.hid (below_on Hbe.out hb5)
      clear hb5 hz
      go_wp2
      go_roundw
      case rel => exact ⟨k + 1, hlt, by go_num, by rw [et.out]; go_num, Hbe5.out⟩
      case measure => simp [intOf]; omega
    · obtain rfl : k = m := by omega
      clear hlt
      have hke : s = n.dep := by rw [Hs.out, dep_eq, List.take_of_length_le (by rw [← Hm.out]; exact Nat.le_refl _)]
      have Hke := Lib.hid hke
      clear hke
      go_wp2
      go_ret
      exact ⟨by rw [← Hke.out]; rfl, Hbl.out.trans (Hbe.out.mono Hbl.out.size)⟩
theorem refDepth_ok (F : Nat → Prop) : ∀ d : Nat, DepthOk F d
  | 0 => depth_step F 0 (fun e he => by omega)
  | d + 1 => depth_step F (d + 1) (fun e he => (Nat.succ.inj he) ▸ refDepth_ok F d)
end Go.Proofs.Ythnbinlllmkabaa
