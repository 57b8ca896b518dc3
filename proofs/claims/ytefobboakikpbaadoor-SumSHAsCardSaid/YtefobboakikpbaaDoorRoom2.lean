/- The room: whether the marks hold. -/
import Derived.Test.YtefobboakikpbaaDoorRoom1
namespace Go.Proofs.YtefobboakikpbaaDoor
open Go.RowKit
set_option linter.unusedVariables false
set_option linter.unusedSimpArgs false

theorem roomBytes_any (w : World) (p : Nat) (ab aa : Option Addr) (cb ca : Nat) (vc vd : Value) (kb : Nat) (hr : RoomAt w p (.slice ab kb cb) (.slice aa kb ca) vc vd) (xb xa : List Value) (hb : Own w 24 1 (.slice ab kb cb) kb xb) (ha : Own w 3 1 (.slice aa kb ca) kb xa) (hkb : kb ≤ 100000)
    (a : Option Addr) (c n : Nat) (l : List UInt8) (hl : Sl w 1 (.slice a n c) n (bytes l)) (hn : l.length = n) (hlen : n ≤ 40000) :
    Calls Tryd.prog 28 #[.pointer (some ⟨p, 0, none⟩), .slice a n c] w fun e w' =>
      ∃ (af ab' aa' : Option Addr) (cf cb' ca' : Nat), e = .returned (.slice af n (n + 600)) ∧ RoomAt w' p (.slice ab' (kb + 1) cb') (.slice aa' (kb + 1) ca') vc vd ∧
        Own w' 24 1 (.slice ab' (kb + 1) cb') (kb + 1) (xb ++ [.slice af (n + 600) cf]) ∧ Own w' 3 1 (.slice aa' (kb + 1) ca') (kb + 1) (xa ++ [.int .i64 (n : Nat)]) ∧
        Own w' 5 1 (.slice af (n + 600) cf) (n + 600) (bytes (l ++ marks 600)) ∧ (∀ k, (Value.slice af (n + 600) cf).ownBlock = some k → w.heap.size ≤ k) ∧
        (∀ k, (Value.slice ab' (kb + 1) cb').ownBlock = some k → (Value.slice ab kb cb).ownBlock = some k ∨ w.heap.size ≤ k) ∧ (∀ k, (Value.slice aa' (kb + 1) ca').ownBlock = some k → (Value.slice aa kb ca).ownBlock = some k ∨ w.heap.size ≤ k) ∧
        Upd (fun k => k = p ∨ (Value.slice ab kb cb).ownBlock = some k ∨ (Value.slice aa kb ca).ownBlock = some k) w w' := by
  have H := Lib.hid (layBytes_any w p ab aa cb ca vc vd kb hr xb xa hb ha hkb a c n l hl hn hlen 600 (by decide))
  clear hr hb ha hl hn
  go_enter Tryd.func28, Tryd.ntmps28
  go_wp2_with fail
  refine H.out.mono ?_
  rintro e w' ⟨af, ab', aa', cf, cb', ca', rfl, h⟩
  have H2 := Lib.hid h
  clear h H
  go_wp2
  go_ret
  exact ⟨af, ab', aa', cf, cb', ca', rfl, H2.out⟩
set_option maxRecDepth 100000 in
theorem holdInts_any (w : World) (p : Nat) (vb va vc vd : Value) (hr : RoomAt w p vb va vc vd) :
    Calls Tryd.prog 50 #[.pointer (some ⟨p, 0, none⟩)] w fun e w' => e = .returned (.bool true) ∧ w' = w := by
  have f0 := cell_of_row w p 2 _ _ _ hr
  simp at f0
  clear hr
  go_enter Tryd.func50, Tryd.ntmps50
  go_wp2_with fail
  go_loopw [3] (fun i wr => i = .int .i64 0 ∧ wr = w) (fun _ _ => 0)
  case atStart => exact ⟨rfl, rfl⟩
  case round =>
    obtain ⟨rfl, hw⟩ := hrel
    obtain rfl := hw.symm
    go_wp2
    go_ret
    exact ⟨rfl, rfl⟩
set_option maxRecDepth 100000 in
theorem holdTexts_any (w : World) (p : Nat) (vb va vc vd : Value) (hr : RoomAt w p vb va vc vd) :
    Calls Tryd.prog 51 #[.pointer (some ⟨p, 0, none⟩)] w fun e w' => e = .returned (.bool true) ∧ w' = w := by
  have f0 := cell_of_row w p 4 _ _ _ hr
  simp at f0
  clear hr
  go_enter Tryd.func51, Tryd.ntmps51
  go_wp2_with fail
  go_loopw [3] (fun i wr => i = .int .i64 0 ∧ wr = w) (fun _ _ => 0)
  case atStart => exact ⟨rfl, rfl⟩
  case round =>
    obtain ⟨rfl, hw⟩ := hrel
    obtain rfl := hw.symm
    go_wp2
    go_ret
    exact ⟨rfl, rfl⟩
set_option maxRecDepth 100000 in
theorem holdChanges_any (w : World) (p : Nat) (vb va vc vd : Value) (hr : RoomAt w p vb va vc vd) :
    Calls Tryd.prog 52 #[.pointer (some ⟨p, 0, none⟩)] w fun e w' => e = .returned (.bool true) ∧ w' = w := by
  have f0 := cell_of_row w p 6 _ _ _ hr
  simp at f0
  clear hr
  go_enter Tryd.func52, Tryd.ntmps52
  go_wp2_with fail
  go_loopw [3] (fun i wr => i = .int .i64 0 ∧ wr = w) (fun _ _ => 0)
  case atStart => exact ⟨rfl, rfl⟩
  case round =>
    obtain ⟨rfl, hw⟩ := hrel
    obtain rfl := hw.symm
    go_wp2
    go_ret
    exact ⟨rfl, rfl⟩
set_option maxRecDepth 100000 in
theorem holdCells_any (w : World) (p : Nat) (vb va vc vd : Value) (hr : RoomAt w p vb va vc vd) :
    Calls Tryd.prog 53 #[.pointer (some ⟨p, 0, none⟩)] w fun e w' => e = .returned (.bool true) ∧ w' = w := by
  have f0 := cell_of_row w p 8 _ _ _ hr
  simp at f0
  clear hr
  go_enter Tryd.func53, Tryd.ntmps53
  go_wp2_with fail
  go_loopw [3] (fun i wr => i = .int .i64 0 ∧ wr = w) (fun _ _ => 0)
  case atStart => exact ⟨rfl, rfl⟩
  case round =>
    obtain ⟨rfl, hw⟩ := hrel
    obtain rfl := hw.symm
    go_wp2
    go_ret
    exact ⟨rfl, rfl⟩
set_option maxRecDepth 100000 in
theorem holdItems_any (w : World) (p : Nat) (vb va vc vd : Value) (hr : RoomAt w p vb va vc vd) :
    Calls Tryd.prog 54 #[.pointer (some ⟨p, 0, none⟩)] w fun e w' => e = .returned (.bool true) ∧ w' = w := by
  have f0 := cell_of_row w p 10 _ _ _ hr
  simp at f0
  clear hr
  go_enter Tryd.func54, Tryd.ntmps54
  go_wp2_with fail
  go_loopw [3] (fun i wr => i = .int .i64 0 ∧ wr = w) (fun _ _ => 0)
  case atStart => exact ⟨rfl, rfl⟩
  case round =>
    obtain ⟨rfl, hw⟩ := hrel
    obtain rfl := hw.symm
    go_wp2
    go_ret
    exact ⟨rfl, rfl⟩
set_option maxRecDepth 100000 in
theorem holdPlaceds_any (w : World) (p : Nat) (vb va vc vd : Value) (hr : RoomAt w p vb va vc vd) :
    Calls Tryd.prog 55 #[.pointer (some ⟨p, 0, none⟩)] w fun e w' => e = .returned (.bool true) ∧ w' = w := by
  have f0 := cell_of_row w p 12 _ _ _ hr
  simp at f0
  clear hr
  go_enter Tryd.func55, Tryd.ntmps55
  go_wp2_with fail
  go_loopw [3] (fun i wr => i = .int .i64 0 ∧ wr = w) (fun _ _ => 0)
  case atStart => exact ⟨rfl, rfl⟩
  case round =>
    obtain ⟨rfl, hw⟩ := hrel
    obtain rfl := hw.symm
    go_wp2
    go_ret
    exact ⟨rfl, rfl⟩
set_option maxRecDepth 100000 in
theorem holdRules_any (w : World) (p : Nat) (vb va vc vd : Value) (hr : RoomAt w p vb va vc vd) :
    Calls Tryd.prog 56 #[.pointer (some ⟨p, 0, none⟩)] w fun e w' => e = .returned (.bool true) ∧ w' = w := by
  have f0 := cell_of_row w p 14 _ _ _ hr
  simp at f0
  clear hr
  go_enter Tryd.func56, Tryd.ntmps56
  go_wp2_with fail
  go_loopw [3] (fun i wr => i = .int .i64 0 ∧ wr = w) (fun _ _ => 0)
  case atStart => exact ⟨rfl, rfl⟩
  case round =>
    obtain ⟨rfl, hw⟩ := hrel
    obtain rfl := hw.symm
    go_wp2
    go_ret
    exact ⟨rfl, rfl⟩
set_option maxRecDepth 100000 in
theorem holdChunks_any (w : World) (p : Nat) (vb va vc vd : Value) (hr : RoomAt w p vb va (.slice none 0 0) vd) :
    Calls Tryd.prog 57 #[.pointer (some ⟨p, 0, none⟩)] w fun e w' => e = .returned (.bool true) ∧ w' = w := by
  have f0 := cell_of_row w p 16 _ _ _ hr
  simp at f0
  clear hr
  go_enter Tryd.func57, Tryd.ntmps57
  go_wp2_with fail
  go_loopw [3] (fun i wr => i = .int .i64 0 ∧ wr = w) (fun _ _ => 0)
  case atStart => exact ⟨rfl, rfl⟩
  case round =>
    obtain ⟨rfl, hw⟩ := hrel
    obtain rfl := hw.symm
    go_wp2
    go_ret
    exact ⟨rfl, rfl⟩
set_option maxRecDepth 100000 in
theorem holdThings_any (w : World) (p : Nat) (vb va vc vd : Value) (hr : RoomAt w p vb va vc vd) :
    Calls Tryd.prog 58 #[.pointer (some ⟨p, 0, none⟩)] w fun e w' => e = .returned (.bool true) ∧ w' = w := by
  have f0 := cell_of_row w p 18 _ _ _ hr
  simp at f0
  clear hr
  go_enter Tryd.func58, Tryd.ntmps58
  go_wp2_with fail
  go_loopw [3] (fun i wr => i = .int .i64 0 ∧ wr = w) (fun _ _ => 0)
  case atStart => exact ⟨rfl, rfl⟩
  case round =>
    obtain ⟨rfl, hw⟩ := hrel
    obtain rfl := hw.symm
    go_wp2
    go_ret
    exact ⟨rfl, rfl⟩
set_option maxRecDepth 100000 in
theorem holdDones_any (w : World) (p : Nat) (vb va vc vd : Value) (hr : RoomAt w p vb va vc vd) :
    Calls Tryd.prog 59 #[.pointer (some ⟨p, 0, none⟩)] w fun e w' => e = .returned (.bool true) ∧ w' = w := by
  have f0 := cell_of_row w p 20 _ _ _ hr
  simp at f0
  clear hr
  go_enter Tryd.func59, Tryd.ntmps59
  go_wp2_with fail
  go_loopw [3] (fun i wr => i = .int .i64 0 ∧ wr = w) (fun _ _ => 0)
  case atStart => exact ⟨rfl, rfl⟩
  case round =>
    obtain ⟨rfl, hw⟩ := hrel
    obtain rfl := hw.symm
    go_wp2
    go_ret
    exact ⟨rfl, rfl⟩
set_option maxRecDepth 100000 in
theorem holdNodes_any (w : World) (p : Nat) (vb va vc vd : Value) (hr : RoomAt w p vb va vc vd) :
    Calls Tryd.prog 60 #[.pointer (some ⟨p, 0, none⟩)] w fun e w' => e = .returned (.bool true) ∧ w' = w := by
  have f0 := cell_of_row w p 22 _ _ _ hr
  simp at f0
  clear hr
  go_enter Tryd.func60, Tryd.ntmps60
  go_wp2_with fail
  go_loopw [3] (fun i wr => i = .int .i64 0 ∧ wr = w) (fun _ _ => 0)
  case atStart => exact ⟨rfl, rfl⟩
  case round =>
    obtain ⟨rfl, hw⟩ := hrel
    obtain rfl := hw.symm
    go_wp2
    go_ret
    exact ⟨rfl, rfl⟩
set_option maxRecDepth 100000 in
theorem holdSteps_any (w : World) (p : Nat) (vb va vc vd : Value) (hr : RoomAt w p vb va vc vd) :
    Calls Tryd.prog 61 #[.pointer (some ⟨p, 0, none⟩)] w fun e w' => e = .returned (.bool true) ∧ w' = w := by
  have f0 := cell_of_row w p 24 _ _ _ hr
  simp at f0
  clear hr
  go_enter Tryd.func61, Tryd.ntmps61
  go_wp2_with fail
  go_loopw [3] (fun i wr => i = .int .i64 0 ∧ wr = w) (fun _ _ => 0)
  case atStart => exact ⟨rfl, rfl⟩
  case round =>
    obtain ⟨rfl, hw⟩ := hrel
    obtain rfl := hw.symm
    go_wp2
    go_ret
    exact ⟨rfl, rfl⟩
/-- Behind each list that was laid stand the marks. -/
def HoldsB (w : World) (xb xa : List Value) (kb : Nat) : Prop := ∀ i, i < kb → ∃ (af : Option Addr) (cf n L : Nat) (l : List UInt8), xb[i]? = some (.slice af L cf) ∧ xa[i]? = some (.int .i64 (n : Nat)) ∧ n ≤ L ∧ L ≤ 100000 ∧ Sl w 1 (.slice af L cf) L (bytes l) ∧ l.length = L ∧
  ∀ k, n ≤ k → k < L → l.getD k 0 = mark (k - n)
set_option maxHeartbeats 2000000 in
set_option maxRecDepth 100000 in
theorem holdBytes_any (w : World) (p : Nat) (ab aa : Option Addr) (cb ca : Nat) (vc vd : Value) (kb : Nat) (hr : RoomAt w p (.slice ab kb cb) (.slice aa kb ca) vc vd) (xb xa : List Value) (hb : Sl w 1 (.slice ab kb cb) kb xb) (ha : Sl w 1 (.slice aa kb ca) kb xa) (hkb : kb ≤ 100000) (hh : HoldsB w xb xa kb) :
    Calls Tryd.prog 49 #[.pointer (some ⟨p, 0, none⟩)] w fun e w' => e = .returned (.bool true) ∧ w' = w := by
  have f0 := cell_of_row w p 0 _ _ _ hr
  have f1 := cell_of_row w p 1 _ _ _ hr
  simp at f0 f1
  have hbl : xb.length = kb := by obtain ⟨_, _, _, h, _⟩ := hb; simpa using h
  have hal : xa.length = kb := by obtain ⟨_, _, _, h, _⟩ := ha; simpa using h
  have Hb := Lib.hid hb
  have Ha := Lib.hid ha
  have Hh := Lib.hid hh
  have Hbl := Lib.hid hbl
  have Hal := Lib.hid hal
  clear hr hb ha hh hbl hal
  go_enter Tryd.func49, Tryd.ntmps49
  go_wp2_with fail
  go_loopw [3] (fun i wr => ∃ k : Nat, k ≤ kb ∧ i = .int .i64 k ∧ wr = w) (fun i _ => kb - (intOf i).toNat)
  case atStart => exact ⟨0, Nat.zero_le _, rfl, rfl⟩
  case round =>
    obtain ⟨k, hk, rfl, hw⟩ := hrel
    obtain rfl := hw.symm
    by_cases hlt : k < kb
    · obtain ⟨af, cf, n, L, l, h1, h2, hnL, hL, hsl, hll, hm⟩ := Hh.out k hlt
      obtain ⟨gb, ob, rfl, _, hcb⟩ := Hb.out.open_ (by rw [Hbl.out]; omega)
      obtain ⟨ga, oa, rfl, _, hca⟩ := Ha.out.open_ (by rw [Hal.out]; omega)
      have c0 := hcb k _ h1
      have c1 := hca k _ h2
      have Hsl := Lib.hid hsl
      have Hll := Lib.hid hll
      have Hm := Lib.hid hm
      have i0 : (0 : Int) ≤ (k : Int) := by omega
      have i1 : (k : Int) < (kb : Int) := by omega
      clear h1 h2 hcb hca hsl hll hm
      go_wp2_with fail
      go_loopw [5] (fun i wq => ∃ q : Nat, n ≤ q ∧ q ≤ L ∧ i = .int .i64 q ∧ wq = w) (fun i _ => L - (intOf i).toNat)
      case atStart => exact ⟨n, Nat.le_refl _, hnL, rfl, rfl⟩
      case round =>
        rename World => wq
        obtain ⟨q, hnq, hqL, rfl, hw⟩ := hrel
        obtain rfl := hw.symm
        by_cases hlt2 : q < L
        · obtain ⟨gf, of, rfl, _, hcf⟩ := Hsl.out.open_ (by rw [bytes_length, Hll.out]; omega)
          have c2 := hcf q _ (bytes_getD l q (by rw [Hll.out]; exact hlt2))
          rw [Hm.out q hnq hlt2] at c2
          obtain ⟨d, hd⟩ : ∃ d, d = q - n := ⟨_, rfl⟩
          rw [← hd] at c2
          have e1 : (q : Int) - (n : Int) = (d : Int) := by omega
          have e2 : IntKind.i64.wrap ((q : Int) - (n : Int)) = (d : Int) := by rw [e1]; exact IntWalk.i64_in _ (by omega)
          have hd2 : d ≤ 100000 := by omega
          obtain ⟨x, hx⟩ : ∃ x, x = mark d := ⟨_, rfl⟩
          rw [← hx] at c2
          have Hx := Lib.hid hx
          have i2 : (0 : Int) ≤ (q : Int) := by omega
          have i3 : (q : Int) < (L : Int) := by omega
          clear hcf hd hx
          go_wp2_with fail
          refine (lot_mark w d (by omega)).mono ?_
          rintro e w' ⟨⟨z, rfl, hz⟩, hw⟩
          obtain rfl := hw.symm
          rw [← Hx.out] at hz
          have hne : ((x.toNat : Int) != (x.toNat : Int)) = false := by simp
          go_wp2
          go_roundw
          case rel => exact ⟨q + 1, by omega, by omega, by go_num, trivial⟩
          case measure => simp [intOf]; omega
        · go_wp2
          go_roundw
          case rel => exact ⟨k + 1, hlt, by go_num, trivial⟩
          case measure => simp [intOf]; omega
    · go_wp2
      go_ret
      exact ⟨rfl, rfl⟩
set_option maxHeartbeats 4000000 in
set_option maxRecDepth 100000 in
theorem hold_any (w : World) (p : Nat) (ab aa : Option Addr) (cb ca : Nat) (vd : Value) (kb : Nat) (hr : RoomAt w p (.slice ab kb cb) (.slice aa kb ca) (.slice none 0 0) vd) (xb xa : List Value) (hb : Sl w 1 (.slice ab kb cb) kb xb) (ha : Sl w 1 (.slice aa kb ca) kb xa) (hkb : kb ≤ 100000) (hh : HoldsB w xb xa kb) :
    Calls Tryd.prog 27 #[.pointer (some ⟨p, 0, none⟩)] w fun e w' => e = .returned (.bool true) ∧ w' = w := by
  have Hr := Lib.hid hr
  have Hb := Lib.hid hb
  have Ha := Lib.hid ha
  have Hh := Lib.hid hh
  clear hr hb ha hh
  go_enter Tryd.func27, Tryd.ntmps27
  go_wp2_with fail
  refine (holdBytes_any w p ab aa cb ca _ vd kb Hr.out xb xa Hb.out Ha.out hkb Hh.out).mono ?_
  rintro e w' ⟨rfl, hw⟩
  obtain rfl := hw.symm
  go_wp2_with fail
  refine (holdInts_any w p _ _ _ vd Hr.out).mono ?_
  rintro e w' ⟨rfl, hw⟩
  obtain rfl := hw.symm
  go_wp2_with fail
  refine (holdTexts_any w p _ _ _ vd Hr.out).mono ?_
  rintro e w' ⟨rfl, hw⟩
  obtain rfl := hw.symm
  go_wp2_with fail
  refine (holdChanges_any w p _ _ _ vd Hr.out).mono ?_
  rintro e w' ⟨rfl, hw⟩
  obtain rfl := hw.symm
  go_wp2_with fail
  refine (holdCells_any w p _ _ _ vd Hr.out).mono ?_
  rintro e w' ⟨rfl, hw⟩
  obtain rfl := hw.symm
  go_wp2_with fail
  refine (holdItems_any w p _ _ _ vd Hr.out).mono ?_
  rintro e w' ⟨rfl, hw⟩
  obtain rfl := hw.symm
  go_wp2_with fail
  refine (holdPlaceds_any w p _ _ _ vd Hr.out).mono ?_
  rintro e w' ⟨rfl, hw⟩
  obtain rfl := hw.symm
  go_wp2_with fail
  refine (holdRules_any w p _ _ _ vd Hr.out).mono ?_
  rintro e w' ⟨rfl, hw⟩
  obtain rfl := hw.symm
  go_wp2_with fail
  refine (holdChunks_any w p _ _ (.slice none 0 0) vd Hr.out).mono ?_
  rintro e w' ⟨rfl, hw⟩
  obtain rfl := hw.symm
  go_wp2_with fail
  refine (holdThings_any w p _ _ _ vd Hr.out).mono ?_
  rintro e w' ⟨rfl, hw⟩
  obtain rfl := hw.symm
  go_wp2_with fail
  refine (holdDones_any w p _ _ _ vd Hr.out).mono ?_
  rintro e w' ⟨rfl, hw⟩
  obtain rfl := hw.symm
  go_wp2_with fail
  refine (holdNodes_any w p _ _ _ vd Hr.out).mono ?_
  rintro e w' ⟨rfl, hw⟩
  obtain rfl := hw.symm
  go_wp2_with fail
  refine (holdSteps_any w p _ _ _ vd Hr.out).mono ?_
  rintro e w' ⟨rfl, hw⟩
  obtain rfl := hw.symm
  go_wp2
  go_ret
  exact ⟨rfl, rfl⟩
end Go.Proofs.YtefobboakikpbaaDoor
