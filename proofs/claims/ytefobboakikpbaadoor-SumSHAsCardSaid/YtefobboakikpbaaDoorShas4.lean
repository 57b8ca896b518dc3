/- A room in which a list of lists of bytes was laid holds its marks. -/
import Derived.Test.YtefobboakikpbaaDoorShas3
import Derived.Test.YtefobboakikpbaaDoorRoom2
namespace Go.Proofs.YtefobboakikpbaaDoor
open Go.RowKit
set_option linter.unusedVariables false
set_option linter.unusedSimpArgs false

theorem chunks_any (w : World) (p : Nat) (hr : RoomAt w p (.slice none 0 0) (.slice none 0 0) (.slice none 0 0) (.slice none 0 0)) (a : Option Addr) (c m : Nat) (Ps : List (List UInt8)) (hP : ∀ wr, Upd (fun b => b = p) w wr → Parts wr (.slice a m c) Ps) (hm : Ps.length = m) (hsum : m + (joinTo Ps m).length ≤ 32768) :
    Calls Tryd.prog 21 #[.pointer (some ⟨p, 0, none⟩), .slice a m c] w fun e w' => ∃ (af : Option Addr) (cf : Nat) (ab aa av ad : Option Addr) (cb ca cv cd : Nat) (xb xa vs more : List Value), e = .returned (.slice af m (m + 40)) ∧
      ChunksAt w w' p m af cf ab aa av ad cb ca cv cd xb xa vs more Ps := by
  have H := Lib.hid (layChunks_any w p hr a c m Ps hP hm hsum)
  clear hr hP hm hsum
  go_enter Tryd.func21, Tryd.ntmps21
  go_wp2_with fail
  refine H.out.mono ?_
  rintro e w' ⟨af, cf, ab, aa, av, ad, cb, ca, cv, cd, xb, xa, vs, more, rfl, h⟩
  have H2 := Lib.hid h
  clear h H
  go_wp2
  go_ret
  exact ⟨af, cf, ab, aa, av, ad, cb, ca, cv, cd, xb, xa, vs, more, rfl, H2.out⟩
theorem Lots.holds {w : World} {B m : Nat} {vs xb xa : List Value} {Ls : List (List UInt8)} (h : Lots w B m vs xb xa Ls) (hl : ∀ i, i < m → (Ls.getD i []).length ≤ 32768) : HoldsB w xb xa m := by
  intro i hi
  obtain ⟨v, x, z, h1, h2, h3, af, cf, rfl, rfl, rfl, h4, h5⟩ := h.at_ i hi
  refine ⟨af, cf, _, _, Ls.getD i [] ++ marks 4, h2, h3, by omega, by have := hl i hi; omega, h4.sl, by rw [List.length_append, marks_length], fun q h1 h2 => ?_⟩
  rw [List.getD_eq_getElem?_getD, List.getElem?_append_right h1]
  rw [marks, List.getElem?_map, List.getElem?_range (by omega)]
  rfl
theorem lot_z (w : World) (i : Nat) (z : Int) (hi : i ≤ 4611686018427387904) (hz : (if i % 2 = 0 then (-7701 : Int) else -7702) = z) (v : Int) (hv : v = (i : Nat)) :
    Calls Tryd.prog 64 #[.int .i64 v] w fun e w' => e = .returned (.int .i64 z) ∧ w' = w := by
  subst hv
  subst hz
  exact lot_any w i hi
set_option maxHeartbeats 2000000 in
set_option maxRecDepth 100000 in
theorem holdChunks_at (w0 w : World) (p m : Nat) (af : Option Addr) (cf : Nat) (ab aa av ad : Option Addr) (cb ca cv cd : Nat) (xb xa vs more : List Value) (Ls : List (List UInt8)) (h : ChunksAt w0 w p m af cf ab aa av ad cb ca cv cd xb xa vs more Ls) (hm : m ≤ 32768) :
    Calls Tryd.prog 57 #[.pointer (some ⟨p, 0, none⟩)] w fun e w' => e = .returned (.bool true) ∧ ∃ n, w' = w.drewN n := by
  have f0 := cell_of_row w p 16 _ _ _ h.room
  have f1 := cell_of_row w p 17 _ _ _ h.room
  simp at f0 f1
  obtain ⟨gv, ov, rfl, _, hcv⟩ := h.ov.sl.open_ (by simp)
  obtain ⟨gd, od, rfl, _, hcd⟩ := h.od.sl.open_ (by simp)
  have f2 := hcv 0 _ rfl
  have f3 := hcd 0 _ rfl
  simp only [Nat.add_zero] at f2 f3
  have H := Lib.hid h
  clear h hcv hcd
  go_enter Tryd.func57, Tryd.ntmps57
  go_wp2_with fail
  go_loopw [3] (fun i wr => ∃ (k n : Nat), k ≤ 1 ∧ i = .int .i64 k ∧ wr = w.drewN n) (fun i _ => 1 - (intOf i).toNat)
  case atStart => exact ⟨0, 0, Nat.zero_le _, rfl, rfl⟩
  case round =>
    obtain ⟨k, n, hk, rfl, rfl⟩ := hrel
    by_cases hlt : k < 1
    · obtain rfl : k = 0 := by omega
      go_wp2_with fail
      go_loopw [5] (fun i wq => ∃ (q n : Nat), m ≤ q ∧ q ≤ m + 40 ∧ i = .int .i64 q ∧ wq = w.drewN n) (fun i _ => m + 40 - (intOf i).toNat)
      case atStart => exact ⟨m, n, by omega, by omega, rfl, rfl⟩
      case round =>
        rename World => wq
        obtain ⟨q, n2, hmq, hq, rfl, rfl⟩ := hrel
        by_cases hlt2 : q < m + 40
        · obtain ⟨g, h1, h2, _⟩ := H.out.marks.2 (q - m) (by omega)
          obtain ⟨gf, of_, rfl, _, hcf⟩ := H.out.of_.sl.open_ (by rw [H.out.of_.1]; omega)
          have c0 := hcf q _ (by rw [List.getElem?_append_right (by rw [H.out.lots.lv]; exact hmq), H.out.lots.lv]; exact h1)
          have c1 := cell_of_row w g 0 _ _ _ h2
          simp at c1
          obtain ⟨d, hd⟩ : ∃ d, d = q - m := ⟨_, rfl⟩
          rw [← hd] at c1
          have e2 : IntKind.i64.wrap ((q : Int) - (m : Int)) = (d : Int) := by rw [show (q : Int) - (m : Int) = (d : Int) by omega]; exact IntWalk.i64_in _ (by omega)
          have e3 : (q : Int) - (m : Int) = (d : Int) := by omega
          obtain ⟨z, hz, hz2⟩ : ∃ z : Int, (if d % 2 = 0 then (-7701 : Int) else -7702) = z ∧ z % 256 = ((mark d).toNat : Int) := ⟨_, rfl, by unfold mark; split <;> decide⟩
          obtain ⟨x, hx⟩ : ∃ x, x = mark d := ⟨_, rfl⟩
          rw [← hx] at c1 hz2
          have hne : ((x.toNat : Int) != (x.toNat : Int)) = false := by simp
          have Hz := Lib.hid hz
          have hd2 : d ≤ 100 := by omega
          have i1 : (0 : Int) ≤ (q : Int) := by omega
          have i2 : (q : Int) < (m : Int) + 40 := by omega
          clear hcf h1 h2 hd hx hz
          go_wp2_with fail
          go_quiet ((go_at_call 64; exact quiet_more (lot_z _ d z (by omega) Hz.out _ (by omega))))
          go_wp2
          go_roundw
          case rel => exact ⟨q + 1, _, by omega, by omega, by go_num, rfl⟩
          case measure => simp [intOf]; omega
        · obtain rfl : q = m + 40 := by omega
          go_wp2
          go_roundw
          case rel => exact ⟨1, _, by omega, rfl, rfl⟩
          case measure => simp [intOf]
    · obtain rfl : k = 1 := by omega
      go_wp2
      go_ret
      exact ⟨rfl, n, rfl⟩
end Go.Proofs.YtefobboakikpbaaDoor
