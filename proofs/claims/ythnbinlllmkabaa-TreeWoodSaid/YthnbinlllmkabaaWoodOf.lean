/- A tree that two numbers tell. (Written by gen_woodof.py.) -/
import Derived.Test.YthnbinlllmkabaaWood
namespace Go.Proofs.Ythnbinlllmkabaa
open Go.RowKit
set_option linter.unusedVariables false
set_option linter.unusedSimpArgs false

set_option maxHeartbeats 2000000 in
set_option maxRecDepth 100000 in
theorem woodOf_any (w : World) (s z : Int) (hs1 : -9223372036854775808 ≤ s) (hs2 : s ≤ 9223372036854775807) (hz1 : -9223372036854775808 ≤ z) (hz2 : z ≤ 9223372036854775807) :
    Calls Try.prog 48 #[.int .i64 s, .int .i64 z] w fun e w' => ∃ (n : Nd) (a : Option Addr) (c : Nat), e = .returned (.agg (n.row a c).toArray) ∧ NodeIn w' (fun b => w.heap.size ≤ b) 9 n a ∧ WoodOk n 0 ∧ n.parts ≤ 15000 ∧ Below w.heap.size w w' := by
  go_enter Try.func48, Try.ntmps48
  go_upto_region 1 with fail
  have hres := heap_alloc_new w (.cells #[.string ⟨#[]⟩, .int .i64 0, .int .i64 0, .int .i64 0, .int .u8 0, .int .u8 0, .int .u8 0, .int .u8 0, .int .u8 0, .int .u8 0, .int .u8 0, .int .u8 0, .int .u8 0, .int .u8 0, .int .u8 0, .int .u8 0, .int .u8 0, .int .u8 0, .int .u8 0, .int .u8 0, .int .u8 0, .int .u8 0, .int .u8 0, .int .u8 0, .int .u8 0, .int .u8 0, .int .u8 0, .int .u8 0, .int .u8 0, .int .u8 0, .int .u8 0, .int .u8 0, .int .u8 0, .int .u8 0, .int .u8 0, .int .u8 0, .int .i64 0, .int .i64 0, .int .i64 0, .int .i64 0, .slice none 0 0] 30)
  have hbl := on_alloc (Below.refl _ w) (.cells #[.string ⟨#[]⟩, .int .i64 0, .int .i64 0, .int .i64 0, .int .u8 0, .int .u8 0, .int .u8 0, .int .u8 0, .int .u8 0, .int .u8 0, .int .u8 0, .int .u8 0, .int .u8 0, .int .u8 0, .int .u8 0, .int .u8 0, .int .u8 0, .int .u8 0, .int .u8 0, .int .u8 0, .int .u8 0, .int .u8 0, .int .u8 0, .int .u8 0, .int .u8 0, .int .u8 0, .int .u8 0, .int .u8 0, .int .u8 0, .int .u8 0, .int .u8 0, .int .u8 0, .int .u8 0, .int .u8 0, .int .u8 0, .int .u8 0, .int .i64 0, .int .i64 0, .int .i64 0, .int .i64 0, .slice none 0 0] 30)
  generalize w.alloc (.cells #[.string ⟨#[]⟩, .int .i64 0, .int .i64 0, .int .i64 0, .int .u8 0, .int .u8 0, .int .u8 0, .int .u8 0, .int .u8 0, .int .u8 0, .int .u8 0, .int .u8 0, .int .u8 0, .int .u8 0, .int .u8 0, .int .u8 0, .int .u8 0, .int .u8 0, .int .u8 0, .int .u8 0, .int .u8 0, .int .u8 0, .int .u8 0, .int .u8 0, .int .u8 0, .int .u8 0, .int .u8 0, .int .u8 0, .int .u8 0, .int .u8 0, .int .u8 0, .int .u8 0, .int .u8 0, .int .u8 0, .int .u8 0, .int .u8 0, .int .i64 0, .int .i64 0, .int .i64 0, .int .i64 0, .slice none 0 0] 30) = w2 at hres hbl ⊢
  obtain ⟨Z, hZ⟩ : ∃ Z : Array Value, Z = #[.string ⟨#[]⟩, .int .i64 0, .int .i64 0, .int .i64 0, .int .u8 0, .int .u8 0, .int .u8 0, .int .u8 0, .int .u8 0, .int .u8 0, .int .u8 0, .int .u8 0, .int .u8 0, .int .u8 0, .int .u8 0, .int .u8 0, .int .u8 0, .int .u8 0, .int .u8 0, .int .u8 0, .int .u8 0, .int .u8 0, .int .u8 0, .int .u8 0, .int .u8 0, .int .u8 0, .int .u8 0, .int .u8 0, .int .u8 0, .int .u8 0, .int .u8 0, .int .u8 0, .int .u8 0, .int .u8 0, .int .u8 0, .int .u8 0, .int .i64 0, .int .i64 0, .int .i64 0, .int .i64 0, .slice none 0 0] := ⟨_, rfl⟩
  obtain ⟨R, hR⟩ : ∃ R, R = w.heap.size := ⟨_, rfl⟩
  have hZs := Lib.hid (show Z.size = 41 by rw [hZ]; rfl)
  rw [← hZ, ← hR] at hres
  rw [← hR]
  have hRw : w.heap.size ≤ R := by omega
  have Hres := Lib.hid hres
  have Hbl := Lib.hid hbl
  have hR2 : R < w2.heap.size := lt_heap hres
  have hw2 := hbl.size
  clear hres hbl hZ hR
  go_wp2_with fail
  refine (place_any w2 s 2147483647 (by omega) (by omega) hs1 hs2).mono ?_
  rintro e3 w3 ⟨⟨r1, hr1, rfl⟩, rfl⟩
  go_wp2_with fail
  have hX := heap_alloc_new w3 (.cells #[.int .i64 (r1 : Nat)] 88)
  have hb4 := on_alloc (Below.refl _ w3) (.cells #[.int .i64 (r1 : Nat)] 88)
  have hs4 : (w3.alloc (.cells #[.int .i64 (r1 : Nat)] 88)).heap.size = w3.heap.size + 1 := by simp
  generalize w3.alloc (.cells #[.int .i64 (r1 : Nat)] 88) = w4 at hX hb4 hs4 ⊢
  obtain ⟨X, hXe⟩ : ∃ X, X = w3.heap.size := ⟨_, rfl⟩
  rw [← hXe] at hX
  rw [← hXe]
  have hXw : w.heap.size ≤ X := by omega
  have hX4 : X < w4.heap.size := by omega
  have hR4 : R < w4.heap.size := by omega
  have HX := Lib.hid hX
  have Hres4 := Lib.hid ((hb4.block R hR2).trans Hres.out)
  have Hbl4 := Lib.hid (Hbl.out.trans (hb4.mono hw2))
  have hXR : X ≠ R := by omega
  have hw4 : w.heap.size ≤ w4.heap.size := by omega
  clear hX hb4 hXe hs4 Hbl Hres
  refine (place_any w4 z 3000 (by omega) (by omega) hz1 hz2).mono ?_
  rintro e5 w5 ⟨⟨r2, hr2, rfl⟩, rfl⟩
  go_upto_region 2 with fail
  have hL := heap_alloc_new w5 (.cells #[.int .i64 (1 + (r2 : Nat))] 3)
  have hb6 := on_alloc (Below.refl _ w5) (.cells #[.int .i64 (1 + (r2 : Nat))] 3)
  have hs6 : (w5.alloc (.cells #[.int .i64 (1 + (r2 : Nat))] 3)).heap.size = w5.heap.size + 1 := by simp
  generalize w5.alloc (.cells #[.int .i64 (1 + (r2 : Nat))] 3) = w6 at hL hb6 hs6 ⊢
  obtain ⟨L, hLe⟩ : ∃ L, L = w5.heap.size := ⟨_, rfl⟩
  rw [← hLe] at hL
  rw [← hLe]
  have hXL : X ≠ L := by omega
  have hRL : R ≠ L := by omega
  have hLw : w.heap.size ≤ L := by omega
  have hX6 := (hb6.block X hX4).trans HX.out
  have Hres6 := Lib.hid ((hb6.block R hR4).trans Hres4.out)
  have Hbl6 := Lib.hid (Hbl4.out.trans (hb6.mono hw4))
  have hw6 : w.heap.size ≤ w6.heap.size := by omega
  have hR6 : R < w6.heap.size := by omega
  have hwood := wood_top w6 X L r1 (r2 + 1) hX6 (by rw [show ((r2 + 1 : Nat) : Int) = 1 + (r2 : Int) by omega]; exact hL) hXL (by omega) (by omega) (by omega)
  have Hwood := Lib.hid hwood
  clear hwood hL hb6 hLe hs6 Hbl4 Hres4 HX hX6
  go_wp2_with fail
  refine Hwood.out.mono ?_
  rintro e7 w7 ⟨n, a, c, x', l', rfl, hn, _, hok, hps, _, _, _, hu7⟩
  have Hn := Lib.hid (hn.mono (G := fun b => w6.heap.size ≤ b ∧ b < w7.heap.size) (fun b hb hl => ⟨hb, hl⟩))
  have Hok := Lib.hid hok
  have hps2 : n.parts ≤ 15000 := by omega
  have Hres7 := Lib.hid (hu7.at_ Hres6.out (fun e => by omega))
  have Hbl7 := Lib.hid (Hbl6.out.upd (Nat.le_refl _) hu7 (fun b hb => by omega))
  obtain ⟨D, hD⟩ : ∃ D : Array Value, D = (n.row a c).toArray := ⟨_, rfl⟩
  have Ds := Lib.hid (show D.size = 41 by rw [hD, List.size_toArray]; exact row_len hn.vwf)
  have Do := Lib.hid (show D.all (·.oneCell') = true by rw [hD]; exact all_one (nrow_one _ _ _ _ _ _))
  have HD := Lib.hid hD
  rw [← hD]
  clear hD hn hok hu7 Hwood hps Hres6 Hbl6
  go_wp2_with (refine store_rowW rfl 30 (.tmp 4) (.tmp 15) rfl R D rfl rfl 30 Z Hres7.out (by rw [Ds.out]; kernel_rfl) (by rw [Ds.out, hZs.out]) Do.out ?_)
  intro wz hrz huz
  go_wp2
  refine bodyPost_ret (results_cell_row (P := Try.prog) Try.results48 _ _ R 30 D (0, 0) _ rfl hrz Try.underlying30 rfl (by rw [Ds.out]; kernel_rfl)) rfl ⟨n, a, c, by rw [HD.out], ?_, Hok.out, hps2, ?_⟩
  · exact (Hn.out.kept huz (fun b hb e => by have e' : b = R := e; omega)).mono (fun b hb _ => by omega)
  · exact Hbl7.out.upd (Nat.le_refl _) huz (fun b hb => by omega)
end Go.Proofs.Ythnbinlllmkabaa
