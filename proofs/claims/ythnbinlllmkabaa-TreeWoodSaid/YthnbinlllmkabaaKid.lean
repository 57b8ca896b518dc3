/- The room's kid and Node, given what their lists become. -/
import Derived.Test.YthnbinlllmkabaaPlain
import Derived.Test.YthnbinlllmkabaaRoomN
namespace Go.Proofs.Ythnbinlllmkabaa
open Go.RowKit
set_option linter.unusedVariables false
set_option linter.unusedSimpArgs false

set_option maxHeartbeats 4000000 in
set_option maxRecDepth 100000 in
theorem kid_of (p : Nat) (F : Nat → Prop) (d : Nat) (w : World) (n : Nd) (a : Option Addr) (c : Nat) (Post : World → Option Addr → Nat → Prop) (hn : NodeIn w F d n a)
    (hcall : ∀ w2, Below w.heap.size w w2 → w2.heap.size = w.heap.size + 2 → Calls Try.prog 101 #[.pointer (some ⟨p, 0, none⟩), .slice a n.kids.length c, .int .i64 4] w2 fun e w3 => ∃ (a' : Option Addr) (c' : Nat), e = .returned (.slice a' n.kids.length c') ∧ (∀ b, w.heap.size ≤ b → b < w2.heap.size → w3.heap[b]? = w2.heap[b]?) ∧ Post w3 a' c')
    (hpost : ∀ w3 w4 a' c', Post w3 a' c' → Upd (fun b => b = w.heap.size ∨ b = w.heap.size + 1) w3 w4 → Post w4 a' c') :
    Calls Try.prog 122 #[.pointer (some ⟨p, 0, none⟩), .agg (n.row a c).toArray] w fun e' w' => ∃ (a' : Option Addr) (c' : Nat), e' = .returned (.agg (n.row a' c').toArray) ∧ Post w' a' c' := by
  have Hn := Lib.hid hn
  have Hcall := Lib.hid hcall
  have Hpost := Lib.hid hpost
  have hn41 := Lib.hid (row_len (a := a) (c := c) hn.vwf)
  have hnsz := Lib.hid (show (n.row a c).toArray.size = 41 by rw [List.size_toArray]; exact row_len hn.vwf)
  have hf : ∀ o : Obj, ((w.alloc (.cells (n.row a c).toArray 30)).alloc o).cell? ⟨w.heap.size, 40, none⟩ = some (.slice a n.kids.length c) := fun o => by
    have h := (nrow_at (o := 0) hn.vwf (rangeAt_row ((Below.heap_alloc (w.alloc (.cells (n.row a c).toArray 30)) o w.heap.size (by simp)).trans (heap_alloc_new w _)))).2.2.2
    simpa using h
  have f40 := hf (.cells #[.string ⟨#[]⟩, .int .i64 0, .int .i64 0, .int .i64 0, .int .u8 0, .int .u8 0, .int .u8 0, .int .u8 0, .int .u8 0, .int .u8 0, .int .u8 0, .int .u8 0, .int .u8 0, .int .u8 0, .int .u8 0, .int .u8 0, .int .u8 0, .int .u8 0, .int .u8 0, .int .u8 0, .int .u8 0, .int .u8 0, .int .u8 0, .int .u8 0, .int .u8 0, .int .u8 0, .int .u8 0, .int .u8 0, .int .u8 0, .int .u8 0, .int .u8 0, .int .u8 0, .int .u8 0, .int .u8 0, .int .u8 0, .int .u8 0, .int .i64 0, .int .i64 0, .int .i64 0, .int .i64 0, .slice none 0 0] 30)
  clear hn hf hcall hpost
  go_enter Try.func122, Try.ntmps122
  go_wp2_with fail
  have hblk := (Below.heap_alloc (w.alloc (.cells (n.row a c).toArray 30)) (.cells #[.string ⟨#[]⟩, .int .i64 0, .int .i64 0, .int .i64 0, .int .u8 0, .int .u8 0, .int .u8 0, .int .u8 0, .int .u8 0, .int .u8 0, .int .u8 0, .int .u8 0, .int .u8 0, .int .u8 0, .int .u8 0, .int .u8 0, .int .u8 0, .int .u8 0, .int .u8 0, .int .u8 0, .int .u8 0, .int .u8 0, .int .u8 0, .int .u8 0, .int .u8 0, .int .u8 0, .int .u8 0, .int .u8 0, .int .u8 0, .int .u8 0, .int .u8 0, .int .u8 0, .int .u8 0, .int .u8 0, .int .u8 0, .int .u8 0, .int .i64 0, .int .i64 0, .int .i64 0, .int .i64 0, .slice none 0 0] 30) w.heap.size (by simp)).trans (heap_alloc_new w (.cells (n.row a c).toArray 30))
  have hres := heap_alloc_new (w.alloc (.cells (n.row a c).toArray 30)) (.cells #[.string ⟨#[]⟩, .int .i64 0, .int .i64 0, .int .i64 0, .int .u8 0, .int .u8 0, .int .u8 0, .int .u8 0, .int .u8 0, .int .u8 0, .int .u8 0, .int .u8 0, .int .u8 0, .int .u8 0, .int .u8 0, .int .u8 0, .int .u8 0, .int .u8 0, .int .u8 0, .int .u8 0, .int .u8 0, .int .u8 0, .int .u8 0, .int .u8 0, .int .u8 0, .int .u8 0, .int .u8 0, .int .u8 0, .int .u8 0, .int .u8 0, .int .u8 0, .int .u8 0, .int .u8 0, .int .u8 0, .int .u8 0, .int .u8 0, .int .i64 0, .int .i64 0, .int .i64 0, .int .i64 0, .slice none 0 0] 30)
  rw [World.size_alloc] at hres
  have hbl := on_alloc (on_alloc (Below.refl _ w) (.cells (n.row a c).toArray 30)) (.cells #[.string ⟨#[]⟩, .int .i64 0, .int .i64 0, .int .i64 0, .int .u8 0, .int .u8 0, .int .u8 0, .int .u8 0, .int .u8 0, .int .u8 0, .int .u8 0, .int .u8 0, .int .u8 0, .int .u8 0, .int .u8 0, .int .u8 0, .int .u8 0, .int .u8 0, .int .u8 0, .int .u8 0, .int .u8 0, .int .u8 0, .int .u8 0, .int .u8 0, .int .u8 0, .int .u8 0, .int .u8 0, .int .u8 0, .int .u8 0, .int .u8 0, .int .u8 0, .int .u8 0, .int .u8 0, .int .u8 0, .int .u8 0, .int .u8 0, .int .i64 0, .int .i64 0, .int .i64 0, .int .i64 0, .slice none 0 0] 30)
  have hsz : ((w.alloc (.cells (n.row a c).toArray 30)).alloc (.cells #[.string ⟨#[]⟩, .int .i64 0, .int .i64 0, .int .i64 0, .int .u8 0, .int .u8 0, .int .u8 0, .int .u8 0, .int .u8 0, .int .u8 0, .int .u8 0, .int .u8 0, .int .u8 0, .int .u8 0, .int .u8 0, .int .u8 0, .int .u8 0, .int .u8 0, .int .u8 0, .int .u8 0, .int .u8 0, .int .u8 0, .int .u8 0, .int .u8 0, .int .u8 0, .int .u8 0, .int .u8 0, .int .u8 0, .int .u8 0, .int .u8 0, .int .u8 0, .int .u8 0, .int .u8 0, .int .u8 0, .int .u8 0, .int .u8 0, .int .i64 0, .int .i64 0, .int .i64 0, .int .i64 0, .slice none 0 0] 30)).heap.size = w.heap.size + 2 := by rw [World.size_alloc, World.size_alloc]
  clear f40
  generalize (w.alloc (.cells (n.row a c).toArray 30)).alloc (.cells #[.string ⟨#[]⟩, .int .i64 0, .int .i64 0, .int .i64 0, .int .u8 0, .int .u8 0, .int .u8 0, .int .u8 0, .int .u8 0, .int .u8 0, .int .u8 0, .int .u8 0, .int .u8 0, .int .u8 0, .int .u8 0, .int .u8 0, .int .u8 0, .int .u8 0, .int .u8 0, .int .u8 0, .int .u8 0, .int .u8 0, .int .u8 0, .int .u8 0, .int .u8 0, .int .u8 0, .int .u8 0, .int .u8 0, .int .u8 0, .int .u8 0, .int .u8 0, .int .u8 0, .int .u8 0, .int .u8 0, .int .u8 0, .int .u8 0, .int .i64 0, .int .i64 0, .int .i64 0, .int .i64 0, .slice none 0 0] 30) = w2 at hblk hres hbl hsz ⊢
  obtain ⟨Z, hZ⟩ : ∃ Z : Array Value, Z = #[.string ⟨#[]⟩, .int .i64 0, .int .i64 0, .int .i64 0, .int .u8 0, .int .u8 0, .int .u8 0, .int .u8 0, .int .u8 0, .int .u8 0, .int .u8 0, .int .u8 0, .int .u8 0, .int .u8 0, .int .u8 0, .int .u8 0, .int .u8 0, .int .u8 0, .int .u8 0, .int .u8 0, .int .u8 0, .int .u8 0, .int .u8 0, .int .u8 0, .int .u8 0, .int .u8 0, .int .u8 0, .int .u8 0, .int .u8 0, .int .u8 0, .int .u8 0, .int .u8 0, .int .u8 0, .int .u8 0, .int .u8 0, .int .u8 0, .int .i64 0, .int .i64 0, .int .i64 0, .int .i64 0, .slice none 0 0] := ⟨_, rfl⟩
  have Hc2 := Lib.hid (Hcall.out w2 hbl hsz)
  have Hpost2 := Hpost
  have hBo : w.heap.size ≤ w.heap.size := Nat.le_refl _
  obtain ⟨B, hB⟩ : ∃ B, B = w.heap.size := ⟨_, rfl⟩
  obtain ⟨R, hR⟩ : ∃ R, R = w.heap.size + 1 := ⟨_, rfl⟩
  have hZs := Lib.hid (show Z.size = 41 by rw [hZ]; rfl)
  rw [← hZ, ← hR] at hres
  rw [← hB] at hblk
  rw [← hR, ← hB]
  have hBR : B ≠ R := by omega
  have hB2 : B < w2.heap.size := lt_heap hblk
  have hR2 : R < w2.heap.size := lt_heap hres
  have Hblk := Lib.hid hblk
  have Hres := Lib.hid hres
  have HBR := Lib.hid (And.intro hB hR)
  clear hblk hres hbl hZ hB hR hsz Hcall
  refine Hc2.out.mono ?_
  rintro e w3 ⟨a', c', rfl, hsame, hp3⟩
  have Hp3 := Lib.hid hp3
  have hbk3 := (hsame B (by have := HBR.out.1; omega) hB2).trans Hblk.out
  have Hrs3 := Lib.hid ((hsame R (by have := HBR.out.2; omega) hR2).trans Hres.out)
  have hp41 := Lib.hid (row_len (a := a') (c := c') Hn.out.vwf)
  have hp41s := Lib.hid (show (n.row a' c').toArray.size = 41 by rw [List.size_toArray]; exact hp41.out)
  obtain ⟨zn, zv, zm, c40⟩ := nrow_at (o := 0) Hn.out.vwf (rangeAt_row hbk3)
  simp only [Nat.zero_add] at c40
  have z4 := frozen_of_row w3 B 40 _ _ hbk3
  have hs4 := heap_setCell_same w3 B 40 _ _ (.slice a' n.kids.length c') hbk3
  rw [row_set40 n a a' c c' Hn.out.vwf] at hs4
  have hu4 : Upd (fun b => b = B) w3 (w3.setCell ⟨B, 40, none⟩ (.slice a' n.kids.length c')) := Upd.setCell (Upd.refl _ w3) ⟨B, 40, none⟩ _ (fun _ => rfl)
  have Hrs4 := Lib.hid (hu4.at_ Hrs3.out (fun e => hBR e.symm))
  have Hrow4 := Lib.hid (rangeAt_row hs4)
  have Hu4 := Lib.hid hu4
  clear hs4 hu4 zn zv zm hsame hp3 hbk3
  go_wp2_with (first | (refine wpList_load_midg (by rfl) 30 (.tmp 3) rfl B 0 rfl (n.row a' c') _ Hrow4.out Try.underlying30 rfl (by rw [hp41.out]; kernel_rfl) ?_) | (refine wpList_store_row rfl 30 (.tmp 4) (.tmp 10) rfl R (n.row a' c').toArray rfl rfl 30 Z Hrs4.out (by rw [hp41s.out]; kernel_rfl) (by rw [hp41s.out, hZs.out]) (all_one (nrow_one _ _ _ _ _ _)) ?_))
  have hset := setRow_heap _ R Z (n.row a' c').toArray 30 (0, 0) Hrs4.out
  refine bodyPost_ret (results_cell_row (P := Try.prog) Try.results122 _ _ R 30 (n.row a' c').toArray (0, 0) _ rfl hset Try.underlying30 rfl (by rw [hp41s.out]; kernel_rfl)) rfl ⟨a', c', rfl, ?_⟩
  refine Hpost.out w3 _ a' c' Hp3.out (Upd.setRow (Upd.mono (T := fun b => b = w.heap.size ∨ b = w.heap.size + 1) Hu4.out (fun b _ hb => .inl (by rw [← HBR.out.1]; exact hb))) R _ (.inr HBR.out.2))
set_option maxHeartbeats 4000000 in
set_option maxRecDepth 100000 in
theorem roomNode_of (p : Nat) (F : Nat → Prop) (d : Nat) (w : World) (n : Nd) (a : Option Addr) (c : Nat) (Post : World → Option Addr → Nat → Prop) (hn : NodeIn w F d n a)
    (hcall : ∀ w2, Below w.heap.size w w2 → w2.heap.size = w.heap.size + 2 → Calls Try.prog 59 #[.pointer (some ⟨p, 0, none⟩), .slice a n.kids.length c] w2 fun e w3 => ∃ (a' : Option Addr) (c' : Nat), e = .returned (.slice a' n.kids.length c') ∧ (∀ b, w.heap.size ≤ b → b < w2.heap.size → w3.heap[b]? = w2.heap[b]?) ∧ Post w3 a' c')
    (hpost : ∀ w3 w4 a' c', Post w3 a' c' → Upd (fun b => b = w.heap.size ∨ b = w.heap.size + 1) w3 w4 → Post w4 a' c') :
    Calls Try.prog 10 #[.pointer (some ⟨p, 0, none⟩), .agg (n.row a c).toArray] w fun e' w' => ∃ (a' : Option Addr) (c' : Nat), e' = .returned (.agg (n.row a' c').toArray) ∧ Post w' a' c' := by
  have Hn := Lib.hid hn
  have Hcall := Lib.hid hcall
  have Hpost := Lib.hid hpost
  have hn41 := Lib.hid (row_len (a := a) (c := c) hn.vwf)
  have hnsz := Lib.hid (show (n.row a c).toArray.size = 41 by rw [List.size_toArray]; exact row_len hn.vwf)
  have hf : ∀ o : Obj, ((w.alloc (.cells (n.row a c).toArray 30)).alloc o).cell? ⟨w.heap.size, 40, none⟩ = some (.slice a n.kids.length c) := fun o => by
    have h := (nrow_at (o := 0) hn.vwf (rangeAt_row ((Below.heap_alloc (w.alloc (.cells (n.row a c).toArray 30)) o w.heap.size (by simp)).trans (heap_alloc_new w _)))).2.2.2
    simpa using h
  have f40 := hf (.cells #[.string ⟨#[]⟩, .int .i64 0, .int .i64 0, .int .i64 0, .int .u8 0, .int .u8 0, .int .u8 0, .int .u8 0, .int .u8 0, .int .u8 0, .int .u8 0, .int .u8 0, .int .u8 0, .int .u8 0, .int .u8 0, .int .u8 0, .int .u8 0, .int .u8 0, .int .u8 0, .int .u8 0, .int .u8 0, .int .u8 0, .int .u8 0, .int .u8 0, .int .u8 0, .int .u8 0, .int .u8 0, .int .u8 0, .int .u8 0, .int .u8 0, .int .u8 0, .int .u8 0, .int .u8 0, .int .u8 0, .int .u8 0, .int .u8 0, .int .i64 0, .int .i64 0, .int .i64 0, .int .i64 0, .slice none 0 0] 30)
  clear hn hf hcall hpost
  go_enter Try.func10, Try.ntmps10
  go_wp2_with fail
  have hblk := (Below.heap_alloc (w.alloc (.cells (n.row a c).toArray 30)) (.cells #[.string ⟨#[]⟩, .int .i64 0, .int .i64 0, .int .i64 0, .int .u8 0, .int .u8 0, .int .u8 0, .int .u8 0, .int .u8 0, .int .u8 0, .int .u8 0, .int .u8 0, .int .u8 0, .int .u8 0, .int .u8 0, .int .u8 0, .int .u8 0, .int .u8 0, .int .u8 0, .int .u8 0, .int .u8 0, .int .u8 0, .int .u8 0, .int .u8 0, .int .u8 0, .int .u8 0, .int .u8 0, .int .u8 0, .int .u8 0, .int .u8 0, .int .u8 0, .int .u8 0, .int .u8 0, .int .u8 0, .int .u8 0, .int .u8 0, .int .i64 0, .int .i64 0, .int .i64 0, .int .i64 0, .slice none 0 0] 30) w.heap.size (by simp)).trans (heap_alloc_new w (.cells (n.row a c).toArray 30))
  have hres := heap_alloc_new (w.alloc (.cells (n.row a c).toArray 30)) (.cells #[.string ⟨#[]⟩, .int .i64 0, .int .i64 0, .int .i64 0, .int .u8 0, .int .u8 0, .int .u8 0, .int .u8 0, .int .u8 0, .int .u8 0, .int .u8 0, .int .u8 0, .int .u8 0, .int .u8 0, .int .u8 0, .int .u8 0, .int .u8 0, .int .u8 0, .int .u8 0, .int .u8 0, .int .u8 0, .int .u8 0, .int .u8 0, .int .u8 0, .int .u8 0, .int .u8 0, .int .u8 0, .int .u8 0, .int .u8 0, .int .u8 0, .int .u8 0, .int .u8 0, .int .u8 0, .int .u8 0, .int .u8 0, .int .u8 0, .int .i64 0, .int .i64 0, .int .i64 0, .int .i64 0, .slice none 0 0] 30)
  rw [World.size_alloc] at hres
  have hbl := on_alloc (on_alloc (Below.refl _ w) (.cells (n.row a c).toArray 30)) (.cells #[.string ⟨#[]⟩, .int .i64 0, .int .i64 0, .int .i64 0, .int .u8 0, .int .u8 0, .int .u8 0, .int .u8 0, .int .u8 0, .int .u8 0, .int .u8 0, .int .u8 0, .int .u8 0, .int .u8 0, .int .u8 0, .int .u8 0, .int .u8 0, .int .u8 0, .int .u8 0, .int .u8 0, .int .u8 0, .int .u8 0, .int .u8 0, .int .u8 0, .int .u8 0, .int .u8 0, .int .u8 0, .int .u8 0, .int .u8 0, .int .u8 0, .int .u8 0, .int .u8 0, .int .u8 0, .int .u8 0, .int .u8 0, .int .u8 0, .int .i64 0, .int .i64 0, .int .i64 0, .int .i64 0, .slice none 0 0] 30)
  have hsz : ((w.alloc (.cells (n.row a c).toArray 30)).alloc (.cells #[.string ⟨#[]⟩, .int .i64 0, .int .i64 0, .int .i64 0, .int .u8 0, .int .u8 0, .int .u8 0, .int .u8 0, .int .u8 0, .int .u8 0, .int .u8 0, .int .u8 0, .int .u8 0, .int .u8 0, .int .u8 0, .int .u8 0, .int .u8 0, .int .u8 0, .int .u8 0, .int .u8 0, .int .u8 0, .int .u8 0, .int .u8 0, .int .u8 0, .int .u8 0, .int .u8 0, .int .u8 0, .int .u8 0, .int .u8 0, .int .u8 0, .int .u8 0, .int .u8 0, .int .u8 0, .int .u8 0, .int .u8 0, .int .u8 0, .int .i64 0, .int .i64 0, .int .i64 0, .int .i64 0, .slice none 0 0] 30)).heap.size = w.heap.size + 2 := by rw [World.size_alloc, World.size_alloc]
  clear f40
  generalize (w.alloc (.cells (n.row a c).toArray 30)).alloc (.cells #[.string ⟨#[]⟩, .int .i64 0, .int .i64 0, .int .i64 0, .int .u8 0, .int .u8 0, .int .u8 0, .int .u8 0, .int .u8 0, .int .u8 0, .int .u8 0, .int .u8 0, .int .u8 0, .int .u8 0, .int .u8 0, .int .u8 0, .int .u8 0, .int .u8 0, .int .u8 0, .int .u8 0, .int .u8 0, .int .u8 0, .int .u8 0, .int .u8 0, .int .u8 0, .int .u8 0, .int .u8 0, .int .u8 0, .int .u8 0, .int .u8 0, .int .u8 0, .int .u8 0, .int .u8 0, .int .u8 0, .int .u8 0, .int .u8 0, .int .i64 0, .int .i64 0, .int .i64 0, .int .i64 0, .slice none 0 0] 30) = w2 at hblk hres hbl hsz ⊢
  obtain ⟨Z, hZ⟩ : ∃ Z : Array Value, Z = #[.string ⟨#[]⟩, .int .i64 0, .int .i64 0, .int .i64 0, .int .u8 0, .int .u8 0, .int .u8 0, .int .u8 0, .int .u8 0, .int .u8 0, .int .u8 0, .int .u8 0, .int .u8 0, .int .u8 0, .int .u8 0, .int .u8 0, .int .u8 0, .int .u8 0, .int .u8 0, .int .u8 0, .int .u8 0, .int .u8 0, .int .u8 0, .int .u8 0, .int .u8 0, .int .u8 0, .int .u8 0, .int .u8 0, .int .u8 0, .int .u8 0, .int .u8 0, .int .u8 0, .int .u8 0, .int .u8 0, .int .u8 0, .int .u8 0, .int .i64 0, .int .i64 0, .int .i64 0, .int .i64 0, .slice none 0 0] := ⟨_, rfl⟩
  have Hc2 := Lib.hid (Hcall.out w2 hbl hsz)
  have Hpost2 := Hpost
  have hBo : w.heap.size ≤ w.heap.size := Nat.le_refl _
  obtain ⟨B, hB⟩ : ∃ B, B = w.heap.size := ⟨_, rfl⟩
  obtain ⟨R, hR⟩ : ∃ R, R = w.heap.size + 1 := ⟨_, rfl⟩
  have hZs := Lib.hid (show Z.size = 41 by rw [hZ]; rfl)
  rw [← hZ, ← hR] at hres
  rw [← hB] at hblk
  rw [← hR, ← hB]
  have hBR : B ≠ R := by omega
  have hB2 : B < w2.heap.size := lt_heap hblk
  have hR2 : R < w2.heap.size := lt_heap hres
  have Hblk := Lib.hid hblk
  have Hres := Lib.hid hres
  have HBR := Lib.hid (And.intro hB hR)
  clear hblk hres hbl hZ hB hR hsz Hcall
  refine Hc2.out.mono ?_
  rintro e w3 ⟨a', c', rfl, hsame, hp3⟩
  have Hp3 := Lib.hid hp3
  have hbk3 := (hsame B (by have := HBR.out.1; omega) hB2).trans Hblk.out
  have Hrs3 := Lib.hid ((hsame R (by have := HBR.out.2; omega) hR2).trans Hres.out)
  have hp41 := Lib.hid (row_len (a := a') (c := c') Hn.out.vwf)
  have hp41s := Lib.hid (show (n.row a' c').toArray.size = 41 by rw [List.size_toArray]; exact hp41.out)
  obtain ⟨zn, zv, zm, c40⟩ := nrow_at (o := 0) Hn.out.vwf (rangeAt_row hbk3)
  simp only [Nat.zero_add] at c40
  have z4 := frozen_of_row w3 B 40 _ _ hbk3
  have hs4 := heap_setCell_same w3 B 40 _ _ (.slice a' n.kids.length c') hbk3
  rw [row_set40 n a a' c c' Hn.out.vwf] at hs4
  have hu4 : Upd (fun b => b = B) w3 (w3.setCell ⟨B, 40, none⟩ (.slice a' n.kids.length c')) := Upd.setCell (Upd.refl _ w3) ⟨B, 40, none⟩ _ (fun _ => rfl)
  have Hrs4 := Lib.hid (hu4.at_ Hrs3.out (fun e => hBR e.symm))
  have Hrow4 := Lib.hid (rangeAt_row hs4)
  have Hu4 := Lib.hid hu4
  clear hs4 hu4 zn zv zm hsame hp3 hbk3
  go_wp2_with (first | (refine wpList_load_midg (by rfl) 30 (.tmp 3) rfl B 0 rfl (n.row a' c') _ Hrow4.out Try.underlying30 rfl (by rw [hp41.out]; kernel_rfl) ?_) | (refine wpList_store_row rfl 30 (.tmp 4) (.tmp 10) rfl R (n.row a' c').toArray rfl rfl 30 Z Hrs4.out (by rw [hp41s.out]; kernel_rfl) (by rw [hp41s.out, hZs.out]) (all_one (nrow_one _ _ _ _ _ _)) ?_))
  have hset := setRow_heap _ R Z (n.row a' c').toArray 30 (0, 0) Hrs4.out
  refine bodyPost_ret (results_cell_row (P := Try.prog) Try.results10 _ _ R 30 (n.row a' c').toArray (0, 0) _ rfl hset Try.underlying30 rfl (by rw [hp41s.out]; kernel_rfl)) rfl ⟨a', c', rfl, ?_⟩
  refine Hpost.out w3 _ a' c' Hp3.out (Upd.setRow (Upd.mono (T := fun b => b = w.heap.size ∨ b = w.heap.size + 1) Hu4.out (fun b _ hb => .inl (by rw [← HBR.out.1]; exact hb))) R _ (.inr HBR.out.2))
theorem nodes_of (p : Nat) (w : World) (m : Nat) (a : Option Addr) (c : Nat) (Post : World → Option Addr → Nat → Prop)
    (hcall : Calls Try.prog 101 #[.pointer (some ⟨p, 0, none⟩), .slice a m c, .int .i64 40] w fun e w3 => ∃ (a' : Option Addr) (c' : Nat), e = .returned (.slice a' m c') ∧ Post w3 a' c') :
    Calls Try.prog 59 #[.pointer (some ⟨p, 0, none⟩), .slice a m c] w fun e w3 => ∃ (a' : Option Addr) (c' : Nat), e = .returned (.slice a' m c') ∧ Post w3 a' c' := by
  have Hcall := Lib.hid hcall
  clear hcall
  go_enter Try.func59, Try.ntmps59
  go_wp2_with fail
  refine Hcall.out.mono ?_
  rintro e w3 ⟨a', c', rfl, hp⟩
  have Hp := Lib.hid hp
  clear hp
  go_wp2
  go_ret
  exact ⟨a', c', rfl, Hp.out⟩
end Go.Proofs.Ythnbinlllmkabaa
