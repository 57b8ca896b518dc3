/- The reference's Plain: a copy without a name. -/
import Derived.Test.YthnbinlllmkabaaCopy
namespace Go.Proofs.Ythnbinlllmkabaa
open Go.RowKit
set_option linter.unusedVariables false
set_option linter.unusedSimpArgs false

/-- A row written over: of the world only what is asked later stays. -/
theorem wpList_store_rowg {P : Program} {ops : Array Oper} {rest : List Oper} {o : Oper} {a : Act} {w : World} {Q : Exit → Act → World → Prop} (hgd : o.guard = none) (ty : TypeId) (x y : Operand) (ho : o.op = .store ty x y)
    (g : Nat) (cells : Array Value) (hx : a.eval x = .pointer (some ⟨g, 0, none⟩)) (hy : a.eval y = .agg cells)
    (t : TypeId) (old : Array Value) (hg : w.heap[g]? = some (.cells old t (0, 0))) (hi : (P.info? ty).map (·.size) = some cells.size)
    (hold : old.size = cells.size) (h1 : cells.all (·.oneCell') = true)
    (h : ∀ w' : World, w'.heap[g]? = some (.cells cells t (0, 0)) → Upd (fun b => b = g) w w' → wpList P ops Q rest (a.put o.dst undef) w') : wpList P ops Q (o :: rest) a w :=
  wpList_store_row hgd ty x y ho g cells hx hy t old hg hi hold h1 (h _ (setRow_heap w g old cells t (0, 0) hg) (Upd.setRow (Upd.refl _ w) g cells rfl))
set_option maxHeartbeats 4000000 in
set_option maxRecDepth 100000 in
theorem plain_ok (F : Nat → Prop) (d : Nat) (w : World) (n : Nd) (a : Option Addr) (c : Nat) (hn : NodeIn w F d n a) (hFw : ∀ b, F b → b < w.heap.size) (hpt : n.parts ≤ 1000000) :
    Calls Try.prog 64 #[.agg (n.row a c).toArray] w fun e' w' => ∃ (a' : Option Addr) (c' : Nat), e' = .returned (.agg ((n.named ⟨#[]⟩).row a' c').toArray) ∧ NodeIn w' (fun b => w.heap.size ≤ b) d (n.named ⟨#[]⟩) a' ∧ Below w.heap.size w w' := by
  have Hn := Lib.hid hn
  have hn41 := Lib.hid (row_len (a := a) (c := c) hn.vwf)
  have hnsz := Lib.hid (show (n.row a c).toArray.size = 41 by rw [List.size_toArray]; exact row_len hn.vwf)
  have Hpt := Lib.hid hpt
  clear hn hpt
  go_enter Try.func64, Try.ntmps64
  have hrow : ∀ o : Obj, ((w.alloc (.cells (n.row a c).toArray 30)).alloc o).rangeAt w.heap.size 0 (n.row a c) := fun o => rangeAt_row ((Below.heap_alloc (w.alloc (.cells (n.row a c).toArray 30)) o w.heap.size (by simp)).trans (heap_alloc_new w _))
  have Hrow := Lib.hid hrow
  clear hrow
  go_wp2_with (refine wpList_load_midg (by rfl) 30 (.tmp 1) rfl w.heap.size 0 rfl (n.row a c) _ (Hrow.out _) Try.underlying30 rfl (by rw [hn41.out]; kernel_rfl) ?_)
  have hblk := (Below.heap_alloc (w.alloc (.cells (n.row a c).toArray 30)) (.cells #[.string ⟨#[]⟩, .int .i64 0, .int .i64 0, .int .i64 0, .int .u8 0, .int .u8 0, .int .u8 0, .int .u8 0, .int .u8 0, .int .u8 0, .int .u8 0, .int .u8 0, .int .u8 0, .int .u8 0, .int .u8 0, .int .u8 0, .int .u8 0, .int .u8 0, .int .u8 0, .int .u8 0, .int .u8 0, .int .u8 0, .int .u8 0, .int .u8 0, .int .u8 0, .int .u8 0, .int .u8 0, .int .u8 0, .int .u8 0, .int .u8 0, .int .u8 0, .int .u8 0, .int .u8 0, .int .u8 0, .int .u8 0, .int .u8 0, .int .i64 0, .int .i64 0, .int .i64 0, .int .i64 0, .slice none 0 0] 30) w.heap.size (by simp)).trans (heap_alloc_new w (.cells (n.row a c).toArray 30))
  have hres := heap_alloc_new (w.alloc (.cells (n.row a c).toArray 30)) (.cells #[.string ⟨#[]⟩, .int .i64 0, .int .i64 0, .int .i64 0, .int .u8 0, .int .u8 0, .int .u8 0, .int .u8 0, .int .u8 0, .int .u8 0, .int .u8 0, .int .u8 0, .int .u8 0, .int .u8 0, .int .u8 0, .int .u8 0, .int .u8 0, .int .u8 0, .int .u8 0, .int .u8 0, .int .u8 0, .int .u8 0, .int .u8 0, .int .u8 0, .int .u8 0, .int .u8 0, .int .u8 0, .int .u8 0, .int .u8 0, .int .u8 0, .int .u8 0, .int .u8 0, .int .u8 0, .int .u8 0, .int .u8 0, .int .u8 0, .int .i64 0, .int .i64 0, .int .i64 0, .int .i64 0, .slice none 0 0] 30)
  rw [World.size_alloc] at hres
  have hbl := on_alloc (on_alloc (Below.refl _ w) (.cells (n.row a c).toArray 30)) (.cells #[.string ⟨#[]⟩, .int .i64 0, .int .i64 0, .int .i64 0, .int .u8 0, .int .u8 0, .int .u8 0, .int .u8 0, .int .u8 0, .int .u8 0, .int .u8 0, .int .u8 0, .int .u8 0, .int .u8 0, .int .u8 0, .int .u8 0, .int .u8 0, .int .u8 0, .int .u8 0, .int .u8 0, .int .u8 0, .int .u8 0, .int .u8 0, .int .u8 0, .int .u8 0, .int .u8 0, .int .u8 0, .int .u8 0, .int .u8 0, .int .u8 0, .int .u8 0, .int .u8 0, .int .u8 0, .int .u8 0, .int .u8 0, .int .u8 0, .int .i64 0, .int .i64 0, .int .i64 0, .int .i64 0, .slice none 0 0] 30)
  generalize (w.alloc (.cells (n.row a c).toArray 30)).alloc (.cells #[.string ⟨#[]⟩, .int .i64 0, .int .i64 0, .int .i64 0, .int .u8 0, .int .u8 0, .int .u8 0, .int .u8 0, .int .u8 0, .int .u8 0, .int .u8 0, .int .u8 0, .int .u8 0, .int .u8 0, .int .u8 0, .int .u8 0, .int .u8 0, .int .u8 0, .int .u8 0, .int .u8 0, .int .u8 0, .int .u8 0, .int .u8 0, .int .u8 0, .int .u8 0, .int .u8 0, .int .u8 0, .int .u8 0, .int .u8 0, .int .u8 0, .int .u8 0, .int .u8 0, .int .u8 0, .int .u8 0, .int .u8 0, .int .u8 0, .int .i64 0, .int .i64 0, .int .i64 0, .int .i64 0, .slice none 0 0] 30) = w2 at hblk hres hbl ⊢
  obtain ⟨Z, hZ⟩ : ∃ Z : Array Value, Z = #[.string ⟨#[]⟩, .int .i64 0, .int .i64 0, .int .i64 0, .int .u8 0, .int .u8 0, .int .u8 0, .int .u8 0, .int .u8 0, .int .u8 0, .int .u8 0, .int .u8 0, .int .u8 0, .int .u8 0, .int .u8 0, .int .u8 0, .int .u8 0, .int .u8 0, .int .u8 0, .int .u8 0, .int .u8 0, .int .u8 0, .int .u8 0, .int .u8 0, .int .u8 0, .int .u8 0, .int .u8 0, .int .u8 0, .int .u8 0, .int .u8 0, .int .u8 0, .int .u8 0, .int .u8 0, .int .u8 0, .int .u8 0, .int .u8 0, .int .i64 0, .int .i64 0, .int .i64 0, .int .i64 0, .slice none 0 0] := ⟨_, rfl⟩
  obtain ⟨B, hB⟩ : ∃ B, B = w.heap.size := ⟨_, rfl⟩
  obtain ⟨R, hR⟩ : ∃ R, R = w.heap.size + 1 := ⟨_, rfl⟩
  have hZs := Lib.hid (show Z.size = 41 by rw [hZ]; rfl)
  rw [← hZ, ← hR] at hres
  rw [← hB] at hblk
  rw [← hR, ← hB]
  have hBR : B ≠ R := by omega
  have hBw : w.heap.size ≤ B := by omega
  have hRw : w.heap.size ≤ R := by omega
  have hB2 : B < w2.heap.size := lt_heap hblk
  have hR2 : R < w2.heap.size := lt_heap hres
  have hw2 : w.heap.size ≤ w2.heap.size := hbl.size
  have Hblk := Lib.hid hblk
  have Hres := Lib.hid hres
  have Hbl := Lib.hid hbl
  clear hblk hres hbl hZ hB hR Hrow
  refine (copy_ok d F w2 n a c (Hn.out.below Hbl.out) (fun b hb => Nat.lt_of_lt_of_le (hFw b hb) hw2) Hpt.out).mono ?_
  rintro e w3 ⟨a', c', rfl, hn3, hb3⟩
  have Hn3 := Lib.hid hn3
  have Hb3 := Lib.hid hb3
  have Hbk3 := Lib.hid ((hb3.block B hB2).trans Hblk.out)
  have Hrs3 := Lib.hid ((hb3.block R hR2).trans Hres.out)
  have hm41 := Lib.hid (row_len (a := a') (c := c') hn3.vwf)
  have hm41s := Lib.hid (show (n.row a' c').toArray.size = 41 by rw [List.size_toArray]; exact hm41.out)
  have hp41 := Lib.hid (show ((n.named ⟨#[]⟩).row a' c').length = 41 from row_len (n := n.named ⟨#[]⟩) hn3.vwf)
  have hp41s := Lib.hid (show ((n.named ⟨#[]⟩).row a' c').toArray.size = 41 by rw [List.size_toArray]; exact hp41.out)
  clear hn3 hb3
  go_wp2_with (refine wpList_store_rowg rfl 30 (.tmp 1) (.tmp 4) rfl B (n.row a' c').toArray rfl rfl 30 (n.row a c).toArray Hbk3.out (by rw [hm41s.out]; kernel_rfl) (by rw [hm41s.out, hnsz.out]) (all_one (nrow_one _ _ _ _ _ _)) ?_)
  intro w4 hset3 hu3
  have z4 := frozen_of_row w4 B 0 _ _ hset3
  obtain ⟨c4, _⟩ := nrow_at (o := 0) Hn3.out.vwf (rangeAt_row hset3)
  have hs4 := heap_setCell_same w4 B 0 _ _ (.string ⟨#[]⟩) hset3
  rw [row_set0] at hs4
  have hu4 : Upd (fun b => b = B) w3 (w4.setCell ⟨B, 0, none⟩ (.string ⟨#[]⟩)) := Upd.setCell hu3 ⟨B, 0, none⟩ (.string ⟨#[]⟩) (fun _ => rfl)
  have Hrs4 := Lib.hid (hu4.at_ Hrs3.out (fun e => hBR e.symm))
  have Hrow4 := Lib.hid (rangeAt_row hs4)
  have Hu4 := Lib.hid hu4
  clear hset3 hs4 hu4 hu3
  go_wp2_with (first | (refine wpList_load_midg (by rfl) 30 (.tmp 1) rfl B 0 rfl ((n.named ⟨#[]⟩).row a' c') _ Hrow4.out Try.underlying30 rfl (by rw [hp41.out]; kernel_rfl) ?_) | (refine wpList_store_row rfl 30 (.tmp 2) (.tmp 6) rfl R ((n.named ⟨#[]⟩).row a' c').toArray rfl rfl 30 Z Hrs4.out (by rw [hp41s.out]; kernel_rfl) (by rw [hp41s.out, hZs.out]) (all_one (nrow_one _ _ _ _ _ _)) ?_))
  have hset := setRow_heap _ R Z ((n.named ⟨#[]⟩).row a' c').toArray 30 (0, 0) Hrs4.out
  refine bodyPost_ret (results_cell_row (P := Try.prog) Try.results64 _ _ R 30 ((n.named ⟨#[]⟩).row a' c').toArray (0, 0) _ rfl hset Try.underlying30 rfl (by rw [hp41s.out]; kernel_rfl)) rfl ⟨a', c', rfl, ⟨Hn3.out.vwf, Hn3.out.mwf, Nat.zero_le _, Hn3.out.ksz, ?_⟩, ?_⟩
  · exact (NodeIn.mono (G := fun b => w.heap.size ≤ b) (NodeIn.kept Hn3.out (Upd.setRow (Upd.mono (T := fun b => b < w2.heap.size) Hu4.out (fun b _ hb => by omega)) R ((n.named ⟨#[]⟩).row a' c').toArray hR2) (fun b hb => by omega)) (fun b hb _ => Nat.le_trans hw2 hb)).kids
  · exact below_setRow ((Hbl.out.trans (Hb3.out.mono hw2)).upd (Nat.le_refl _) Hu4.out (fun b hb => by omega)) hRw _
end Go.Proofs.Ythnbinlllmkabaa
