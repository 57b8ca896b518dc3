/- The tree's Node, given what node answers. -/
import Derived.Test.YthnbinlllmkabaaPlain
namespace Go.Proofs.Ythnbinlllmkabaa
open Go.RowKit
set_option linter.unusedVariables false
set_option linter.unusedSimpArgs false

set_option maxHeartbeats 2000000 in
set_option maxRecDepth 100000 in
theorem treeNode_of (d : Nat) (w : World) (tp : Addr) (N : Nd)
    (hnode : ∀ w2, Below w.heap.size w w2 → Calls Try.prog 95 #[.pointer (some tp), .string ⟨#[]⟩] w2 fun e w3 => ∃ (a' : Option Addr) (c' : Nat), e = .returned (.agg (N.row a' c').toArray) ∧ NodeIn w3 (fun b => w2.heap.size ≤ b) d N a' ∧ Below w2.heap.size w2 w3) :
    Calls Try.prog 46 #[.pointer (some tp)] w fun e w3 => ∃ (a' : Option Addr) (c' : Nat), e = .returned (.agg (N.row a' c').toArray) ∧ NodeIn w3 (fun b => w.heap.size ≤ b) d N a' ∧ Below w.heap.size w w3 := by
  have Hnode := Lib.hid hnode
  clear hnode
  go_enter Try.func46, Try.ntmps46
  go_wp2_with fail
  have hres := heap_alloc_new w (.cells #[.string ⟨#[]⟩, .int .i64 0, .int .i64 0, .int .i64 0, .int .u8 0, .int .u8 0, .int .u8 0, .int .u8 0, .int .u8 0, .int .u8 0, .int .u8 0, .int .u8 0, .int .u8 0, .int .u8 0, .int .u8 0, .int .u8 0, .int .u8 0, .int .u8 0, .int .u8 0, .int .u8 0, .int .u8 0, .int .u8 0, .int .u8 0, .int .u8 0, .int .u8 0, .int .u8 0, .int .u8 0, .int .u8 0, .int .u8 0, .int .u8 0, .int .u8 0, .int .u8 0, .int .u8 0, .int .u8 0, .int .u8 0, .int .u8 0, .int .i64 0, .int .i64 0, .int .i64 0, .int .i64 0, .slice none 0 0] 30)
  have hbl := on_alloc (Below.refl _ w) (.cells #[.string ⟨#[]⟩, .int .i64 0, .int .i64 0, .int .i64 0, .int .u8 0, .int .u8 0, .int .u8 0, .int .u8 0, .int .u8 0, .int .u8 0, .int .u8 0, .int .u8 0, .int .u8 0, .int .u8 0, .int .u8 0, .int .u8 0, .int .u8 0, .int .u8 0, .int .u8 0, .int .u8 0, .int .u8 0, .int .u8 0, .int .u8 0, .int .u8 0, .int .u8 0, .int .u8 0, .int .u8 0, .int .u8 0, .int .u8 0, .int .u8 0, .int .u8 0, .int .u8 0, .int .u8 0, .int .u8 0, .int .u8 0, .int .u8 0, .int .i64 0, .int .i64 0, .int .i64 0, .int .i64 0, .slice none 0 0] 30)
  have hsz : (w.alloc (.cells #[.string ⟨#[]⟩, .int .i64 0, .int .i64 0, .int .i64 0, .int .u8 0, .int .u8 0, .int .u8 0, .int .u8 0, .int .u8 0, .int .u8 0, .int .u8 0, .int .u8 0, .int .u8 0, .int .u8 0, .int .u8 0, .int .u8 0, .int .u8 0, .int .u8 0, .int .u8 0, .int .u8 0, .int .u8 0, .int .u8 0, .int .u8 0, .int .u8 0, .int .u8 0, .int .u8 0, .int .u8 0, .int .u8 0, .int .u8 0, .int .u8 0, .int .u8 0, .int .u8 0, .int .u8 0, .int .u8 0, .int .u8 0, .int .u8 0, .int .i64 0, .int .i64 0, .int .i64 0, .int .i64 0, .slice none 0 0] 30)).heap.size = w.heap.size + 1 := by rw [World.size_alloc]
  generalize w.alloc (.cells #[.string ⟨#[]⟩, .int .i64 0, .int .i64 0, .int .i64 0, .int .u8 0, .int .u8 0, .int .u8 0, .int .u8 0, .int .u8 0, .int .u8 0, .int .u8 0, .int .u8 0, .int .u8 0, .int .u8 0, .int .u8 0, .int .u8 0, .int .u8 0, .int .u8 0, .int .u8 0, .int .u8 0, .int .u8 0, .int .u8 0, .int .u8 0, .int .u8 0, .int .u8 0, .int .u8 0, .int .u8 0, .int .u8 0, .int .u8 0, .int .u8 0, .int .u8 0, .int .u8 0, .int .u8 0, .int .u8 0, .int .u8 0, .int .u8 0, .int .i64 0, .int .i64 0, .int .i64 0, .int .i64 0, .slice none 0 0] 30) = w2 at hres hbl hsz ⊢
  obtain ⟨Z, hZ⟩ : ∃ Z : Array Value, Z = #[.string ⟨#[]⟩, .int .i64 0, .int .i64 0, .int .i64 0, .int .u8 0, .int .u8 0, .int .u8 0, .int .u8 0, .int .u8 0, .int .u8 0, .int .u8 0, .int .u8 0, .int .u8 0, .int .u8 0, .int .u8 0, .int .u8 0, .int .u8 0, .int .u8 0, .int .u8 0, .int .u8 0, .int .u8 0, .int .u8 0, .int .u8 0, .int .u8 0, .int .u8 0, .int .u8 0, .int .u8 0, .int .u8 0, .int .u8 0, .int .u8 0, .int .u8 0, .int .u8 0, .int .u8 0, .int .u8 0, .int .u8 0, .int .u8 0, .int .i64 0, .int .i64 0, .int .i64 0, .int .i64 0, .slice none 0 0] := ⟨_, rfl⟩
  obtain ⟨R, hR⟩ : ∃ R, R = w.heap.size := ⟨_, rfl⟩
  have hZs := Lib.hid (show Z.size = 41 by rw [hZ]; rfl)
  rw [← hZ, ← hR] at hres
  rw [← hR]
  have hR2 : R < w2.heap.size := lt_heap hres
  have hRw : w.heap.size ≤ R := by omega
  have hw2 : w.heap.size ≤ w2.heap.size := hbl.size
  have Hres := Lib.hid hres
  have Hbl := Lib.hid hbl
  clear hres hbl hZ hR hsz
  refine (Hnode.out w2 Hbl.out).mono ?_
  rintro e w3 ⟨a', c', rfl, hn3, hb3⟩
  have Hn3 := Lib.hid hn3
  have Hb3 := Lib.hid hb3
  have Hrs3 := Lib.hid ((hb3.block R hR2).trans Hres.out)
  have hp41s := Lib.hid (show (N.row a' c').toArray.size = 41 by rw [List.size_toArray]; exact row_len hn3.vwf)
  clear hn3 hb3
  go_wp2_with (refine wpList_store_row rfl 30 (.tmp 2) (.tmp 4) rfl R (N.row a' c').toArray rfl rfl 30 Z Hrs3.out (by rw [hp41s.out]; kernel_rfl) (by rw [hp41s.out, hZs.out]) (all_one (nrow_one _ _ _ _ _ _)) ?_)
  have hset := setRow_heap _ R Z (N.row a' c').toArray 30 (0, 0) Hrs3.out
  refine bodyPost_ret (results_cell_row (P := Try.prog) Try.results46 _ _ R 30 (N.row a' c').toArray (0, 0) _ rfl hset Try.underlying30 rfl (by rw [hp41s.out]; kernel_rfl)) rfl ⟨a', c', rfl, ?_, below_setRow (Hbl.out.trans (Hb3.out.mono hw2)) hRw _⟩
  exact NodeIn.mono (G := fun b => w.heap.size ≤ b) (NodeIn.kept Hn3.out (Upd.setRow (S := fun b => b < w2.heap.size) (Upd.refl _ w3) R (N.row a' c').toArray hR2) (fun b hb => by omega)) (fun b hb _ => Nat.le_trans hw2 hb)
end Go.Proofs.Ythnbinlllmkabaa
