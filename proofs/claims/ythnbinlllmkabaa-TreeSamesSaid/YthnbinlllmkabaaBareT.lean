/- bare, walked: a tree's raw data without marks. -/
import Derived.Test.YthnbinlllmkabaaSameP
import Derived.Test.YthnbinlllmkabaaGrown
import Derived.Test.YthnbinlllmkabaaNode
import Derived.Test.YthnbinlllmkabaaTNode
namespace Go.Proofs.Ythnbinlllmkabaa
open Go.RowKit
set_option linter.unusedVariables false
set_option linter.unusedSimpArgs false

set_option maxHeartbeats 2000000 in
set_option maxRecDepth 100000 in
theorem bare_any (d : Nat) (w : World) (p : Nat) (n : Nd) (ht : TreeAt w (fun _ => True) d p n) (hpt : n.parts ≤ 1000000) :
    Calls Try.prog 44 #[.pointer (some ⟨p, 0, none⟩)] w fun e w3 => ∃ (a' : Option Addr) (c' : Nat), e = .returned (.agg (((bareN n).named ⟨#[]⟩).row a' c').toArray) ∧ NodeIn w3 (fun b => w.heap.size ≤ b) d ((bareN n).named ⟨#[]⟩) a' ∧ Below w.heap.size w w3 := by
  have Ht := Lib.hid ht
  clear ht
  obtain ⟨N, hN⟩ : ∃ N, N = (bareN n).named ⟨#[]⟩ := ⟨_, rfl⟩
  rw [← hN]
  have HN := Lib.hid hN
  clear hN
  go_enter Try.func44, Try.ntmps44
  go_wp2_with fail
  have hres := heap_alloc_new w (.cells #[.string ⟨#[]⟩, .int .i64 0, .int .i64 0, .int .i64 0, .int .u8 0, .int .u8 0, .int .u8 0, .int .u8 0, .int .u8 0, .int .u8 0, .int .u8 0, .int .u8 0, .int .u8 0, .int .u8 0, .int .u8 0, .int .u8 0, .int .u8 0, .int .u8 0, .int .u8 0, .int .u8 0, .int .u8 0, .int .u8 0, .int .u8 0, .int .u8 0, .int .u8 0, .int .u8 0, .int .u8 0, .int .u8 0, .int .u8 0, .int .u8 0, .int .u8 0, .int .u8 0, .int .u8 0, .int .u8 0, .int .u8 0, .int .u8 0, .int .i64 0, .int .i64 0, .int .i64 0, .int .i64 0, .slice none 0 0] 30)
  have hbl := on_alloc (Below.refl _ w) (.cells #[.string ⟨#[]⟩, .int .i64 0, .int .i64 0, .int .i64 0, .int .u8 0, .int .u8 0, .int .u8 0, .int .u8 0, .int .u8 0, .int .u8 0, .int .u8 0, .int .u8 0, .int .u8 0, .int .u8 0, .int .u8 0, .int .u8 0, .int .u8 0, .int .u8 0, .int .u8 0, .int .u8 0, .int .u8 0, .int .u8 0, .int .u8 0, .int .u8 0, .int .u8 0, .int .u8 0, .int .u8 0, .int .u8 0, .int .u8 0, .int .u8 0, .int .u8 0, .int .u8 0, .int .u8 0, .int .u8 0, .int .u8 0, .int .u8 0, .int .i64 0, .int .i64 0, .int .i64 0, .int .i64 0, .slice none 0 0] 30)
  have hsz : (w.alloc (.cells #[.string ⟨#[]⟩, .int .i64 0, .int .i64 0, .int .i64 0, .int .u8 0, .int .u8 0, .int .u8 0, .int .u8 0, .int .u8 0, .int .u8 0, .int .u8 0, .int .u8 0, .int .u8 0, .int .u8 0, .int .u8 0, .int .u8 0, .int .u8 0, .int .u8 0, .int .u8 0, .int .u8 0, .int .u8 0, .int .u8 0, .int .u8 0, .int .u8 0, .int .u8 0, .int .u8 0, .int .u8 0, .int .u8 0, .int .u8 0, .int .u8 0, .int .u8 0, .int .u8 0, .int .u8 0, .int .u8 0, .int .u8 0, .int .u8 0, .int .i64 0, .int .i64 0, .int .i64 0, .int .i64 0, .slice none 0 0] 30)).heap.size = w.heap.size + 1 := by rw [World.size_alloc]
  generalize w.alloc (.cells #[.string ⟨#[]⟩, .int .i64 0, .int .i64 0, .int .i64 0, .int .u8 0, .int .u8 0, .int .u8 0, .int .u8 0, .int .u8 0, .int .u8 0, .int .u8 0, .int .u8 0, .int .u8 0, .int .u8 0, .int .u8 0, .int .u8 0, .int .u8 0, .int .u8 0, .int .u8 0, .int .u8 0, .int .u8 0, .int .u8 0, .int .u8 0, .int .u8 0, .int .u8 0, .int .u8 0, .int .u8 0, .int .u8 0, .int .u8 0, .int .u8 0, .int .u8 0, .int .u8 0, .int .u8 0, .int .u8 0, .int .u8 0, .int .u8 0, .int .i64 0, .int .i64 0, .int .i64 0, .int .i64 0, .slice none 0 0] 30) = w2 at hres hbl hsz ⊢
  obtain ⟨Z, hZ⟩ : ∃ Z : Array Value, Z = #[.string ⟨#[]⟩, .int .i64 0, .int .i64 0, .int .i64 0, .int .u8 0, .int .u8 0, .int .u8 0, .int .u8 0, .int .u8 0, .int .u8 0, .int .u8 0, .int .u8 0, .int .u8 0, .int .u8 0, .int .u8 0, .int .u8 0, .int .u8 0, .int .u8 0, .int .u8 0, .int .u8 0, .int .u8 0, .int .u8 0, .int .u8 0, .int .u8 0, .int .u8 0, .int .u8 0, .int .u8 0, .int .u8 0, .int .u8 0, .int .u8 0, .int .u8 0, .int .u8 0, .int .u8 0, .int .u8 0, .int .u8 0, .int .u8 0, .int .i64 0, .int .i64 0, .int .i64 0, .int .i64 0, .slice none 0 0] := ⟨_, rfl⟩
  obtain ⟨R, hR⟩ : ∃ R, R = w.heap.size := ⟨_, rfl⟩
  have hZs := Lib.hid (show Z.size = 41 by rw [hZ]; rfl)
  rw [← hZ, ← hR] at hres
  rw [← hR]
  have hR2 : R < w2.heap.size := lt_heap hres
  have hRw : w.heap.size ≤ R := by omega
  have hw2 : w.heap.size ≤ w2.heap.size := hbl.size
  have Hres := Lib.hid hres
  have Hbl := Lib.hid hbl
  clear hres hbl hZ hR hsz
  have Hnode := Lib.hid (treeNode_of d w2 ⟨p, 0, none⟩ (n.named ⟨#[]⟩) (fun w2' hb => node_ok d _ w2' p n ⟨#[]⟩ (TreeAt.mono (G := fun b => b < w2'.heap.size) (fun b _ hb2 => hb2) _ _ _ ((Ht.out.below Hbl.out).below hb)) (fun b hb => hb) hpt (by show (0 : Nat) ≤ _; omega)))
  refine Hnode.out.mono ?_
  rintro e wa ⟨aa, ca, rfl, hna, hba⟩
  have Hba := Lib.hid hba
  have hbare := bare_ok d _ wa (n.named ⟨#[]⟩) aa ca (NodeIn.mono (G := fun b => b < wa.heap.size) hna (fun b _ hl => hl)) (fun b hb => hb) (Nat.le_trans (named_le n) hpt)
  rw [bareN_named, ← HN.out] at hbare
  have Hbare := Lib.hid hbare
  clear hna hba hbare Hnode
  go_wp2_with fail
  refine Hbare.out.mono ?_
  rintro e w3 ⟨a', c', rfl, hn3', hb3'⟩
  have hn3 := NodeIn.mono (G := fun b => w2.heap.size ≤ b) hn3' (fun b hb _ => Nat.le_trans Hba.out.size hb)
  have hb3 : Below w2.heap.size w2 w3 := below_on Hba.out hb3'
  clear hn3' hb3' Hbare
  have Hn3 := Lib.hid hn3
  have Hb3 := Lib.hid hb3
  have Hrs3 := Lib.hid ((hb3.block R hR2).trans Hres.out)
  have hp41s := Lib.hid (show (N.row a' c').toArray.size = 41 by rw [List.size_toArray]; exact row_len hn3.vwf)
  clear hn3 hb3
  go_wp2_with (refine wpList_store_row rfl 30 (.tmp 2) (.tmp 5) rfl R (N.row a' c').toArray rfl rfl 30 Z Hrs3.out (by rw [hp41s.out]; kernel_rfl) (by rw [hp41s.out, hZs.out]) (all_one (nrow_one _ _ _ _ _ _)) ?_)
  have hset := setRow_heap _ R Z (N.row a' c').toArray 30 (0, 0) Hrs3.out
  refine bodyPost_ret (results_cell_row (P := Try.prog) Try.results44 _ _ R 30 (N.row a' c').toArray (0, 0) _ rfl hset Try.underlying30 rfl (by rw [hp41s.out]; kernel_rfl)) rfl ⟨a', c', rfl, ?_, below_setRow (Hbl.out.trans (Hb3.out.mono hw2)) hRw _⟩
  exact NodeIn.mono (G := fun b => w.heap.size ≤ b) (NodeIn.kept Hn3.out (Upd.setRow (S := fun b => b < w2.heap.size) (Upd.refl _ w3) R (N.row a' c').toArray hR2) (fun b hb => by omega)) (fun b hb _ => Nat.le_trans hw2 hb)
end Go.Proofs.Ythnbinlllmkabaa
