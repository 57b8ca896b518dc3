/- The contracts of pieces and of Digest. -/
import Derived.Test.YtefobboakikpbaaDoorSha5
namespace Go.Proofs.YtefobboakikpbaaDoor
open Go.RowKit
set_option linter.unusedVariables false
set_option linter.unusedSimpArgs false

/-- At q lie pieces over the hash at p. -/
def PiecesAt (w : World) (q p : Nat) (g : Option Nat) (l : List UInt8) : Prop :=
  w.heap[q]? = some (.cells #[.pointer (some ⟨p, 0, none⟩)] 95 (0, 0)) ∧ HashAt w p g l ∧ q ≠ p ∧ g ≠ some q
theorem PiecesAt.kept {S : Nat → Prop} {w w' : World} {q p : Nat} {g : Option Nat} {l : List UInt8} (h : PiecesAt w q p g l) (hu : Upd S w w') (hq : ¬ S q) (hp : ¬ S p) (hg : ∀ k, g = some k → ¬ S k) : PiecesAt w' q p g l :=
  ⟨hu.at_ h.1 hq, h.2.1.kept hu hp hg, h.2.2⟩

theorem newPieces_any (w : World) (hb : BeginAt w) :
    Calls Tryd.prog 18 #[] w fun e w' => e = .returned (.pointer (some ⟨w.heap.size + 1, 0, none⟩)) ∧ PiecesAt w' (w.heap.size + 1) w.heap.size none [] ∧ Below w.heap.size w w' := by
  go_enter Tryd.func18, Tryd.ntmps18
  go_wp2_with fail
  refine (new_any w hb).mono ?_
  rintro e w1 ⟨rfl, hh1, hb1, hs1⟩
  have Hh1 := Lib.hid hh1
  have Hb1 := Lib.hid hb1
  have Hs1 := Lib.hid hs1
  clear hh1 hb1 hs1
  go_wp2
  go_ret
  have hnew := heap_alloc_new w1 (.cells #[.pointer (some ⟨w.heap.size, 0, none⟩)] 95)
  rw [Hs1.out] at hnew
  refine ⟨by simp [Hs1.out], ⟨hnew, Hh1.out.kept ((Upd.refl (fun _ => False) _).alloc _) id (fun _ _ => id), by omega, by simp⟩, Hb1.out.alloc (by rw [Hs1.out]; omega) _⟩

set_option maxHeartbeats 1000000 in
set_option maxRecDepth 100000 in
theorem piecesAdd_any (w : World) (q p : Nat) (g : Option Nat) (l : List UInt8) (h : PiecesAt w q p g l) (C : Array Value) (x : List UInt8) (hC : C.toList = bytes x) (hx : x.length = 32) (hk : KeysAt w)
    (hlen : l.length + 32 ≤ 70368744177664) (hp : 2 ≠ p) (hg : g ≠ some 2) :
    Calls Tryd.prog 38 #[.pointer (some ⟨q, 0, none⟩), .agg C] w fun e w' => e = .returned (.tuple #[]) ∧
      ∃ g', PiecesAt w' q p g' (l ++ x) ∧ (∀ k, g' = some k → g = some k ∨ w.heap.size ≤ k) ∧ Upd (fun k => k = p ∨ g = some k) w w' := by
  obtain ⟨hrow, hh, hqp, hgq⟩ := h
  have f0 := cell_of_row w _ 0 _ _ _ hrow
  simp at f0
  have hql := lt_heap hrow
  have hCs : C.size = 32 := by rw [← Array.length_toList, hC, bytes_length, hx]
  have Hrow := Lib.hid hrow
  have Hh := Lib.hid hh
  have Hk := Lib.hid hk
  have HC := Lib.hid hC
  have HCs := Lib.hid hCs
  have Hx := Lib.hid hx
  have Hqp := Lib.hid hqp
  have Hgq := Lib.hid hgq
  clear hrow hh hk hC hCs hx hqp hgq
  go_enter Tryd.func38, Tryd.ntmps38
  go_wp2_with fail
  obtain ⟨wa, hwa⟩ : ∃ wa, wa = w.alloc (.cells C 26) := ⟨_, rfl⟩
  rw [← hwa]
  have hbe : Below w.heap.size w wa := by rw [hwa]; exact (Below.refl _ _).alloc (Nat.le_refl _) _
  have f0a : wa.cell? ⟨q, 0, none⟩ = some (.pointer (some ⟨p, 0, none⟩)) := (hbe.cell hql).trans f0
  have hha := (Hh.out.kept (Upd.below hbe fun _ => False) id (fun _ _ => id)).kept (Upd.refl (fun _ => False) wa).drew id (fun _ _ => id)
  have hka : KeysAt wa.drew := Hk.out.below hbe.drew
  have hsla : Sl wa.drew 1 (.slice (some ⟨w.heap.size, 0, none⟩) x.length 32) x.length (bytes x) := by
    rw [hwa]
    exact (Sl.made w 26 1 x.length 32 C (0, 0) (bytes x) HC.out (by simp [bytes_length]) (by rw [Hx.out]; decide)).kept (Upd.refl (fun _ => False) _).drew (fun _ _ _ => id)
  have hua : Upd (fun _ => False) w wa.drew := (Upd.below hbe _).drew
  have Hha := Lib.hid hha
  have Hka := Lib.hid hka
  have Hsla := Lib.hid hsla
  have Hua := Lib.hid hua
  clear hwa hbe f0 hha hka hsla hua
  go_still_tail 5, (by kernel_rfl)
  change wpList _ _ _ _ _ wa.drew
  go_wp2_with fail
  have hadd := add_any wa.drew p g l Hha.out (some ⟨w.heap.size, 0, none⟩) 32 x Hsla.out Hka.out (by rw [Hx.out]; exact hlen) hp hg
  rw [Hx.out] at hadd
  refine hadd.mono ?_
  rintro e w4 ⟨rfl, g', hh4, hg4, hu4⟩
  have Hh4 := Lib.hid hh4
  have Hg4 := Lib.hid hg4
  have Hu4 := Lib.hid hu4
  clear hadd hh4 hg4 hu4
  go_wp2
  go_end0
  have hu : Upd (fun k => k = p ∨ g = some k) w w4 := (Hua.out.mono (fun _ _ h => h.elim)).trans Hu4.out
  refine ⟨rfl, g', ⟨hu.at_ Hrow.out (by rintro (h | h); exact Hqp.out h; exact Hgq.out h), Hh4.out, Hqp.out, ?_⟩, ?_, hu⟩
  · intro h
    rcases Hg4.out q h with h2 | h2
    · exact Hgq.out h2
    · have := Hua.out.size; omega
  · intro k hk
    rcases Hg4.out k hk with h2 | h2
    · exact .inl h2
    · exact .inr (Nat.le_trans Hua.out.size h2)

set_option maxHeartbeats 1000000 in
theorem piecesSum_any (w : World) (q p : Nat) (g : Option Nat) (l : List UInt8) (h : PiecesAt w q p g l) (hk : KeysAt w) (hlen : l.length ≤ 70368744177664) :
    Calls Tryd.prog 39 #[.pointer (some ⟨q, 0, none⟩)] w fun e w' => e = .returned (.agg (bytes (sha l)).toArray) ∧ Below w.heap.size w w' := by
  obtain ⟨hrow, hh, hqp, hgq⟩ := h
  obtain ⟨Z, hZ⟩ : ∃ Z : Array Value, Z = Array.replicate 32 (.int .u8 0) := ⟨_, rfl⟩
  have f0 := cell_of_row w _ 0 _ _ _ hrow
  simp at f0
  have hql := lt_heap hrow
  have Hh := Lib.hid hh
  have Hk := Lib.hid hk
  have HZ := Lib.hid hZ
  clear hrow hh hk hqp hgq hZ
  go_enter Tryd.func39, Tryd.ntmps39
  go_wp2_with fail
  have hz : ∀ o, Upd (fun _ => False) w (w.alloc o) := fun o => (Upd.refl _ w).alloc o
  refine (sum_any _ p g l (Hh.out.kept (hz _) id (fun _ _ => id)) (fun i hi => (hz _).cell (Hk.out i hi) id) hlen).mono ?_
  rintro e w5 ⟨rfl, hb5⟩
  have hz5 : w5.heap[w.heap.size]? = some (.cells Z 26 (0, 0)) := by rw [hb5.block _ (by simp), HZ.out]; exact heap_alloc_new _ _
  obtain ⟨C, hC⟩ : ∃ C, C = (bytes (sha l)).toArray := ⟨_, rfl⟩
  have hCs : C.size = 32 := by rw [hC]; simp [bytes_length, sha_length]
  have hCo : C.all (·.oneCell') = true := by rw [hC, Array.all_eq_true_iff_forall_mem]; intro u hu; exact bytes_one _ u (by simpa using hu)
  have hZs : Z.size = 32 := by rw [HZ.out]; simp
  rw [← hC]
  have HC := Lib.hid hC
  have HCs := Lib.hid hCs
  have HCo := Lib.hid hCo
  have HZs := Lib.hid hZs
  have Hz5 := Lib.hid hz5
  have Hb5 : Hid (Below w.heap.size w w5) := ((Below.refl _ _).alloc (Nat.le_refl _) _).trans (hb5.mono (by simp))
  clear hC hCs hCo hZs hz5 hb5 hz f0
  go_wp2_with (refine wpList_store_row rfl 26 (.tmp 2) (.tmp 7) rfl w.heap.size C rfl rfl 26 Z Hz5.out (by rw [HCs.out]; kernel_rfl) (by rw [HCs.out, HZs.out]) HCo.out ?_)
  have hset := setRow_heap w5 w.heap.size Z C 26 (0, 0) Hz5.out
  refine bodyPost_ret (results_cell_row (P := Tryd.prog) Tryd.results39 _ _ w.heap.size 26 C (0, 0) _ rfl hset Tryd.underlying26 rfl (by rw [HCs.out]; kernel_rfl)) rfl ⟨?_, ?_⟩
  · rw [HC.out]
  · exact below_setRow Hb5.out (Nat.le_refl _) C
end Go.Proofs.YtefobboakikpbaaDoor
