/- The chapter's examples, walked. -/
import Derived.Test.YthnbinlllmkabaaKnowP
import Derived.Test.YthnbinlllmkabaaAll2
namespace Go.Proofs.Ythnbinlllmkabaa
open Go.RowKit
set_option linter.unusedVariables false
set_option linter.unusedSimpArgs false

theorem treeDepth_ok (F : Nat → Prop) (d : Nat) (w : World) (p : Nat) (n : Nd) (ht : TreeAt w F d p n) :
    Calls Try.prog 49 #[.pointer (some ⟨p, 0, none⟩)] w fun e w' => e = .returned (.int .i64 (n.dep : Nat)) ∧ w' = w := by
  have f42 := ht.cell.2
  clear ht
  go_enter Try.func49, Try.ntmps49
  go_wp2
  go_ret
  exact ⟨rfl, rfl⟩
theorem zwf (k m s : Int) (hk : i64 k) (hm : i64 m) (hs : i64 s) : (⟨k, m, s, zSum⟩ : Vl).wf := ⟨rfl, hk, hm, hs⟩
theorem i64_small {z : Int} (h : 0 ≤ z ∧ z ≤ 100) : i64 z := ⟨by omega, by omega⟩
theorem noMks_wf : mwf noMks := ⟨i64_small (by decide), i64_small (by decide), i64_small (by decide), i64_small (by decide)⟩
theorem leafs_in {w : World} {B : Nat} {x y : Nd} (hx : x.kids = []) (hy : y.kids = []) (h0 : w.rangeAt B 0 (x.row none 0)) (h1 : w.rangeAt B 41 (y.row none 0)) (vx : x.v.wf) (vy : y.v.wf) (mx : mwf x.m) (my : mwf y.m) (sx : x.name.size ≤ 255) (sy : y.name.size ≤ 255) :
    KidsIn w (fun b => b = B) 1 (some ⟨B, 0, none⟩) [x, y] := fun i k hk => by
  match i, hk with
  | 0, hk =>
    injection hk with hk
    subst hk
    exact ⟨B, 0, none, 0, rfl, rfl, h0, vx, mx, by omega, by rw [hx]; simp, hx⟩
  | 1, hk =>
    injection hk with hk
    subst hk
    exact ⟨B, 0, none, 0, rfl, rfl, h1, vy, my, by omega, by rw [hy]; simp, hy⟩
  | i + 2, hk => simp at hk
theorem there_rng {w : World} {g o n : Nat} {t : TypeId} {cs : Array Value} {vs : List Value} (hr : w.heap[g]? = some (.cells cs t (0, 0))) (h : w.rangeAt g o vs) (hn : vs.length = n) : w.there g o n := by
  subst hn
  intro j hj
  exact ⟨by rw [h j _ (List.getElem?_eq_getElem hj)]; rfl, frozen_of_row w g (o + j) _ _ hr⟩
theorem vA : kA.v.wf := zwf _ _ _ (i64_small (by decide)) (i64_small (by decide)) (i64_small (by decide))
theorem vD : kD.v.wf := zwf _ _ _ (i64_small (by decide)) (i64_small (by decide)) (i64_small (by decide))
theorem vN : kN.v.wf := zwf _ _ _ (i64_small (by decide)) (i64_small (by decide)) (i64_small (by decide))
theorem vL : kL.v.wf := zwf _ _ _ (i64_small (by decide)) (i64_small (by decide)) (i64_small (by decide))
theorem nszA : kA.name.size ≤ 255 := by show (1 : Nat) ≤ 255; omega
theorem nszD : kD.name.size ≤ 255 := by show (1 : Nat) ≤ 255; omega
theorem nszN : kN.name.size ≤ 9223372036854775807 := by show (0 : Nat) ≤ _; omega
theorem kszN : kN.kids.length ≤ 9223372036854775807 := by show (2 : Nat) ≤ _; omega
theorem nszL : kL.name.size ≤ 9223372036854775807 := by show (0 : Nat) ≤ _; omega
theorem kszL : kL.kids.length ≤ 9223372036854775807 := by show (0 : Nat) ≤ _; omega
theorem parts_N : kN.parts ≤ 1000000 := by decide +kernel
theorem parts_S : kS.parts ≤ 1000000 := by decide +kernel
theorem parts_L : kL.parts ≤ 1000000 := by decide +kernel
theorem bld20 (w : World) : (Instr.build 24 #[(0, .int .i64 1), (1, .int .i64 7)]).run Try.prog w = .ok (.agg kN.v.cells.toArray) w := run_build w _ _ _ (by kernel_rfl)
theorem bld21 (w : World) : (Instr.build 24 #[(0, .int .i64 2), (1, .int .i64 6), (2, .int .i64 3)]).run Try.prog w = .ok (.agg kA.v.cells.toArray) w := run_build w _ _ _ (by kernel_rfl)
theorem bld22 (w : World) : (Instr.build 30 #[(0, .string ⟨#[97]⟩), (1, .agg kA.v.cells.toArray)]).run Try.prog w = .ok (.agg (kA.row none 0).toArray) w := run_build w _ _ _ (by kernel_rfl)
theorem bld23 (w : World) : (Instr.build 24 #[(0, .int .i64 1), (1, .int .i64 5)]).run Try.prog w = .ok (.agg kD.v.cells.toArray) w := run_build w _ _ _ (by kernel_rfl)
theorem bld24 (w : World) : (Instr.build 30 #[(0, .string ⟨#[100]⟩), (1, .agg kD.v.cells.toArray)]).run Try.prog w = .ok (.agg (kD.row none 0).toArray) w := run_build w _ _ _ (by kernel_rfl)
theorem bld26 (w : World) (b : Nat) : (Instr.build 30 #[(1, .agg kN.v.cells.toArray), (3, .slice (some ⟨b, 0, none⟩) 2 2)]).run Try.prog w = .ok (.agg (kN.row (some ⟨b, 0, none⟩) 2).toArray) w := run_build w _ _ _ (by kernel_rfl)
theorem bld68 (w : World) : (Instr.build 24 #[(0, .int .i64 3), (2, .int .i64 1)]).run Try.prog w = .ok (.agg kL.v.cells.toArray) w := run_build w _ _ _ (by kernel_rfl)
theorem bld69 (w : World) : (Instr.build 30 #[(1, .agg kL.v.cells.toArray)]).run Try.prog w = .ok (.agg (kL.row none 0).toArray) w := run_build w _ _ _ (by kernel_rfl)
set_option maxRecDepth 100000 in
theorem bld25 (w : World) : (Instr.buildSlice 28 2 #[(0, .agg (kA.row none 0).toArray), (1, .agg (kD.row none 0).toArray)]).run Try.prog w = .ok (.slice (some ⟨w.heap.size, 0, none⟩) 2 2) (w.alloc (.cells (kA.row none 0 ++ kD.row none 0).toArray 30)) := by
  obtain ⟨i0, hi, hz0, hz1, hz2⟩ := info_parts info_nodeF
  exact run_buildSlice w 28 30 2 _ _ i0 _ Try.underlying28 hi hz0 (by rw [hz1]; decide) (by rw [hz1]; decide) (by rw [hz1]; kernel_rfl)
set_option maxHeartbeats 1000000 in
set_option maxRecDepth 100000 in
theorem known_ok (w : World) : Calls Try.prog 32 #[] w fun e w' => e = .returned (.bool true) ∧ Below w.heap.size w w' := by
  obtain ⟨VN, hVN⟩ : ∃ V, V = kN.v.cells.toArray := ⟨_, rfl⟩
  obtain ⟨VA, hVA⟩ : ∃ V, V = kA.v.cells.toArray := ⟨_, rfl⟩
  obtain ⟨VD, hVD⟩ : ∃ V, V = kD.v.cells.toArray := ⟨_, rfl⟩
  obtain ⟨VL, hVL⟩ : ∃ V, V = kL.v.cells.toArray := ⟨_, rfl⟩
  obtain ⟨RA, hRA⟩ : ∃ V, V = (kA.row none 0).toArray := ⟨_, rfl⟩
  obtain ⟨RD, hRD⟩ : ∃ V, V = (kD.row none 0).toArray := ⟨_, rfl⟩
  obtain ⟨RL, hRL⟩ : ∃ V, V = (kL.row none 0).toArray := ⟨_, rfl⟩
  obtain ⟨RN, hRN⟩ : ∃ V, V = (kN.row (some ⟨w.heap.size, 0, none⟩) 2).toArray := ⟨_, rfl⟩
  obtain ⟨AD, hAD⟩ : ∃ V, V = (kA.row none 0 ++ kD.row none 0).toArray := ⟨_, rfl⟩
  have H20 := Lib.hid (fun w => bld20 w)
  have H21 := Lib.hid (fun w => bld21 w)
  have H22 := Lib.hid (fun w => bld22 w)
  have H23 := Lib.hid (fun w => bld23 w)
  have H24 := Lib.hid (fun w => bld24 w)
  have H25 := Lib.hid (bld25 w)
  have H26 := Lib.hid (fun w' => bld26 w' w.heap.size)
  have H68 := Lib.hid (fun w => bld68 w)
  have H69 := Lib.hid (fun w => bld69 w)
  rw [← hVN] at H20 H26
  rw [← hVA] at H21 H22
  rw [← hVD] at H23 H24
  rw [← hVL] at H68 H69
  rw [← hRA] at H22 H25
  rw [← hRD] at H24 H25
  rw [← hRL] at H69
  rw [← hRN] at H26
  rw [← hAD] at H25
  have HRN := Lib.hid hRN
  have HRA := Lib.hid hRA
  have HRD := Lib.hid hRD
  have HRL := Lib.hid hRL
  have HAD := Lib.hid hAD
  have HVL := Lib.hid hVL
  have HNs := Lib.hid (show RN.size = 41 by rw [hRN, List.size_toArray]; exact row_len (n := kN) vN)
  have HNo := Lib.hid (show RN.all (·.oneCell') = true by rw [hRN]; exact all_one (nrow_one _ _ _ _ _ _))
  clear hVN hVA hVD hVL hRA hRD hRL hRN hAD
  go_enter Try.func32, Try.ntmps32
  go_wp2_with (first
    | (refine wpList_build_eq (by rfl) 24 #[(0, .const (.int .i64 1)), (1, .const (.int .i64 7))] rfl #[(0, .int .i64 1), (1, .int .i64 7)] (by kernel_rfl) (.agg VN) (H20.out _) ?_)
    | (refine wpList_build_eq (by rfl) 24 #[(0, .const (.int .i64 2)), (1, .const (.int .i64 6)), (2, .const (.int .i64 3))] rfl #[(0, .int .i64 2), (1, .int .i64 6), (2, .int .i64 3)] (by kernel_rfl) (.agg VA) (H21.out _) ?_)
    | (refine wpList_build_eq (by rfl) 30 #[(0, .const (.string ⟨#[97]⟩)), (1, .tmp 21)] rfl #[(0, .string ⟨#[97]⟩), (1, .agg VA)] (by kernel_rfl) (.agg RA) (H22.out _) ?_)
    | (refine wpList_build_eq (by rfl) 24 #[(0, .const (.int .i64 1)), (1, .const (.int .i64 5))] rfl #[(0, .int .i64 1), (1, .int .i64 5)] (by kernel_rfl) (.agg VD) (H23.out _) ?_)
    | (refine wpList_build_eq (by rfl) 30 #[(0, .const (.string ⟨#[100]⟩)), (1, .tmp 23)] rfl #[(0, .string ⟨#[100]⟩), (1, .agg VD)] (by kernel_rfl) (.agg RD) (H24.out _) ?_)
    | (refine wpList_buildSlice_eq (by rfl) 28 2 #[(0, .tmp 22), (1, .tmp 24)] rfl #[(0, .agg RA), (1, .agg RD)] (by kernel_rfl) (.slice (some ⟨w.heap.size, 0, none⟩) 2 2) H25.out ?_)
    | (refine wpList_build_eq (by rfl) 30 #[(1, .tmp 20), (3, .tmp 25)] rfl #[(1, .agg VN), (3, .slice (some ⟨w.heap.size, 0, none⟩) 2 2)] (by kernel_rfl) (.agg RN) (H26.out _) ?_)
    | (refine stuck_store 30 (.tmp 1) (.tmp 26) rfl ?_))
  intro z hz
  refine wpList_store_rowg rfl 30 (.tmp 1) (.tmp 26) rfl (w.heap.size + 1) RN rfl rfl 30 _ (heap_alloc2_new w _ _) (by rw [HNs.out]; kernel_rfl) (by rw [HNs.out]; rfl) HNo.out ?_
  intro w3 hr3 hu3
  obtain ⟨B, hB⟩ : ∃ B, B = w.heap.size := ⟨_, rfl⟩
  have hb3 : Below w.heap.size w w3 := (on_alloc (on_alloc (Below.refl _ w) _) _).upd (Nat.le_refl _) hu3 (fun b hb => by omega)
  have hrB : w3.heap[B]? = some (.cells AD 30 (0, 0)) := by
    rw [hB]
    exact hu3.at_ ((Below.heap_alloc _ _ _ (by simp)).trans (heap_alloc_new w _)) (by omega)
  subst hB
  rw [HAD.out] at hrB
  have g1 := rangeAt_row hrB
  have la : (kA.row none 0).length = 41 := row_len vA
  have gA : w3.rangeAt w.heap.size 0 (kA.row none 0) := rangeAt_pre g1
  have gD : w3.rangeAt w.heap.size 41 (kD.row none 0) := by
    have h := rangeAt_sub (xs := kA.row none 0) (ys := kD.row none 0) (zs := []) (by rw [List.append_nil]; exact g1)
    rw [la, Nat.zero_add] at h
    exact h
  have hB3 : w.heap.size < w3.heap.size := lt_heap hrB
  have hN3 : NodeIn w3 (fun b => b = w.heap.size) 1 kN (some ⟨w.heap.size, 0, none⟩) := ⟨vN, noMks_wf, nszN, kszN, leafs_in rfl rfl gA gD vA vD noMks_wf noMks_wf nszA nszD⟩
  have Hof := Lib.hid (of_good w3 (fun b => b = w.heap.size) 1 kN (some ⟨w.heap.size, 0, none⟩) 2 hN3 (fun b hb => by omega) parts_N chk_N)
  have hrn : RN = (kN.row (some ⟨w.heap.size, 0, none⟩) 2).toArray := by rw [HRN.out]
  rw [hrn] at hr3
  have Hr3 := Lib.hid hr3
  have HrB3 := Lib.hid hrB
  have Hb3 := Lib.hid hb3
  have HgA := Lib.hid gA
  have HgD := Lib.hid gD
  have hB1 : w.heap.size + 1 < w3.heap.size := lt_heap hr3
  clear hu3 hr3 hb3 hrB g1 gA gD la hN3 hrn HRN HNs HNo HAD H20 H21 H22 H23 H24 H25 H26
  have hnl := Lib.hid (row_len (n := kN) (a := some ⟨w.heap.size, 0, none⟩) (c := 2) vN)
  go_wp2_with (refine wpList_load_midg (by rfl) 30 (.tmp 1) rfl (w.heap.size + 1) 0 rfl (kN.row (some ⟨w.heap.size, 0, none⟩) 2) _ (rangeAt_row Hr3.out) Try.underlying30 rfl (by rw [hnl.out]; kernel_rfl) ?_)
  refine Hof.out.mono ?_
  rintro e4 w4 ⟨p, rfl, ht4, hb4⟩
  have Ht4 := Lib.hid ht4
  have Hb4 := Lib.hid (below_on Hb3.out hb4)
  have Hr4 := Lib.hid ((hb4.block _ hB1).trans Hr3.out)
  have HgA4 := Lib.hid (rangeAt_kept HgA.out (Upd.below hb4 fun _ => False) id)
  have HgD4 := Lib.hid (rangeAt_kept HgD.out (Upd.below hb4 fun _ => False) id)
  have hw34 : w3.heap.size ≤ w4.heap.size := hb4.size
  have Hcn := Lib.hid (treeCount_ok _ _ w4 p kN ht4)
  have Hdp := Lib.hid (treeDepth_ok _ _ w4 p kN ht4)
  rw [cnt_N] at Hcn
  rw [dep_N] at Hdp
  have HrB4 := Lib.hid ((hb4.block _ hB3).trans HrB3.out)
  have f40 : w4.cell? ⟨w.heap.size + 1, 40, none⟩ = some (.slice (some ⟨w.heap.size, 0, none⟩) 2 2) := by
    have h := (nrow_at (o := 0) vN (rangeAt_row Hr4.out)).2.2.2
    rw [Nat.zero_add] at h
    exact h
  clear ht4 hb4 Hof Hr3 Hb3 HgA HgD
  go_wp2_with (first
    | (go_at_call 29; refine Hcn.out.mono ?_; rintro e w' ⟨rfl, hw⟩; obtain rfl := hw.symm)
    | (go_at_call 49; refine Hdp.out.mono ?_; rintro e w' ⟨rfl, hw⟩; obtain rfl := hw.symm))
  --<region5
  have hal := Lib.hid (show (kA.row none 0).length = 41 from row_len vA)
  have hdl := Lib.hid (show (kD.row none 0).length = 41 from row_len vD)
  have has := Lib.hid (show (kA.row none 0).toArray.size = 41 by rw [List.size_toArray]; exact row_len vA)
  have hds := Lib.hid (show (kD.row none 0).toArray.size = 41 by rw [List.size_toArray]; exact row_len vD)
  have hao := Lib.hid (show (kA.row none 0).toArray.all (·.oneCell') = true from all_one (nrow_one _ _ _ _ _ _))
  have hdo := Lib.hid (show (kD.row none 0).toArray.all (·.oneCell') = true from all_one (nrow_one _ _ _ _ _ _))
  have hu45 : Upd (fun _ => False) w4 w4.drew := (Upd.refl _ w4).drew
  have HgA5 := Lib.hid (show w4.drew.rangeAt w.heap.size 0 (kA.row none 0) from rangeAt_kept HgA4.out hu45 id)
  have HgD5 := Lib.hid (show w4.drew.rangeAt w.heap.size 41 (kD.row none 0) from rangeAt_kept HgD4.out hu45 id)
  have HS5 := Lib.hid (show w4.drew.cell? ⟨w.heap.size + 1, 40, none⟩ = some (.slice (some ⟨w.heap.size, 0, none⟩) 2 2) from f40)
  have ht0 := Lib.hid (show w4.drew.there w.heap.size 0 41 from there_rng HrB4.out HgA5.out hal.out)
  have ht1' : w4.drew.there w.heap.size 41 41 := there_rng HrB4.out HgD5.out hdl.out
  obtain ⟨w6, hw6⟩ : ∃ w6, w6 = w4.drew.setCells w.heap.size 0 (kD.row none 0).toArray.toList := ⟨_, rfl⟩
  obtain ⟨w7, hw7⟩ : ∃ w7, w7 = w6.setCells w.heap.size 41 (kA.row none 0).toArray.toList := ⟨_, rfl⟩
  have ht1 := Lib.hid (show w6.there w.heap.size 41 41 by rw [hw6]; exact World.there_setCells ht1' _ _ _)
  have HS6 := Lib.hid (show w6.cell? ⟨w.heap.size + 1, 40, none⟩ = some (.slice (some ⟨w.heap.size, 0, none⟩) 2 2) by rw [hw6, World.cell?_setCells_out _ _ _ _ _ (fun h => absurd h (by simp))]; exact f40)
  have HS7 := Lib.hid (show w7.cell? ⟨w.heap.size + 1, 40, none⟩ = some (.slice (some ⟨w.heap.size, 0, none⟩) 2 2) by rw [hw7, World.cell?_setCells_out _ _ _ _ _ (fun h => absurd h (by simp))]; exact HS6.out)
  have gD7 : w7.rangeAt w.heap.size 0 (kD.row none 0) := by
    rw [hw7]
    refine World.rangeAt_setCells_apart ?_ _ _ _ (.inr (.inl (by rw [hdl.out]; omega)))
    rw [hw6]
    exact World.rangeAt_setCells_same _ _ _ _ (by rw [hdl.out]; exact ht0.out)
  have gA7 : w7.rangeAt w.heap.size 41 (kA.row none 0) := by
    rw [hw7]
    exact World.rangeAt_setCells_same _ _ _ _ (by rw [hal.out]; exact ht1.out)
  have hu7 : Upd (fun b => b = w.heap.size) w4 w7 := by
    rw [hw7, hw6]
    exact Upd.setCells' (S := fun b => b = w.heap.size) _ (fun _ => rfl) _ _ _ (Upd.setCells' (S := fun b => b = w.heap.size) _ (fun _ => rfl) _ _ _ (Upd.refl _ w4).drew)
  have G7 := Lib.hid (And.intro gD7 (And.intro gA7 hu7))
  have Hw6 := Lib.hid hw6
  have Hw7 := Lib.hid hw7
  clear hw6 hw7 gD7 gA7 hu7 ht1' hu45 HgA4 HgD4 HrB4
  refine wp_region_noPanic ?_
  refine wp_region_held_drew (S := (fun w' => w'.cell? ⟨w.heap.size + 1, 40, none⟩ = some (.slice (some ⟨w.heap.size, 0, none⟩) 2 2))) (by kernel_rfl) ?_ (fun hHeld => ?_)
  · exact HS5.out
  refine wpAnyH_take (i := 0) (v := ?_) rfl (by kernel_rfl) (by kernel_rfl) (by kernel_rfl) (fun _ _ _ h => h) (Or.inl ⟨by rfl, ?_⟩) (by assumption) ?_
  rotate_left
  · intro w hSw; (try dsimp only at hSw); go_simp; (try with_reducible rfl)
  (try simp only [List.getElem_toArray, List.getElem_cons_succ, List.getElem_cons_zero, Act.put, List.setIfInBounds_toArray, List.set_cons_zero, List.set_cons_succ])
  refine wpAnyH_take (i := 1) (v := ?_) rfl (by kernel_rfl) (by kernel_rfl) (by kernel_rfl) (fun _ _ _ h => h) (Or.inl ⟨by rfl, ?_⟩) (by assumption) ?_
  rotate_left
  · intro w hSw; (try dsimp only at hSw); go_simp; (try with_reducible rfl)
  (try simp only [List.getElem_toArray, List.getElem_cons_succ, List.getElem_cons_zero, Act.put, List.setIfInBounds_toArray, List.set_cons_zero, List.set_cons_succ])
  refine wpAnyH_take (i := 2) (v := ?_) rfl (by kernel_rfl) (by kernel_rfl) (by kernel_rfl) (fun _ _ _ h => h) (Or.inl ⟨by rfl, ?_⟩) (by assumption) ?_
  rotate_left
  · intro w hSw; (try dsimp only at hSw); go_simp; (try with_reducible rfl)
  (try simp only [List.getElem_toArray, List.getElem_cons_succ, List.getElem_cons_zero, Act.put, List.setIfInBounds_toArray, List.set_cons_zero, List.set_cons_succ])
  refine wpAnyH_take (i := 3) (v := ?_) rfl (by kernel_rfl) (by kernel_rfl) (by kernel_rfl) (fun _ _ _ h => h) (Or.inl ⟨by rfl, ?_⟩) (by assumption) ?_
  rotate_left
  · intro w hSw; (try dsimp only at hSw); go_simp; (try with_reducible rfl)
  (try simp only [List.getElem_toArray, List.getElem_cons_succ, List.getElem_cons_zero, Act.put, List.setIfInBounds_toArray, List.set_cons_zero, List.set_cons_succ])
  refine wpAnyH_take (i := 4) (v := ?_) rfl (by kernel_rfl) (by kernel_rfl) (by kernel_rfl) (fun _ _ _ h => h) (Or.inl ⟨by rfl, ?_⟩) (by assumption) ?_
  rotate_left
  · intro w hSw; (try dsimp only at hSw); go_simp; (try with_reducible rfl)
  (try simp only [List.getElem_toArray, List.getElem_cons_succ, List.getElem_cons_zero, Act.put, List.setIfInBounds_toArray, List.set_cons_zero, List.set_cons_succ])
  refine wpAnyH_take (i := 5) (v := ?_) rfl (by kernel_rfl) (by kernel_rfl) (by kernel_rfl) (fun _ _ _ h => h) (Or.inl ⟨by rfl, ?_⟩) (by assumption) ?_
  rotate_left
  · intro w hSw; (try dsimp only at hSw); go_simp; (try with_reducible rfl)
  (try simp only [List.getElem_toArray, List.getElem_cons_succ, List.getElem_cons_zero, Act.put, List.setIfInBounds_toArray, List.set_cons_zero, List.set_cons_succ])
  refine wpAnyH_take (i := 6) (v := ?_) rfl (by kernel_rfl) (by kernel_rfl) (by kernel_rfl) (fun _ _ _ h => h) (Or.inl ⟨by rfl, ?_⟩) (by assumption) ?_
  rotate_left
  · intro w hSw; (try dsimp only at hSw); go_simp; (try with_reducible rfl)
  (try simp only [List.getElem_toArray, List.getElem_cons_succ, List.getElem_cons_zero, Act.put, List.setIfInBounds_toArray, List.set_cons_zero, List.set_cons_succ])
  refine wpAnyH_take (i := 8) (v := ?_) rfl (by kernel_rfl) (by kernel_rfl) (by kernel_rfl) (fun _ _ _ h => h) (Or.inl ⟨by rfl, ?_⟩) (by assumption) ?_
  rotate_left
  · intro w hSw; (try dsimp only at hSw); go_simp; (try with_reducible rfl)
  (try simp only [List.getElem_toArray, List.getElem_cons_succ, List.getElem_cons_zero, Act.put, List.setIfInBounds_toArray, List.set_cons_zero, List.set_cons_succ])
  refine wpAnyH_take (i := 9) (v := ?_) rfl (by kernel_rfl) (by kernel_rfl) (by kernel_rfl) (fun _ _ _ h => h) (Or.inl ⟨by rfl, ?_⟩) (by assumption) ?_
  rotate_left
  · intro w hSw; (try dsimp only at hSw); go_simp; (try with_reducible rfl)
  (try simp only [List.getElem_toArray, List.getElem_cons_succ, List.getElem_cons_zero, Act.put, List.setIfInBounds_toArray, List.set_cons_zero, List.set_cons_succ])
  refine wpAnyH_take (i := 10) (v := ?_) rfl (by kernel_rfl) (by kernel_rfl) (by kernel_rfl) (fun _ _ _ h => h) (Or.inl ⟨by rfl, ?_⟩) (by assumption) ?_
  rotate_left
  · intro w hSw; (try dsimp only at hSw); go_simp; (try with_reducible rfl)
  (try simp only [List.getElem_toArray, List.getElem_cons_succ, List.getElem_cons_zero, Act.put, List.setIfInBounds_toArray, List.set_cons_zero, List.set_cons_succ])
  refine wpAnyH_ready (rs := [7, 11]) (by kernel_rfl) (by simp) ?_
  refine AllReadyH.cons rfl (fun K hK => ?_) (AllReadyH.cons rfl (fun K hK => ?_) AllReadyH.nil)
  · rw [if_pos (by rfl)]
    refine wp_load_mid 30 (.tmp 54) rfl w.heap.size 41 rfl (kD.row none 0) _ HgD5.out Try.underlying30 rfl (by rw [hdl.out]; kernel_rfl) ?_
    refine hK.out _ _ HS5.out (fun hHeld => ?_)
    clear hK K
    (try simp only [List.getElem_toArray, List.getElem_cons_succ, List.getElem_cons_zero, Act.put, List.setIfInBounds_toArray, List.set_cons_zero, List.set_cons_succ])
    refine wpAnyH_ready (rs := [11]) (by kernel_rfl) (by simp) ?_
    refine AllReadyH.cons rfl (fun K hK => ?_) AllReadyH.nil
    rw [if_pos (by rfl)]
    refine wp_load_mid 30 (.tmp 58) rfl w.heap.size 0 rfl (kA.row none 0) _ HgA5.out Try.underlying30 rfl (by rw [hal.out]; kernel_rfl) ?_
    refine hK.out _ _ HS5.out (fun hHeld => ?_)
    clear hK K
    (try simp only [List.getElem_toArray, List.getElem_cons_succ, List.getElem_cons_zero, Act.put, List.setIfInBounds_toArray, List.set_cons_zero, List.set_cons_succ])
    refine wpAnyH_ready (rs := [12]) (by kernel_rfl) (by simp) ?_
    refine AllReadyH.cons rfl (fun K hK => ?_) AllReadyH.nil
    go_simp
    (try go_wp2_with fail)
    refine hK.out _ _ HS5.out (fun hHeld => ?_)
    clear hK K
    (try simp only [List.getElem_toArray, List.getElem_cons_succ, List.getElem_cons_zero, Act.put, List.setIfInBounds_toArray, List.set_cons_zero, List.set_cons_succ])
    refine wpAnyH_ready (rs := [13]) (by kernel_rfl) (by simp) ?_
    refine AllReadyH.cons rfl (fun K hK => ?_) AllReadyH.nil
    rw [if_pos (by rfl)]
    refine wp_store_mid 30 (.tmp 60) (.tmp 55) rfl w.heap.size 0 (kD.row none 0).toArray rfl rfl (by rw [hds.out]; exact ht0.out) (by rw [hds.out]; kernel_rfl) hdo.out ?_
    rw [← Hw6.out]
    refine hK.out _ _ HS6.out (fun hHeld => ?_)
    clear hK K
    (try simp only [List.getElem_toArray, List.getElem_cons_succ, List.getElem_cons_zero, Act.put, List.setIfInBounds_toArray, List.set_cons_zero, List.set_cons_succ])
    refine wpAnyH_ready (rs := [14]) (by kernel_rfl) (by simp) ?_
    refine AllReadyH.cons rfl (fun K hK => ?_) AllReadyH.nil
    go_simp
    (try go_wp2_with fail)
    refine hK.out _ _ HS6.out (fun hHeld => ?_)
    clear hK K
    (try simp only [List.getElem_toArray, List.getElem_cons_succ, List.getElem_cons_zero, Act.put, List.setIfInBounds_toArray, List.set_cons_zero, List.set_cons_succ])
    refine wpAnyH_ready (rs := [15]) (by kernel_rfl) (by simp) ?_
    refine AllReadyH.cons rfl (fun K hK => ?_) AllReadyH.nil
    rw [if_pos (by rfl)]
    refine wp_store_mid 30 (.tmp 61) (.tmp 59) rfl w.heap.size 41 (kA.row none 0).toArray rfl rfl (by rw [has.out]; exact ht1.out) (by rw [has.out]; kernel_rfl) hao.out ?_
    rw [← Hw7.out]
    refine hK.out _ _ HS7.out (fun hHeld => ?_)
    clear hK K
    (try simp only [List.getElem_toArray, List.getElem_cons_succ, List.getElem_cons_zero, Act.put, List.setIfInBounds_toArray, List.set_cons_zero, List.set_cons_succ])
    refine wpAnyH_done (by kernel_rfl) ?_ _
    refine NoPanic.normal ?_
    have hb7 := Hb4.out.upd (Nat.le_refl _) G7.out.2.2 (fun b hb => by omega)
    have Hb7 := Lib.hid hb7
    have hw7s : w4.heap.size ≤ w7.heap.size := G7.out.2.2.size
    have Ht7 := Lib.hid (TreeAt.kept G7.out.2.2 (fun b hb h => by omega) _ _ _ Ht4.out)
    have Hr7 := Lib.hid (G7.out.2.2.at_ Hr4.out (by omega))
    have hN7 : NodeIn w7 (fun b => b = w.heap.size) 1 kS (some ⟨w.heap.size, 0, none⟩) := ⟨vN, noMks_wf, nszN, kszN, leafs_in rfl rfl G7.out.1 G7.out.2.1 vD vA noMks_wf noMks_wf nszD nszA⟩
    have hck := treeCheck_any w7 (fun b => b = w.heap.size) 1 kS (some ⟨w.heap.size, 0, none⟩) 2 hN7 parts_S
    rw [chk_S, show (kS.row (some ⟨w.heap.size, 0, none⟩) 2).toArray = (kN.row (some ⟨w.heap.size, 0, none⟩) 2).toArray from rfl] at hck
    have Hck := Lib.hid hck
    clear hb7 hN7 hck
    go_wp2_with (refine wpList_load_midg (by rfl) 30 (.tmp 1) rfl (w.heap.size + 1) 0 rfl (kN.row (some ⟨w.heap.size, 0, none⟩) 2) _ (rangeAt_row Hr7.out) Try.underlying30 rfl (by rw [hnl.out]; kernel_rfl) ?_)
    refine Hck.out.mono ?_
    rintro e8 w8 ⟨rfl, hb8⟩
    have Hb8 := Lib.hid (below_on Hb7.out hb8)
    have Ht8 := Lib.hid (Ht7.out.below hb8)
    have hw8s : w7.heap.size ≤ w8.heap.size := hb8.size
    have hL8 : NodeIn w8 (fun b => b = w.heap.size) 0 kL none := ⟨vL, noMks_wf, nszL, kszL, rfl⟩
    have hofL := of_good w8 (fun b => b = w.heap.size) 0 kL none 0 hL8 (fun b hb => by omega) parts_L chk_L
    rw [← HRL.out] at hofL
    have HofL := Lib.hid hofL
    have ea : (bA.toList == ([97] : List UInt8)) = true := by rw [tl_A]; rfl
    have ea2 : (bA.toList != ([97] : List UInt8)) = false := by rw [tl_A]; rfl
    clear hb8 hL8 hofL Hck
    go_wp2_with (first
      | (refine wpList_build_eq (by rfl) 24 #[(0, .const (.int .i64 3)), (2, .const (.int .i64 1))] rfl #[(0, .int .i64 3), (2, .int .i64 1)] (by kernel_rfl) (.agg VL) (H68.out _) ?_)
      | (refine wpList_build_eq (by rfl) 30 #[(1, .tmp 68)] rfl #[(1, .agg VL)] (by kernel_rfl) (.agg RL) (H69.out _) ?_))
    refine HofL.out.mono ?_
    rintro e9 w9 ⟨q, rfl, ht9, hb9⟩
    have Hb9 := Lib.hid (below_on Hb8.out hb9)
    have Ht9 := Lib.hid (Ht8.out.below hb9)
    have Hq9 := Lib.hid (TreeAt.mono (G := fun b => w3.heap.size ≤ b) (fun b hb _ => by omega) _ _ _ ht9)
    have hput := put_ok (fun b => w3.heap.size ≤ b) (1 + 1) (0 + 1) w9 p q kN kL bDX Ht9.out Hq9.out ris_N (by rw [cnt_N, cnt_L]; omega) (by show (3 : Nat) ≤ _; omega) put_dx
    rw [put_is] at hput
    have Hput := Lib.hid hput
    clear hb9 ht9 hput HofL
    go_wp2_with fail
    refine Hput.out.mono ?_
    rintro e10 w10 ⟨p2, rfl, ht10, hb10⟩
    have Hb10 := Lib.hid (below_on Hb9.out hb10)
    have Ht10 := Lib.hid (Ht9.out.below hb10)
    have Hq10 := Lib.hid (Hq9.out.below hb10)
    have Hp10 := Lib.hid ht10
    have hput2 := put_bad (fun b => w3.heap.size ≤ b) (1 + 1) (0 + 1) w10 p q kN kL bAX Ht10.out Hq10.out ris_N (by rw [cnt_N]; omega) (by rw [cnt_L]; omega) (by show (3 : Nat) ≤ _; omega) (by rw [put_ax]; decide)
    rw [put_ax] at hput2
    have Hput2 := Lib.hid hput2
    clear hb10 ht10 hput2 Hput
    go_wp2_with fail
    refine Hput2.out.mono ?_
    rintro e11 w11 ⟨rfl, hb11⟩
    have Hb11 := Lib.hid (below_on Hb10.out hb11)
    have Ht11 := Lib.hid (Ht10.out.below hb11)
    have Hp11 := Lib.hid (Hp10.out.below hb11)
    have hdr := drop_bad (fun b => w3.heap.size ≤ b) (1 + 1) w11 p kN bE Ht11.out ris_N (by rw [cnt_N]; omega) (by show (1 : Nat) ≤ _; omega) (by rw [drop_e]; decide)
    rw [drop_e] at hdr
    have Hdr := Lib.hid hdr
    clear hb11 hdr Hput2
    go_wp2_with fail
    refine Hdr.out.mono ?_
    rintro e12 w12 ⟨rfl, hb12⟩
    have Hb12 := Lib.hid (below_on Hb11.out hb12)
    have Ht12 := Lib.hid (Ht11.out.below hb12)
    have Hp12 := Lib.hid (Hp11.out.below hb12)
    have hdr := drop_bad (fun b => w3.heap.size ≤ b) (1 + 1) w12 p kN b0 Ht12.out ris_N (by rw [cnt_N]; omega) (by show (0 : Nat) ≤ _; omega) (by rw [drop_0]; decide)
    rw [drop_0] at hdr
    have Hdr2 := Lib.hid hdr
    clear hb12 hdr Hdr
    go_wp2_with fail
    refine Hdr2.out.mono ?_
    rintro e13 w13 ⟨rfl, hb13⟩
    have Hb13 := Lib.hid (below_on Hb12.out hb13)
    have Ht13 := Lib.hid (Ht12.out.below hb13)
    have Hp13 := Lib.hid (Hp12.out.below hb13)
    have hat1 := at_any _ _ w13 p2 kP bDX Hp13.out ris_P (by rw [cnt_P]; omega) (by show (3 : Nat) ≤ _; omega)
    rw [sub_dx2] at hat1
    have Hat1 := Lib.hid hat1
    obtain ⟨V1, hV1⟩ : ∃ V1, V1 = (((some (kL.named bX)).map Nd.v).getD noVl).cells.toArray := ⟨_, rfl⟩
    rw [← hV1] at Hat1
    have V1s := Lib.hid (show V1.size = 35 by rw [hV1]; rfl)
    have V1o := Lib.hid (show V1.all (·.oneCell') = true by rw [hV1]; exact all_one (Vl.cells_one _))
    have V1k := Lib.hid (show V1[0]? = some (.int .i64 3) by rw [hV1]; rfl)
    clear hb13 hat1 Hdr2 hV1
    go_wp2_with fail
    refine Hat1.out.mono ?_
    rintro e14 w14 ⟨rfl, hb14⟩
    have Hb14 := Lib.hid (below_on Hb13.out hb14)
    have Ht14 := Lib.hid (Ht13.out.below hb14)
    have Hp14 := Lib.hid (Hp13.out.below hb14)
    clear hb14 Hat1
    go_wp2_with (refine wpList_store_fresh rfl 24 _ _ rfl V1 rfl rfl (by rw [V1s.out]; kernel_rfl) (by rw [V1s.out]; rfl) V1o.out ?_)
    intro w15 hs15 hr15 hb15
    have Hb15 := Lib.hid (below_on Hb14.out hb15)
    have Ht15 := Lib.hid (Ht14.out.below hb15)
    have Hp15 := Lib.hid (Hp14.out.below hb15)
    have Hr15 := Lib.hid hr15
    have hw14 : w14.heap.size < w15.heap.size := by omega
    have hat2 := at_any _ _ w15 p kN bDX Ht15.out ris_N (by rw [cnt_N]; omega) (by show (3 : Nat) ≤ _; omega)
    rw [sub_dx] at hat2
    have Hat2 := Lib.hid hat2
    obtain ⟨V2, hV2⟩ : ∃ V2, V2 = (((none : Option Nd).map Nd.v).getD noVl).cells.toArray := ⟨_, rfl⟩
    rw [← hV2] at Hat2
    have V2s := Lib.hid (show V2.size = 35 by rw [hV2]; rfl)
    have V2o := Lib.hid (show V2.all (·.oneCell') = true by rw [hV2]; exact all_one (Vl.cells_one _))
    clear hb15 hr15 hat2 hV2
    go_wp2_with fail
    refine Hat2.out.mono ?_
    rintro e16 w16 ⟨rfl, hb16⟩
    have Hb16 := Lib.hid (below_on Hb15.out hb16)
    have Hp16 := Lib.hid (Hp15.out.below hb16)
    have Hr16 := Lib.hid ((hb16.block _ hw14).trans Hr15.out)
    have hw16 : w15.heap.size ≤ w16.heap.size := hb16.size
    clear hb16 Hat2
    go_wp2_with (refine wpList_store_fresh rfl 24 _ _ rfl V2 rfl rfl (by rw [V2s.out]; kernel_rfl) (by rw [V2s.out]; rfl) V2o.out ?_)
    intro w17 hs17 hr17 hb17
    have Hb17 := Lib.hid (below_on Hb16.out hb17)
    have f17 : w17.cell? ⟨w14.heap.size, 0, none⟩ = some (.int .i64 3) := by
      rw [cell_of_row w17 _ 0 _ _ _ ((hb17.block _ (by omega)).trans Hr16.out)]
      exact V1k.out
    have hcn := treeCount_ok _ _ w17 p2 kP (Hp16.out.below hb17)
    rw [cnt_P] at hcn
    have Hcn2 := Lib.hid hcn
    clear hs15 hs17 hr17 hb17 hcn
    go_wp2_with (go_at_call 29; refine Hcn2.out.mono ?_; rintro e w' ⟨rfl, hw⟩; obtain rfl := hw.symm)
    go_ret
    exact ⟨rfl, Hb17.out⟩
  · rw [if_pos (by rfl)]
    refine wp_load_mid 30 (.tmp 58) rfl w.heap.size 0 rfl (kA.row none 0) _ HgA5.out Try.underlying30 rfl (by rw [hal.out]; kernel_rfl) ?_
    refine hK.out _ _ HS5.out (fun hHeld => ?_)
    clear hK K
    (try simp only [List.getElem_toArray, List.getElem_cons_succ, List.getElem_cons_zero, Act.put, List.setIfInBounds_toArray, List.set_cons_zero, List.set_cons_succ])
    refine wpAnyH_ready (rs := [7]) (by kernel_rfl) (by simp) ?_
    refine AllReadyH.cons rfl (fun K hK => ?_) AllReadyH.nil
    rw [if_pos (by rfl)]
    refine wp_load_mid 30 (.tmp 54) rfl w.heap.size 41 rfl (kD.row none 0) _ HgD5.out Try.underlying30 rfl (by rw [hdl.out]; kernel_rfl) ?_
    refine hK.out _ _ HS5.out (fun hHeld => ?_)
    clear hK K
    (try simp only [List.getElem_toArray, List.getElem_cons_succ, List.getElem_cons_zero, Act.put, List.setIfInBounds_toArray, List.set_cons_zero, List.set_cons_succ])
    refine wpAnyH_ready (rs := [12]) (by kernel_rfl) (by simp) ?_
    refine AllReadyH.cons rfl (fun K hK => ?_) AllReadyH.nil
    go_simp
    (try go_wp2_with fail)
    refine hK.out _ _ HS5.out (fun hHeld => ?_)
    clear hK K
    (try simp only [List.getElem_toArray, List.getElem_cons_succ, List.getElem_cons_zero, Act.put, List.setIfInBounds_toArray, List.set_cons_zero, List.set_cons_succ])
    refine wpAnyH_ready (rs := [13]) (by kernel_rfl) (by simp) ?_
    refine AllReadyH.cons rfl (fun K hK => ?_) AllReadyH.nil
    rw [if_pos (by rfl)]
    refine wp_store_mid 30 (.tmp 60) (.tmp 55) rfl w.heap.size 0 (kD.row none 0).toArray rfl rfl (by rw [hds.out]; exact ht0.out) (by rw [hds.out]; kernel_rfl) hdo.out ?_
    rw [← Hw6.out]
    refine hK.out _ _ HS6.out (fun hHeld => ?_)
    clear hK K
    (try simp only [List.getElem_toArray, List.getElem_cons_succ, List.getElem_cons_zero, Act.put, List.setIfInBounds_toArray, List.set_cons_zero, List.set_cons_succ])
    refine wpAnyH_ready (rs := [14]) (by kernel_rfl) (by simp) ?_
    refine AllReadyH.cons rfl (fun K hK => ?_) AllReadyH.nil
    go_simp
    (try go_wp2_with fail)
    refine hK.out _ _ HS6.out (fun hHeld => ?_)
    clear hK K
    (try simp only [List.getElem_toArray, List.getElem_cons_succ, List.getElem_cons_zero, Act.put, List.setIfInBounds_toArray, List.set_cons_zero, List.set_cons_succ])
    refine wpAnyH_ready (rs := [15]) (by kernel_rfl) (by simp) ?_
    refine AllReadyH.cons rfl (fun K hK => ?_) AllReadyH.nil
    rw [if_pos (by rfl)]
    refine wp_store_mid 30 (.tmp 61) (.tmp 59) rfl w.heap.size 41 (kA.row none 0).toArray rfl rfl (by rw [has.out]; exact ht1.out) (by rw [has.out]; kernel_rfl) hao.out ?_
    rw [← Hw7.out]
    refine hK.out _ _ HS7.out (fun hHeld => ?_)
    clear hK K
    (try simp only [List.getElem_toArray, List.getElem_cons_succ, List.getElem_cons_zero, Act.put, List.setIfInBounds_toArray, List.set_cons_zero, List.set_cons_succ])
    refine wpAnyH_done (by kernel_rfl) ?_ _
    refine NoPanic.normal ?_
    have hb7 := Hb4.out.upd (Nat.le_refl _) G7.out.2.2 (fun b hb => by omega)
    have Hb7 := Lib.hid hb7
    have hw7s : w4.heap.size ≤ w7.heap.size := G7.out.2.2.size
    have Ht7 := Lib.hid (TreeAt.kept G7.out.2.2 (fun b hb h => by omega) _ _ _ Ht4.out)
    have Hr7 := Lib.hid (G7.out.2.2.at_ Hr4.out (by omega))
    have hN7 : NodeIn w7 (fun b => b = w.heap.size) 1 kS (some ⟨w.heap.size, 0, none⟩) := ⟨vN, noMks_wf, nszN, kszN, leafs_in rfl rfl G7.out.1 G7.out.2.1 vD vA noMks_wf noMks_wf nszD nszA⟩
    have hck := treeCheck_any w7 (fun b => b = w.heap.size) 1 kS (some ⟨w.heap.size, 0, none⟩) 2 hN7 parts_S
    rw [chk_S, show (kS.row (some ⟨w.heap.size, 0, none⟩) 2).toArray = (kN.row (some ⟨w.heap.size, 0, none⟩) 2).toArray from rfl] at hck
    have Hck := Lib.hid hck
    clear hb7 hN7 hck
    go_wp2_with (refine wpList_load_midg (by rfl) 30 (.tmp 1) rfl (w.heap.size + 1) 0 rfl (kN.row (some ⟨w.heap.size, 0, none⟩) 2) _ (rangeAt_row Hr7.out) Try.underlying30 rfl (by rw [hnl.out]; kernel_rfl) ?_)
    refine Hck.out.mono ?_
    rintro e8 w8 ⟨rfl, hb8⟩
    have Hb8 := Lib.hid (below_on Hb7.out hb8)
    have Ht8 := Lib.hid (Ht7.out.below hb8)
    have hw8s : w7.heap.size ≤ w8.heap.size := hb8.size
    have hL8 : NodeIn w8 (fun b => b = w.heap.size) 0 kL none := ⟨vL, noMks_wf, nszL, kszL, rfl⟩
    have hofL := of_good w8 (fun b => b = w.heap.size) 0 kL none 0 hL8 (fun b hb => by omega) parts_L chk_L
    rw [← HRL.out] at hofL
    have HofL := Lib.hid hofL
    have ea : (bA.toList == ([97] : List UInt8)) = true := by rw [tl_A]; rfl
    have ea2 : (bA.toList != ([97] : List UInt8)) = false := by rw [tl_A]; rfl
    clear hb8 hL8 hofL Hck
    go_wp2_with (first
      | (refine wpList_build_eq (by rfl) 24 #[(0, .const (.int .i64 3)), (2, .const (.int .i64 1))] rfl #[(0, .int .i64 3), (2, .int .i64 1)] (by kernel_rfl) (.agg VL) (H68.out _) ?_)
      | (refine wpList_build_eq (by rfl) 30 #[(1, .tmp 68)] rfl #[(1, .agg VL)] (by kernel_rfl) (.agg RL) (H69.out _) ?_))
    refine HofL.out.mono ?_
    rintro e9 w9 ⟨q, rfl, ht9, hb9⟩
    have Hb9 := Lib.hid (below_on Hb8.out hb9)
    have Ht9 := Lib.hid (Ht8.out.below hb9)
    have Hq9 := Lib.hid (TreeAt.mono (G := fun b => w3.heap.size ≤ b) (fun b hb _ => by omega) _ _ _ ht9)
    have hput := put_ok (fun b => w3.heap.size ≤ b) (1 + 1) (0 + 1) w9 p q kN kL bDX Ht9.out Hq9.out ris_N (by rw [cnt_N, cnt_L]; omega) (by show (3 : Nat) ≤ _; omega) put_dx
    rw [put_is] at hput
    have Hput := Lib.hid hput
    clear hb9 ht9 hput HofL
    go_wp2_with fail
    refine Hput.out.mono ?_
    rintro e10 w10 ⟨p2, rfl, ht10, hb10⟩
    have Hb10 := Lib.hid (below_on Hb9.out hb10)
    have Ht10 := Lib.hid (Ht9.out.below hb10)
    have Hq10 := Lib.hid (Hq9.out.below hb10)
    have Hp10 := Lib.hid ht10
    have hput2 := put_bad (fun b => w3.heap.size ≤ b) (1 + 1) (0 + 1) w10 p q kN kL bAX Ht10.out Hq10.out ris_N (by rw [cnt_N]; omega) (by rw [cnt_L]; omega) (by show (3 : Nat) ≤ _; omega) (by rw [put_ax]; decide)
    rw [put_ax] at hput2
    have Hput2 := Lib.hid hput2
    clear hb10 ht10 hput2 Hput
    go_wp2_with fail
    refine Hput2.out.mono ?_
    rintro e11 w11 ⟨rfl, hb11⟩
    have Hb11 := Lib.hid (below_on Hb10.out hb11)
    have Ht11 := Lib.hid (Ht10.out.below hb11)
    have Hp11 := Lib.hid (Hp10.out.below hb11)
    have hdr := drop_bad (fun b => w3.heap.size ≤ b) (1 + 1) w11 p kN bE Ht11.out ris_N (by rw [cnt_N]; omega) (by show (1 : Nat) ≤ _; omega) (by rw [drop_e]; decide)
    rw [drop_e] at hdr
    have Hdr := Lib.hid hdr
    clear hb11 hdr Hput2
    go_wp2_with fail
    refine Hdr.out.mono ?_
    rintro e12 w12 ⟨rfl, hb12⟩
    have Hb12 := Lib.hid (below_on Hb11.out hb12)
    have Ht12 := Lib.hid (Ht11.out.below hb12)
    have Hp12 := Lib.hid (Hp11.out.below hb12)
    have hdr := drop_bad (fun b => w3.heap.size ≤ b) (1 + 1) w12 p kN b0 Ht12.out ris_N (by rw [cnt_N]; omega) (by show (0 : Nat) ≤ _; omega) (by rw [drop_0]; decide)
    rw [drop_0] at hdr
    have Hdr2 := Lib.hid hdr
    clear hb12 hdr Hdr
    go_wp2_with fail
    refine Hdr2.out.mono ?_
    rintro e13 w13 ⟨rfl, hb13⟩
    have Hb13 := Lib.hid (below_on Hb12.out hb13)
    have Ht13 := Lib.hid (Ht12.out.below hb13)
    have Hp13 := Lib.hid (Hp12.out.below hb13)
    have hat1 := at_any _ _ w13 p2 kP bDX Hp13.out ris_P (by rw [cnt_P]; omega) (by show (3 : Nat) ≤ _; omega)
    rw [sub_dx2] at hat1
    have Hat1 := Lib.hid hat1
    obtain ⟨V1, hV1⟩ : ∃ V1, V1 = (((some (kL.named bX)).map Nd.v).getD noVl).cells.toArray := ⟨_, rfl⟩
    rw [← hV1] at Hat1
    have V1s := Lib.hid (show V1.size = 35 by rw [hV1]; rfl)
    have V1o := Lib.hid (show V1.all (·.oneCell') = true by rw [hV1]; exact all_one (Vl.cells_one _))
    have V1k := Lib.hid (show V1[0]? = some (.int .i64 3) by rw [hV1]; rfl)
    clear hb13 hat1 Hdr2 hV1
    go_wp2_with fail
    refine Hat1.out.mono ?_
    rintro e14 w14 ⟨rfl, hb14⟩
    have Hb14 := Lib.hid (below_on Hb13.out hb14)
    have Ht14 := Lib.hid (Ht13.out.below hb14)
    have Hp14 := Lib.hid (Hp13.out.below hb14)
    clear hb14 Hat1
    go_wp2_with (refine wpList_store_fresh rfl 24 _ _ rfl V1 rfl rfl (by rw [V1s.out]; kernel_rfl) (by rw [V1s.out]; rfl) V1o.out ?_)
    intro w15 hs15 hr15 hb15
    have Hb15 := Lib.hid (below_on Hb14.out hb15)
    have Ht15 := Lib.hid (Ht14.out.below hb15)
    have Hp15 := Lib.hid (Hp14.out.below hb15)
    have Hr15 := Lib.hid hr15
    have hw14 : w14.heap.size < w15.heap.size := by omega
    have hat2 := at_any _ _ w15 p kN bDX Ht15.out ris_N (by rw [cnt_N]; omega) (by show (3 : Nat) ≤ _; omega)
    rw [sub_dx] at hat2
    have Hat2 := Lib.hid hat2
    obtain ⟨V2, hV2⟩ : ∃ V2, V2 = (((none : Option Nd).map Nd.v).getD noVl).cells.toArray := ⟨_, rfl⟩
    rw [← hV2] at Hat2
    have V2s := Lib.hid (show V2.size = 35 by rw [hV2]; rfl)
    have V2o := Lib.hid (show V2.all (·.oneCell') = true by rw [hV2]; exact all_one (Vl.cells_one _))
    clear hb15 hr15 hat2 hV2
    go_wp2_with fail
    refine Hat2.out.mono ?_
    rintro e16 w16 ⟨rfl, hb16⟩
    have Hb16 := Lib.hid (below_on Hb15.out hb16)
    have Hp16 := Lib.hid (Hp15.out.below hb16)
    have Hr16 := Lib.hid ((hb16.block _ hw14).trans Hr15.out)
    have hw16 : w15.heap.size ≤ w16.heap.size := hb16.size
    clear hb16 Hat2
    go_wp2_with (refine wpList_store_fresh rfl 24 _ _ rfl V2 rfl rfl (by rw [V2s.out]; kernel_rfl) (by rw [V2s.out]; rfl) V2o.out ?_)
    intro w17 hs17 hr17 hb17
    have Hb17 := Lib.hid (below_on Hb16.out hb17)
    have f17 : w17.cell? ⟨w14.heap.size, 0, none⟩ = some (.int .i64 3) := by
      rw [cell_of_row w17 _ 0 _ _ _ ((hb17.block _ (by omega)).trans Hr16.out)]
      exact V1k.out
    have hcn := treeCount_ok _ _ w17 p2 kP (Hp16.out.below hb17)
    rw [cnt_P] at hcn
    have Hcn2 := Lib.hid hcn
    clear hs15 hs17 hr17 hb17 hcn
    go_wp2_with (go_at_call 29; refine Hcn2.out.mono ?_; rintro e w' ⟨rfl, hw⟩; obtain rfl := hw.symm)
    go_ret
    exact ⟨rfl, Hb17.out⟩
end Go.Proofs.Ythnbinlllmkabaa
