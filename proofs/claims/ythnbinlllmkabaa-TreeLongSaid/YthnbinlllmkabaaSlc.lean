/- slices.Clone, Insert, Delete, walked. (Written by gen_slices.py.) -/
import Derived.Test.YthnbinlllmkabaaSlP
import Derived.Test.YthnbinlllmkabaaProg
namespace Go.Proofs.Ythnbinlllmkabaa
open Go.RowKit
set_option linter.unusedVariables false
set_option linter.unusedSimpArgs false


theorem info_str : (Try.prog.info? 9).map (fun i => (i.zero, i.size, i.bytes)) = some (some (.string ⟨#[]⟩), 1, 16) := by kernel_rfl
set_option maxRecDepth 100000 in
theorem clone_str (w : World) (a : Option Addr) (n c : Nat) (xs : List Value) (hs : Sl w 1 (.slice a n c) n xs) (h1 : ∀ u ∈ xs, u.oneCell' = true) (hn : n ≤ 1099511627776) :
    Calls Try.prog 109 #[.slice a n c] w fun e w' => ∃ a' c', e = .returned (.slice a' n c') ∧ Own w' 9 1 (.slice a' n c') n xs ∧ Below w.heap.size w w' ∧ (∀ b, (Value.slice a' n c').ownBlock = some b → w.heap.size ≤ b) := by
  obtain ⟨i0, hi, hz0, hz1, hz2⟩ := info_parts info_str
  cases a with
  | none =>
    have hx : xs = [] := by
      obtain ⟨a0, c0, he, hl, hm, hc⟩ := hs
      injection he with he
      cases xs with
      | nil => rfl
      | cons y r => obtain ⟨ad, h, _⟩ := hc (by simp); rw [← he] at h; cases h
    have hn0 : n = 0 := by
      obtain ⟨a0, c0, he, hl, hm, hc⟩ := hs
      rw [hx] at hl; simp at hl; omega
    subst hx hn0
    have q : ∀ w, (binOp .eql 71 (.slice none 0 c) (.slice none 0 0)).run Try.prog w = .ok (.bool true) w := fun w => Lib.run_eql_slice_nil w _ _ none 0 c 0 0 Try.underlying71
    go_enter Try.func109, Try.ntmps109
    go_wp2
    go_ret
    exact ⟨none, 0, rfl, Own.nil _ _ _, Below.refl _ _, fun b hb => by simp [Value.ownBlock] at hb⟩
  | some ad =>
    have Hs := Lib.hid hs
    have H1 := Lib.hid h1
    have q : ∀ w, (binOp .eql 71 (.slice (some ad) n c) (.slice none 0 0)).run Try.prog w = .ok (.bool false) w := fun w => Lib.run_eql_slice_nil w _ _ (some ad) n c 0 0 Try.underlying71
    clear hs h1
    go_enter Try.func109, Try.ntmps109
    go_wp2_with (at_builtin; refine wpList_append_any rfl _ _ 71 rfl 9 i0 (.string ⟨#[]⟩) 1 16 Try.underlying71 hi hz0 hz1 hz2 rfl (by decide) (.slice (some ⟨w.heap.size, 0, none⟩) 0 0) 0 [] (.slice (some ad) n c) n xs rfl rfl (Own.made w 9 1 0 #[] rfl (by omega)) (Hs.out.kept ((Upd.refl (fun _ => False) w).alloc _) (fun _ _ _ => id)) H1.out (by omega) (by omega) ?_)
    intro a5 c5 w5 hown5 hgr5 hb5
    have H5 := Lib.hid (And.intro hown5 (And.intro hgr5 hb5))
    clear hown5 hgr5 hb5
    go_wp2
    go_ret
    refine ⟨a5, c5, rfl, by simpa using H5.out.1, ?_, fun b hb => ?_⟩
    · exact ((Upd.refl (fun b => w.heap.size ≤ b) w).alloc (.cells #[] 9)).grown H5.out.2.1 (fun k hk _ => by simp [Value.ownBlock] at hk; omega) |>.toBelow (fun k hk => hk) (Nat.le_refl _)
    · by_cases h : (Value.slice (some ⟨w.heap.size, 0, none⟩) 0 0).ownBlock = some b
      · simp [Value.ownBlock] at h; omega
      · have h2 := H5.out.2.2 b h (by simpa using hb)
        omega

set_option maxHeartbeats 2000000 in
set_option maxRecDepth 100000 in
theorem insert_str_end (w : World) (a : Option Addr) (n c : Nat) (xs : List Value) (hown : Own w 9 1 (.slice a n c) n xs) (x : Value) (hx1 : x.oneCell' = true) (vb : Nat) (hvb : w.heap[vb]? = some (.cells #[x] 9 (0, 0))) (hn : n ≤ 1099511627776) :
    Calls Try.prog 112 #[.slice a n c, .int .i64 n, .slice (some ⟨vb, 0, none⟩) 1 1] w fun e w' => ∃ a' c', e = .returned (.slice a' (n + 1) c') ∧ Own w' 9 1 (.slice a' (n + 1) c') (n + 1) (xs ++ [x]) ∧ Upd (fun b => (Value.slice a n c).ownBlock = some b) w w' ∧ (∀ k, (Value.slice a n c).ownBlock ≠ some k → (Value.slice a' (n + 1) c').ownBlock = some k → w.heap.size ≤ k) := by
  obtain ⟨i0, hi, hz0, hz1, hz2⟩ := info_parts info_str
  have hsv : Sl w 1 (.slice (some ⟨vb, 0, none⟩) 1 1) 1 [x] := ⟨_, _, rfl, rfl, by omega, fun _ => ⟨_, rfl, fun j u hj => by rw [add_off, cell_of_row w vb _ _ _ _ hvb]; simpa using hj⟩⟩
  have Hown := Lib.hid hown
  have Hsv := Lib.hid hsv
  have Hx1 := Lib.hid (show ∀ u ∈ [x], u.oneCell' = true by simpa using hx1)
  clear hown hsv hvb hx1
  cases a with
  | none =>
    go_enter Try.func112, Try.ntmps112
    go_wp2_with (at_builtin; refine wpList_append_any rfl _ _ 71 rfl 9 i0 (.string ⟨#[]⟩) 1 16 Try.underlying71 hi hz0 hz1 hz2 rfl (by decide) (.slice none n c) n xs (.slice (some ⟨vb, 0, none⟩) 1 1) 1 [x] rfl rfl Hown.out Hsv.out Hx1.out (by omega) (by omega) ?_)
    intro a5 c5 w5 hown5 hgr5 hb5
    have H5 := Lib.hid (And.intro hown5 (And.intro hgr5 hb5))
    clear hown5 hgr5 hb5
    go_wp2
    go_ret
    exact ⟨a5, c5, rfl, H5.out.1, (Upd.refl _ w).grown H5.out.2.1 (fun k hk _ => hk), H5.out.2.2⟩
  | some ad =>
    go_enter Try.func112, Try.ntmps112
    go_wp2_with (at_builtin; refine wpList_append_any rfl _ _ 71 rfl 9 i0 (.string ⟨#[]⟩) 1 16 Try.underlying71 hi hz0 hz1 hz2 rfl (by decide) (.slice (some ad) n c) n xs (.slice (some ⟨vb, 0, none⟩) 1 1) 1 [x] rfl rfl Hown.out Hsv.out Hx1.out (by omega) (by omega) ?_)
    all_goals
      intro a5 c5 w5 hown5 hgr5 hb5
      have H5 := Lib.hid (And.intro hown5 (And.intro hgr5 hb5))
      clear hown5 hgr5 hb5
      go_wp2
      go_ret
      exact ⟨a5, c5, rfl, H5.out.1, (Upd.refl _ w).grown H5.out.2.1 (fun k hk _ => hk), H5.out.2.2⟩

set_option maxHeartbeats 4000000 in
set_option maxRecDepth 100000 in
theorem insert_str_shift (w : World) (g off n c : Nat) (xs : List Value) (hown : Own w 9 1 (.slice (some ⟨g, off, none⟩) n c) n xs) (h1 : ∀ u ∈ xs, u.oneCell' = true) (x : Value) (hx1 : x.oneCell' = true) (vb : Nat) (hvb : w.heap[vb]? = some (.cells #[x] 9 (0, 0))) (hne : vb ≠ g) (i : Nat) (hi : i < n) (hroom : n + 1 ≤ c) :
    Calls Try.prog 112 #[.slice (some ⟨g, off, none⟩) n c, .int .i64 i, .slice (some ⟨vb, 0, none⟩) 1 1] w fun e w' => e = .returned (.slice (some ⟨g, off, none⟩) (n + 1) c) ∧ Own w' 9 1 (.slice (some ⟨g, off, none⟩) (n + 1) c) (n + 1) (xs.take i ++ x :: xs.drop i) ∧ Upd (fun b => b = g) w w' := by
  obtain ⟨ys, hyl, hyt, hnc, hcm, hfull⟩ := hown.full
  have hxl := hown.1
  obtain ⟨hcs, hsp, hfz, kB, hsb, hkB⟩ := hfull.spots
  have hsa : w.shape? vb = some (9, 1) := by unfold World.shape?; rw [hvb]; rfl
  have hfa : w.frozen? ⟨vb, 0, none⟩ = false := frozen_of_row w vb 0 _ _ hvb
  have hfe : w.frozen? ⟨vb, 1, none⟩ = false := frozen_of_row w vb 1 _ _ hvb
  have hvc : w.cell? ⟨vb, 0, none⟩ = some x := by rw [cell_of_row w vb 0 _ _ _ hvb]; rfl
  have hx : ∀ j v, xs[j]? = some v → w.cell? ⟨g, off + j, none⟩ = some v := fun j v hj => hcs j v (by
    rw [← hyt, List.getElem?_take] at hj
    split at hj
    · exact hj
    · cases hj)
  have hov : ∀ lb cb, (callFunc 125 #[.slice (some ⟨vb, 0, none⟩) 1 1, .slice (some ⟨g, off + (i + 1), none⟩) lb cb]).run Try.prog w = .ok (.value (.bool false)) w := fun lb cb => by
    rw [run_callFunc_extern Try.func125 (by kernel_rfl) (by kernel_rfl) (by kernel_rfl) (e := Extern.SlicesOverlaps.overlaps #[71, 71] #[4]) (by kernel_rfl),
      Lib.run_overlaps_apart w 71 4 9 Try.underlying71 1 (fun _ => by kernel_rfl) ⟨vb, 0, none⟩ ⟨g, off + (i + 1), none⟩ 1 1 lb cb hne 9 9 1 kB hsa hsb (by omega) hfa hfe]
    rfl
  have hszi : (Try.prog.info? 9).map (·.size) = some 1 := by kernel_rfl
  have hdl : (xs.drop i).length = n - i := by rw [List.length_drop]; omega
  have hcp1 : ∀ ty dc sc, (Builtin.copy_ #[71, 71] ty #[.slice (some ⟨g, off + (i + 1), none⟩) (n + 1 - (i + 1)) dc, .slice (some ⟨g, off + i, none⟩) (n + 1 - i) sc]).run Try.prog w.drew = .ok (goInt (xs.drop i).length) (w.drew.setCells g (off + (i + 1)) (xs.drop i)) := fun ty dc sc =>
    run_copy_cells w.drew _ _ ty 9 g (off + (i + 1)) (n + 1 - (i + 1)) dc ⟨g, off + i, none⟩ (n + 1 - i) sc (xs.drop i) Try.underlying71 hszi (by rw [hdl]; simp only [Nat.min_def]; split <;> omega)
      (fun j v hj => by rw [add_off, Nat.add_assoc]; exact hx (i + j) v (by rwa [List.getElem?_drop] at hj))
      (fun j hj => by rw [Nat.add_assoc]; exact hsp _ (by omega)) (fun j hj => hfz _) (fun v hv => h1 v (List.mem_of_mem_drop hv))
  obtain ⟨W1, hW1⟩ : ∃ W1, W1 = w.drew.setCells g (off + (i + 1)) (xs.drop i) := ⟨_, rfl⟩
  have hf1 : Own W1 9 1 (.slice (some ⟨g, off, none⟩) c c) c (splice ys (i + 1) (xs.drop i)) := by rw [hW1]; exact Own.setCells _ _ _ _ hfull.drew (by rw [hdl]; omega)
  have hu1 : Upd (fun b => b = g) w W1 := by rw [hW1]; exact Upd.setCells' (S := fun b => b = g) g (fun _ => rfl) _ _ _ (Upd.refl _ w).drew
  obtain ⟨_, hsp1, hfz1, _⟩ := hf1.spots
  have hcp2 : ∀ (W : World), (∀ y, W.cell? y = W1.cell? y) → (∀ y, W.frozen? y = W1.frozen? y) → ∀ ty dc, (Builtin.copy_ #[71, 71] ty #[.slice (some ⟨g, off + i, none⟩) (n + 1 - i) dc, .slice (some ⟨vb, 0, none⟩) 1 1]).run Try.prog W = .ok (goInt 1) (W.setCells g (off + i) [x]) := fun W hWc hWf ty dc =>
    run_copy_cells W _ _ ty 9 g (off + i) (n + 1 - i) dc ⟨vb, 0, none⟩ 1 1 [x] Try.underlying71 hszi (by simp only [Nat.min_def, List.length_singleton]; split <;> omega)
      (fun j v hj => by
        rw [add_off, hWc]
        have hj0 : j = 0 ∧ v = x := by
          cases j with
          | zero => simpa using hj.symm
          | succ j => simp at hj
        obtain ⟨rfl, rfl⟩ := hj0
        exact hu1.cell hvc hne)
      (fun j hj => by rw [hWc, Nat.add_assoc]; simp at hj; exact hsp1 _ (by omega)) (fun j hj => by rw [hWf]; exact hfz1 _) (by simpa using hx1)
  rw [← hW1] at hcp1
  have hw1 : IntKind.i64.wrap ((i : Int) + 1) = (i : Int) + 1 := by rw [IntKind.wrap_i64]; omega
  have hb1 : (0 : Int) ≤ (i : Int) + 1 := by omega
  have hin : i ≤ n := by omega
  have htn : ((i : Int) + 1).toNat = i + 1 := by omega
  have hb2 : ¬ (c = i + 1) := by omega
  have hb3 : (i : Int) ≤ (n : Int) + 1 := by omega
  have hb4 : ¬ (c = i) := by omega
  have hz2 : ¬ ((i : Int) = (n : Int)) := by omega
  have HF := Lib.hid (And.intro (Own.part (Own.setCells [x] W1 _ i hf1 (by simp; omega)) (n + 1) hroom) (Upd.setCells' (S := fun b => b = g) g (fun _ => rfl) [x] (off + i) W1 hu1))
  have HE := Lib.hid (shift_eq ys n i x (by omega) (by omega))
  have Hyt := Lib.hid hyt
  have HW1 := Lib.hid hW1
  clear hown hyt hyl hfull hcs hsp hfz hsb hkB hsa hfa hfe hvc hx hdl hf1 hu1 hsp1 hfz1 hvb hxl h1 hx1 hW1
  go_enter Try.func112, Try.ntmps112
  go_wp2_with (simp only [hov])
  go_region_law ((refine step_copy_runI rfl _ _ 71 71 rfl (.slice (some ⟨g, off + (i + 1), none⟩) (n + 1 - (i + 1)) (c - (i + 1))) (.slice (some ⟨g, off + i, none⟩) (n + 1 - i) (c - i)) (by simp [Act.eval, Act.put]) (by simp [Act.eval, Act.put]) (hcp1 3 (c - (i + 1)) (c - i)) ?_))
  go_wp2_with (at_builtin; refine wpList_copy_runI _ rfl _ _ 71 71 rfl _ _ rfl rfl (hcp2 _ (fun _ => rfl) (fun _ => rfl) _ _) ?_)
  go_ret
  have h := HF.out
  rw [Hyt.out] at HE
  rw [HE.out] at h
  exact ⟨rfl, h.1, h.2⟩

set_option maxHeartbeats 4000000 in
set_option maxRecDepth 100000 in
theorem insert_str_grow (w : World) (g off n : Nat) (xs : List Value) (hown : Own w 9 1 (.slice (some ⟨g, off, none⟩) n n) n xs) (h1 : ∀ u ∈ xs, u.oneCell' = true) (x : Value) (hx1 : x.oneCell' = true) (vb : Nat) (hvb : w.heap[vb]? = some (.cells #[x] 9 (0, 0))) (i : Nat) (hi : i < n) (hn : n ≤ 1099511627776) :
    Calls Try.prog 112 #[.slice (some ⟨g, off, none⟩) n n, .int .i64 i, .slice (some ⟨vb, 0, none⟩) 1 1] w fun e w' => ∃ a' c', e = .returned (.slice a' (n + 1) c') ∧ Own w' 9 1 (.slice a' (n + 1) c') (n + 1) (xs.take i ++ x :: xs.drop i) ∧ Below w.heap.size w w' ∧ (∀ k, (Value.slice a' (n + 1) c').ownBlock = some k → w.heap.size ≤ k) := by
  obtain ⟨i0, hi0, hz0, hzs, hzb⟩ := info_parts info_str
  obtain ⟨ys, hyl, hyt, hnc, hcm, hfull⟩ := hown.full
  have hxl := hown.1
  obtain ⟨hcs0, hsp, hfz, kB, hsb, hkB⟩ := hfull.spots
  have hyx : ys = xs := by rw [← hyt, List.take_of_length_le (by omega)]
  rw [hyx] at hcs0
  have hbw : g < w.heap.size := block_lt_of_cell (hcs0 0 _ (List.getElem?_eq_getElem (by omega)))
  have hvc : w.cell? ⟨vb, 0, none⟩ = some x := by rw [cell_of_row w vb 0 _ _ _ hvb]; rfl
  have hvw : vb < w.heap.size := lt_heap hvb
  have hszi : (Try.prog.info? 9).map (·.size) = some 1 := by kernel_rfl
  have hdl : (xs.drop i).length = n - i := by rw [List.length_drop]; omega
  have hkk : (n : Int) + 1 - (i : Int) = ((n + 1 - i : Nat) : Int) := by omega
  have hik : i + (n + 1 - i) = n + 1 := by omega
  have hold : (Builtin.firstCells i0.size i (.slice (some ⟨g, off, none⟩) i n)).run Try.prog w.drew = .ok (xs.take i).toArray w.drew := by
    rw [hzs]
    exact run_firstCells_some w.drew 1 i ⟨g, off, none⟩ i n (xs.take i) (by rw [List.length_take]; omega) (fun j v hj => by
      rw [add_off]
      rw [List.getElem?_take] at hj
      split at hj
      · exact hcs0 j v hj
      · cases hj)
  have hrz : ∀ ty, (Builtin.append_ #[71, 3] ty #[.slice (some ⟨g, off, none⟩) i n, .int .i64 ((n : Int) + 1 - (i : Int))]).run Try.prog w =
      .ok (.slice (some ⟨w.heap.size, 0, none⟩) (n + 1) (grownCap w (n + 1) n 9)) (w.drew.alloc (.cells ((xs.take i).toArray ++ Builtin.zeroCells (.string ⟨#[]⟩ : Value).cells (n + 1 - i) ++ Builtin.zeroCells (.string ⟨#[]⟩ : Value).cells (grownCap w (n + 1) n 9 - (n + 1))) 9)) := fun ty => by
    have h := Lib.run_append_grow_zeros w 71 3 ty 9 i0 _ .i64 .i64 Try.underlying71 Try.underlying3 hi0 hz0 (some ⟨g, off, none⟩) i n (xs.take i) hold (n + 1 - i) (by omega) (by omega) (by omega) (by omega) (by rw [hzb]; omega) (by rw [hzb, hik]; exact growslice_fits (by omega) (by omega))
    rw [hik] at h
    rw [hkk]
    exact h
  obtain ⟨G, hG⟩ : ∃ G, G = grownCap w (n + 1) n 9 := ⟨_, rfl⟩
  obtain ⟨ROW, hROW⟩ : ∃ ROW : Array Value, ROW = (xs.take i).toArray ++ Builtin.zeroCells (.string ⟨#[]⟩ : Value).cells (n + 1 - i) ++ Builtin.zeroCells (.string ⟨#[]⟩ : Value).cells (G - (n + 1)) := ⟨_, rfl⟩
  rw [← hG] at hrz
  rw [← hROW] at hrz
  have hGn : n + 1 ≤ G := by rw [hG]; exact grownCap_ge w _ _ _
  have hG63 : G ≤ 9223372036854775807 := by
    have := grownCap_le_maxLen w (n + 1) n 9 (by unfold maxLen; omega)
    rw [← hG] at this
    unfold maxLen at this
    omega
  have hRs : ROW.size = G := by
    rw [hROW]
    simp [Builtin.zeroCells, Value.cells]
    omega
  have hRt : ROW.toList.take i = xs.take i := by
    rw [hROW]
    simp only [Array.toList_append, List.append_assoc]
    exact List.take_left' (by simp; omega)
  obtain ⟨W1, hW1⟩ : ∃ W1, W1 = w.drew.alloc (.cells ROW 9) := ⟨_, rfl⟩
  rw [← hW1] at hrz
  have hN : ∀ j, j < n + 1 → (W1.cell? ⟨w.heap.size, j, none⟩).isSome = true := fun j hj => by
    rw [hW1, World.cell?_alloc_at (w := w.drew) ROW _ w.heap.size j rfl, Array.getElem?_eq_getElem (by omega)]; rfl
  have hNf : ∀ j, W1.frozen? ⟨w.heap.size, j, none⟩ = false := fun j => by rw [hW1]; exact World.frozen?_alloc_at (w := w.drew) ROW _ w.heap.size j rfl
  have hOb : ∀ j v, w.cell? ⟨g, j, none⟩ = some v → W1.cell? ⟨g, j, none⟩ = some v := fun j v h => by rw [hW1, World.cell?_alloc_past (w := w.drew) _ g j hbw]; exact h
  have hOv : W1.cell? ⟨vb, 0, none⟩ = some x := by rw [hW1, World.cell?_alloc_past (w := w.drew) _ vb 0 hvw]; exact hvc
  have hcpA : ∀ (W : World), (∀ y, W.cell? y = W1.cell? y) → (∀ y, W.frozen? y = W1.frozen? y) → ∀ ty dc, (Builtin.copy_ #[71, 71] ty #[.slice (some ⟨w.heap.size, i, none⟩) (n + 1 - i) dc, .slice (some ⟨vb, 0, none⟩) 1 1]).run Try.prog W = .ok (goInt 1) (W.setCells w.heap.size i [x]) := fun W hWc hWf ty dc =>
    run_copy_cells W _ _ ty 9 w.heap.size i (n + 1 - i) dc ⟨vb, 0, none⟩ 1 1 [x] Try.underlying71 hszi (by simp only [Nat.min_def, List.length_singleton]; split <;> omega)
      (fun j v hj => by
        rw [add_off, hWc]
        have hj0 : j = 0 ∧ v = x := by
          cases j with
          | zero => simpa using hj.symm
          | succ j => simp at hj
        obtain ⟨rfl, rfl⟩ := hj0
        exact hOv)
      (fun j hj => by rw [hWc]; simp at hj; exact hN _ (by omega)) (fun j hj => by rw [hWf]; exact hNf _) (by simpa using hx1)
  have hGi : ¬ (G = i) := by omega
  have hGim : ¬ (G = i + 1) := by omega
  have hci : ¬ (n = i) := by omega
  have hbN : g ≠ w.heap.size := by omega
  have hcpB : ∀ (W : World), (∀ y, W.cell? y = (W1.setCells w.heap.size i [x]).cell? y) → (∀ y, W.frozen? y = (W1.setCells w.heap.size i [x]).frozen? y) → ∀ ty dc sc, (Builtin.copy_ #[71, 71] ty #[.slice (some ⟨w.heap.size, i + 1, none⟩) (n + 1 - (i + 1)) dc, .slice (some ⟨g, off + i, none⟩) (n - i) sc]).run Try.prog W = .ok (goInt (xs.drop i).length) (W.setCells w.heap.size (i + 1) (xs.drop i)) := fun W hWc hWf ty dc sc =>
    run_copy_cells W _ _ ty 9 w.heap.size (i + 1) (n + 1 - (i + 1)) dc ⟨g, off + i, none⟩ (n - i) sc (xs.drop i) Try.underlying71 hszi (by rw [hdl]; simp only [Nat.min_def]; split <;> omega)
      (fun j v hj => by
        rw [add_off, hWc, World.cell?_setCells_out _ _ _ _ _ (fun h _ => absurd h hbN), Nat.add_assoc]
        exact hOb _ v (hcs0 (i + j) v (by rwa [List.getElem?_drop] at hj)))
      (fun j hj => by rw [hWc]; exact isSome_setCells _ _ _ _ (fun t ht => hN _ (by simp at ht; omega)) _ (hN _ (by omega)))
      (fun j hj => by rw [hWf, World.frozen?_setCells]; exact hNf _) (fun v hv => h1 v (List.mem_of_mem_drop hv))
  have hfin : Own (((w.alloc (.cells ROW 9)).drew.setCells w.heap.size i [x]).drew.setCells w.heap.size (i + 1) (xs.drop i)) 9 1 (.slice (some ⟨w.heap.size, 0, none⟩) (n + 1) G) (n + 1) (xs.take i ++ x :: xs.drop i) := by
    have h0 : Own (w.alloc (.cells ROW 9)).drew 9 1 (.slice (some ⟨w.heap.size, 0, none⟩) G G) G ROW.toList := by
      have := Own.row_made w 9 G ROW (by omega) (by omega)
      rw [List.take_of_length_le (by simp; omega), hRs] at this
      exact this.drew
    have h2 := Own.setCells (xs.drop i) _ _ (i + 1) (Own.setCells [x] _ _ i h0 (by simp; omega)).drew (by rw [hdl]; omega)
    rw [Nat.zero_add, Nat.zero_add] at h2
    have h3 := h2.part (n + 1) hGn
    rw [grow_eq ROW.toList xs n i x (by omega) (by omega) (by simp; omega) hRt] at h3
    exact h3
  have hbel : Below w.heap.size w (((w.alloc (.cells ROW 9)).drew.setCells w.heap.size i [x]).drew.setCells w.heap.size (i + 1) (xs.drop i)) := by
    have h : Upd (fun b => b = w.heap.size) w (((w.alloc (.cells ROW 9)).drew.setCells w.heap.size i [x]).drew.setCells w.heap.size (i + 1) (xs.drop i)) :=
      Upd.setCells' (S := fun b => b = w.heap.size) _ (fun _ => rfl) _ _ _ (Upd.setCells' (S := fun b => b = w.heap.size) _ (fun _ => rfl) _ _ _ ((Upd.refl _ w).alloc _).drew).drew
    exact h.toBelow (fun k hk => Nat.le_of_eq hk.symm) (Nat.le_refl _)
  have HF := Lib.hid (And.intro hfin hbel)
  subst hW1
  have hE1 : ∀ y, ((w.alloc (.cells ROW 9)).drew).cell? y = (w.drew.alloc (.cells ROW 9)).cell? y := fun y => rfl
  have hE2 : ∀ y, ((w.alloc (.cells ROW 9)).drew).frozen? y = (w.drew.alloc (.cells ROW 9)).frozen? y := fun y => rfl
  have hF1 : ∀ y, (((w.alloc (.cells ROW 9)).drew.setCells w.heap.size i [x]).drew).cell? y = ((w.drew.alloc (.cells ROW 9)).setCells w.heap.size i [x]).cell? y := fun y => rfl
  have hF2 : ∀ y, (((w.alloc (.cells ROW 9)).drew.setCells w.heap.size i [x]).drew).frozen? y = ((w.drew.alloc (.cells ROW 9)).setCells w.heap.size i [x]).frozen? y := fun y => rfl
  have hw1 : IntKind.i64.wrap ((i : Int) + 1) = (i : Int) + 1 := by rw [IntKind.wrap_i64]; omega
  have hb1 : (0 : Int) ≤ (i : Int) + 1 := by omega
  have hin : i ≤ n := by omega
  have htn : ((i : Int) + 1).toNat = i + 1 := by omega
  have hb3 : (i : Int) ≤ (n : Int) := by omega
  have hz2 : ¬ ((i : Int) = (n : Int)) := by omega
  clear hkk hik hold hROW hG hown hyt hyl hfull hcs0 hsp hfz hsb hkB hyx hxl hRs hRt hfin hbel hN hNf hOb hOv
  go_enter Try.func112, Try.ntmps112
  go_wp2_with (first
    | (at_builtin; refine Lib.wpList_append_run _ rfl _ _ _ _ rfl _ _ rfl rfl _ _ (hrz _) ?_)
    | (at_builtin; refine wpList_copy_runI _ rfl _ _ 71 71 rfl _ _ rfl rfl (hcpA _ hE1 hE2 _ _) ?_)
    | (at_builtin; refine wpList_copy_runI _ rfl _ _ 71 71 rfl _ _ rfl rfl (hcpB _ (fun _ => rfl) (fun _ => rfl) _ _ _) ?_))
  go_region_law ((refine step_copy_runI rfl _ _ 71 71 rfl (.slice (some ⟨w.heap.size, i + 1, none⟩) (n + 1 - (i + 1)) (G - (i + 1))) (.slice (some ⟨g, off + i, none⟩) (n - i) (n - i)) (by simp [Act.eval, Act.put]) (by simp [Act.eval, Act.put]) (hcpB _ hF1 hF2 3 (G - (i + 1)) (n - i)) ?_))
  go_wp2
  go_ret
  exact ⟨_, _, rfl, HF.out.1, HF.out.2, fun k hk => by simp [Value.ownBlock] at hk; omega⟩
theorem insert_str (w : World) (a : Option Addr) (n c : Nat) (xs : List Value) (hown : Own w 9 1 (.slice a n c) n xs) (h1 : ∀ u ∈ xs, u.oneCell' = true) (x : Value) (hx1 : x.oneCell' = true) (vb : Nat) (hvb : w.heap[vb]? = some (.cells #[x] 9 (0, 0))) (hne : (Value.slice a n c).ownBlock ≠ some vb) (i : Nat) (hi : i ≤ n) (hn : n ≤ 1099511627776) :
    Calls Try.prog 112 #[.slice a n c, .int .i64 i, .slice (some ⟨vb, 0, none⟩) 1 1] w fun e w' => ∃ a' c', e = .returned (.slice a' (n + 1) c') ∧ Own w' 9 1 (.slice a' (n + 1) c') (n + 1) (xs.take i ++ x :: xs.drop i) ∧ Upd (fun b => (Value.slice a n c).ownBlock = some b) w w' ∧ (∀ k, (Value.slice a n c).ownBlock ≠ some k → (Value.slice a' (n + 1) c').ownBlock = some k → w.heap.size ≤ k) := by
  have hxl := hown.1
  by_cases hin : i = n
  · subst hin
    have h := insert_str_end w a i c xs hown x hx1 vb hvb hn
    rw [List.take_of_length_le (by omega), List.drop_of_length_le (by omega)]
    exact h
  · rcases hown.2.2 with ⟨_, h0⟩ | ⟨g, off, cap, cur, hv, _, hnc, _⟩
    · omega
    · injection hv with hv1 hv2 hv3
      subst hv1 hv3
      have hvg : vb ≠ g := fun e => hne (by rw [e]; rfl)
      by_cases hroom : n + 1 ≤ c
      · refine (insert_str_shift w g off n c xs hown h1 x hx1 vb hvb hvg i (by omega) hroom).mono ?_
        rintro e w' ⟨rfl, h2, h3⟩
        exact ⟨_, _, rfl, h2, h3.mono (fun b _ hb => by rw [hb]; rfl), fun k hk hk2 => absurd hk2 hk⟩
      · obtain rfl : c = n := by omega
        refine (insert_str_grow w g off c xs hown h1 x hx1 vb hvb i (by omega) hn).mono ?_
        rintro e w' ⟨a', c', rfl, h2, h3, h4⟩
        exact ⟨_, _, rfl, h2, Upd.below h3 _, fun k _ hk2 => h4 k hk2⟩

set_option maxHeartbeats 4000000 in
set_option maxRecDepth 100000 in
theorem delete_str (w : World) (a : Option Addr) (n c : Nat) (xs : List Value) (hown : Own w 9 1 (.slice a n c) n xs) (h1 : ∀ u ∈ xs, u.oneCell' = true) (i : Nat) (hi : i < n) (j : Int) (hj : j = (i : Int) + 1) :
    Calls Try.prog 114 #[.slice a n c, .int .i64 i, .int .i64 j] w fun e w' => e = .returned (.slice a (n - 1) c) ∧ Own w' 9 1 (.slice a (n - 1) c) (n - 1) (xs.eraseIdx i) ∧ Upd (fun b => (Value.slice a n c).ownBlock = some b) w w' := by
  obtain ⟨i0, hi0, hz0, hzs, hzb⟩ := info_parts info_str
  have hxl := hown.1
  rcases hown.2.2 with ⟨_, h0⟩ | ⟨g, off, cap, cur, hv, _, hnc, hcm, _⟩
  · omega
  injection hv with hv1 hv2 hv3
  subst hv1 hv3
  obtain ⟨ys, hyl, hyt, _, _, hfull⟩ := hown.full
  obtain ⟨hcs, hsp, hfz, kB, hsb, hkB⟩ := hfull.spots
  have hx : ∀ j v, xs[j]? = some v → w.cell? ⟨g, off + j, none⟩ = some v := fun j v hj => hcs j v (by
    rw [← hyt, List.getElem?_take] at hj
    split at hj
    · exact hj
    · cases hj)
  obtain ⟨news, hnews⟩ : ∃ news, news = xs.drop (i + 1) := ⟨_, rfl⟩
  have hlen : news.length = n - (i + 1) := by rw [hnews, List.length_drop]; omega
  obtain ⟨A, hA, hsrc⟩ : ∃ A : Addr, (if c = i + 1 then (some ⟨g, off, none⟩ : Option Addr) else some ⟨g, off + (i + 1), none⟩) = some A ∧ Hid (∀ t u, news[t]? = some u → w.drew.cell? (A.add t) = some u) := by
    by_cases h : c = i + 1
    · refine ⟨⟨g, off, none⟩, by simp [h], fun t u hu => ?_⟩
      have h0 : news.length = 0 := by rw [hlen]; omega
      rw [List.length_eq_zero_iff.1 h0] at hu
      simp at hu
    · refine ⟨⟨g, off + (i + 1), none⟩, by simp [h], fun t u hu => ?_⟩
      rw [hnews, List.getElem?_drop] at hu
      rw [add_off, Nat.add_assoc]
      exact hx _ u hu
  have s1 : Hid (news.length = (n - (i + 1)) * 1) := by rw [Nat.mul_one]; exact hlen
  have s2 : Hid (∀ u ∈ news, u.oneCell' = true) := fun u hu => by rw [hnews] at hu; exact h1 u (List.mem_of_mem_drop hu)
  have s3 : Hid (∀ t, t < news.length → (w.drew.cell? ⟨g, off + i * 1 + t, none⟩).isSome = true ∧ w.drew.frozen? ⟨g, off + i * 1 + t, none⟩ = false) := fun t ht => by
    rw [hlen] at ht
    rw [Nat.mul_one, Nat.add_assoc]
    exact ⟨hsp _ (by omega), hfz _⟩
  obtain ⟨W1, hW1⟩ : ∃ W1, W1 = w.drew.setCells g (off + i * 1) news := ⟨_, rfl⟩
  have hf1 : Own W1 9 1 (.slice (some ⟨g, off, none⟩) n c) n (splice xs i news) := by rw [hW1, Nat.mul_one]; exact Own.setCells _ _ _ _ hown.drew (by rw [hlen]; omega)
  have hu1 : Upd (fun b => (Value.slice (some ⟨g, off, none⟩) n c).ownBlock = some b) w W1 := by rw [hW1]; exact Upd.setCells' (S := fun b => (Value.slice (some ⟨g, off, none⟩) n c).ownBlock = some b) g (fun _ => rfl) _ _ _ (Upd.refl _ w).drew
  obtain ⟨zs, hzl, hzt, _, _, hfz1⟩ := hf1.full
  obtain ⟨_, hsp1, hfr1, _⟩ := hfz1.spots
  have hcl : ∀ ty n' c', n' = 1 → (Builtin.clear_ #[71] ty #[.slice (some ⟨g, off + (n - 1), none⟩) n' c']).run Try.prog W1 = .ok (.tuple #[]) (W1.setCells g (off + (n - 1)) [.string ⟨#[]⟩]) := fun ty n' c' hn' => by
    subst hn'
    exact Lib.run_clear_slice W1 71 9 ty (.string ⟨#[]⟩) Try.underlying71 (fun w => by kernel_rfl) rfl rfl g (off + (n - 1)) 1 c' (by omega) (fun t ht => by rw [Nat.add_assoc]; exact hsp1 _ (by omega)) (fun t ht => hfr1 _)
  have hfin := (Own.setCells [.string ⟨#[]⟩] W1 _ (n - 1) hf1 (by simp; omega)).full
  obtain ⟨us, hul, hut, _, _, huf⟩ := hfin
  have hfin2 := huf.part (n - 1) (by omega)
  have hee : us.take (n - 1) = xs.eraseIdx i := by
    have h := cut_eq xs n i (.string ⟨#[]⟩) hi (by omega)
    rw [← hnews, ← hut, List.take_take, Nat.min_eq_left (by omega)] at h
    exact h
  rw [hee] at hfin2
  have HF := Lib.hid (And.intro hfin2 (Upd.setCells' (S := fun b => (Value.slice (some ⟨g, off, none⟩) n c).ownBlock = some b) g (fun _ => rfl) [.string ⟨#[]⟩] (off + (n - 1)) W1 hu1))
  have HW := Lib.hid hW1
  have n1 : i + (n - (i + 1)) = n - 1 := by omega
  have k0 : (i : Int) + 1 ≤ (n : Int) := by omega
  have k1 : (n : Int) ≤ (c : Int) := by omega
  have k2 : ¬ ((i : Int) = (i : Int) + 1) := by omega
  have k3 : ((i : Int) + 1).toNat = i + 1 := by omega
  have k4 : (i : Int) ≤ (c : Int) := by omega
  have k5 : (0 : Int) ≤ (i : Int) + 1 := by omega
  have k6 : (i : Int) ≤ (i : Int) + 1 := by omega
  have k7 : ¬ (c = n - 1) := by omega
  have k8 : (((n - 1 : Nat) : Int)) ≤ (n : Int) := by omega
  have k9 : n - (n - 1) = 1 := by omega
  subst hj
  clear hown hyt hyl hfull hcs hsp hfz hsb hkB hx hf1 hu1 hsp1 hfr1 hfz1 hfin2 huf hut hul hzl hzt hee hnews hlen hW1 hxl h1
  go_enter Try.func114, Try.ntmps114
  go_wp2_with fail
  go_region_law ((refine step_append_room rfl (.tmp 22) (.tmp 25) 71 rfl 9 i0 1 Try.underlying71 hi0 hzs g off i c (by simp [Act.eval, Act.put]) A (n - (i + 1)) (c - (i + 1)) news (by simp [Act.eval, Act.put, hA]) s1.out hsrc.out s2.out (by omega) s3.out ?_; rw [← HW.out, n1]))
  go_wp2
  go_ret
  exact ⟨rfl, HF.out.1, HF.out.2⟩


theorem info_ptr : (Try.prog.info? 55).map (fun i => (i.zero, i.size, i.bytes)) = some (some (.pointer none), 1, 8) := by kernel_rfl
set_option maxRecDepth 100000 in
theorem clone_ptr (w : World) (a : Option Addr) (n c : Nat) (xs : List Value) (hs : Sl w 1 (.slice a n c) n xs) (h1 : ∀ u ∈ xs, u.oneCell' = true) (hn : n ≤ 1099511627776) :
    Calls Try.prog 110 #[.slice a n c] w fun e w' => ∃ a' c', e = .returned (.slice a' n c') ∧ Own w' 55 1 (.slice a' n c') n xs ∧ Below w.heap.size w w' ∧ (∀ b, (Value.slice a' n c').ownBlock = some b → w.heap.size ≤ b) := by
  obtain ⟨i0, hi, hz0, hz1, hz2⟩ := info_parts info_ptr
  cases a with
  | none =>
    have hx : xs = [] := by
      obtain ⟨a0, c0, he, hl, hm, hc⟩ := hs
      injection he with he
      cases xs with
      | nil => rfl
      | cons y r => obtain ⟨ad, h, _⟩ := hc (by simp); rw [← he] at h; cases h
    have hn0 : n = 0 := by
      obtain ⟨a0, c0, he, hl, hm, hc⟩ := hs
      rw [hx] at hl; simp at hl; omega
    subst hx hn0
    have q : ∀ w, (binOp .eql 89 (.slice none 0 c) (.slice none 0 0)).run Try.prog w = .ok (.bool true) w := fun w => Lib.run_eql_slice_nil w _ _ none 0 c 0 0 Try.underlying89
    go_enter Try.func110, Try.ntmps110
    go_wp2
    go_ret
    exact ⟨none, 0, rfl, Own.nil _ _ _, Below.refl _ _, fun b hb => by simp [Value.ownBlock] at hb⟩
  | some ad =>
    have Hs := Lib.hid hs
    have H1 := Lib.hid h1
    have q : ∀ w, (binOp .eql 89 (.slice (some ad) n c) (.slice none 0 0)).run Try.prog w = .ok (.bool false) w := fun w => Lib.run_eql_slice_nil w _ _ (some ad) n c 0 0 Try.underlying89
    clear hs h1
    go_enter Try.func110, Try.ntmps110
    go_wp2_with (at_builtin; refine wpList_append_any rfl _ _ 89 rfl 55 i0 (.pointer none) 1 8 Try.underlying89 hi hz0 hz1 hz2 rfl (by decide) (.slice (some ⟨w.heap.size, 0, none⟩) 0 0) 0 [] (.slice (some ad) n c) n xs rfl rfl (Own.made w 55 1 0 #[] rfl (by omega)) (Hs.out.kept ((Upd.refl (fun _ => False) w).alloc _) (fun _ _ _ => id)) H1.out (by omega) (by omega) ?_)
    intro a5 c5 w5 hown5 hgr5 hb5
    have H5 := Lib.hid (And.intro hown5 (And.intro hgr5 hb5))
    clear hown5 hgr5 hb5
    go_wp2
    go_ret
    refine ⟨a5, c5, rfl, by simpa using H5.out.1, ?_, fun b hb => ?_⟩
    · exact ((Upd.refl (fun b => w.heap.size ≤ b) w).alloc (.cells #[] 55)).grown H5.out.2.1 (fun k hk _ => by simp [Value.ownBlock] at hk; omega) |>.toBelow (fun k hk => hk) (Nat.le_refl _)
    · by_cases h : (Value.slice (some ⟨w.heap.size, 0, none⟩) 0 0).ownBlock = some b
      · simp [Value.ownBlock] at h; omega
      · have h2 := H5.out.2.2 b h (by simpa using hb)
        omega

set_option maxHeartbeats 2000000 in
set_option maxRecDepth 100000 in
theorem insert_ptr_end (w : World) (a : Option Addr) (n c : Nat) (xs : List Value) (hown : Own w 55 1 (.slice a n c) n xs) (x : Value) (hx1 : x.oneCell' = true) (vb : Nat) (hvb : w.heap[vb]? = some (.cells #[x] 55 (0, 0))) (hn : n ≤ 1099511627776) :
    Calls Try.prog 113 #[.slice a n c, .int .i64 n, .slice (some ⟨vb, 0, none⟩) 1 1] w fun e w' => ∃ a' c', e = .returned (.slice a' (n + 1) c') ∧ Own w' 55 1 (.slice a' (n + 1) c') (n + 1) (xs ++ [x]) ∧ Upd (fun b => (Value.slice a n c).ownBlock = some b) w w' ∧ (∀ k, (Value.slice a n c).ownBlock ≠ some k → (Value.slice a' (n + 1) c').ownBlock = some k → w.heap.size ≤ k) := by
  obtain ⟨i0, hi, hz0, hz1, hz2⟩ := info_parts info_ptr
  have hsv : Sl w 1 (.slice (some ⟨vb, 0, none⟩) 1 1) 1 [x] := ⟨_, _, rfl, rfl, by omega, fun _ => ⟨_, rfl, fun j u hj => by rw [add_off, cell_of_row w vb _ _ _ _ hvb]; simpa using hj⟩⟩
  have Hown := Lib.hid hown
  have Hsv := Lib.hid hsv
  have Hx1 := Lib.hid (show ∀ u ∈ [x], u.oneCell' = true by simpa using hx1)
  clear hown hsv hvb hx1
  cases a with
  | none =>
    go_enter Try.func113, Try.ntmps113
    go_wp2_with (at_builtin; refine wpList_append_any rfl _ _ 89 rfl 55 i0 (.pointer none) 1 8 Try.underlying89 hi hz0 hz1 hz2 rfl (by decide) (.slice none n c) n xs (.slice (some ⟨vb, 0, none⟩) 1 1) 1 [x] rfl rfl Hown.out Hsv.out Hx1.out (by omega) (by omega) ?_)
    intro a5 c5 w5 hown5 hgr5 hb5
    have H5 := Lib.hid (And.intro hown5 (And.intro hgr5 hb5))
    clear hown5 hgr5 hb5
    go_wp2
    go_ret
    exact ⟨a5, c5, rfl, H5.out.1, (Upd.refl _ w).grown H5.out.2.1 (fun k hk _ => hk), H5.out.2.2⟩
  | some ad =>
    go_enter Try.func113, Try.ntmps113
    go_wp2_with (at_builtin; refine wpList_append_any rfl _ _ 89 rfl 55 i0 (.pointer none) 1 8 Try.underlying89 hi hz0 hz1 hz2 rfl (by decide) (.slice (some ad) n c) n xs (.slice (some ⟨vb, 0, none⟩) 1 1) 1 [x] rfl rfl Hown.out Hsv.out Hx1.out (by omega) (by omega) ?_)
    all_goals
      intro a5 c5 w5 hown5 hgr5 hb5
      have H5 := Lib.hid (And.intro hown5 (And.intro hgr5 hb5))
      clear hown5 hgr5 hb5
      go_wp2
      go_ret
      exact ⟨a5, c5, rfl, H5.out.1, (Upd.refl _ w).grown H5.out.2.1 (fun k hk _ => hk), H5.out.2.2⟩

set_option maxHeartbeats 4000000 in
set_option maxRecDepth 100000 in
theorem insert_ptr_shift (w : World) (g off n c : Nat) (xs : List Value) (hown : Own w 55 1 (.slice (some ⟨g, off, none⟩) n c) n xs) (h1 : ∀ u ∈ xs, u.oneCell' = true) (x : Value) (hx1 : x.oneCell' = true) (vb : Nat) (hvb : w.heap[vb]? = some (.cells #[x] 55 (0, 0))) (hne : vb ≠ g) (i : Nat) (hi : i < n) (hroom : n + 1 ≤ c) :
    Calls Try.prog 113 #[.slice (some ⟨g, off, none⟩) n c, .int .i64 i, .slice (some ⟨vb, 0, none⟩) 1 1] w fun e w' => e = .returned (.slice (some ⟨g, off, none⟩) (n + 1) c) ∧ Own w' 55 1 (.slice (some ⟨g, off, none⟩) (n + 1) c) (n + 1) (xs.take i ++ x :: xs.drop i) ∧ Upd (fun b => b = g) w w' := by
  obtain ⟨ys, hyl, hyt, hnc, hcm, hfull⟩ := hown.full
  have hxl := hown.1
  obtain ⟨hcs, hsp, hfz, kB, hsb, hkB⟩ := hfull.spots
  have hsa : w.shape? vb = some (55, 1) := by unfold World.shape?; rw [hvb]; rfl
  have hfa : w.frozen? ⟨vb, 0, none⟩ = false := frozen_of_row w vb 0 _ _ hvb
  have hfe : w.frozen? ⟨vb, 1, none⟩ = false := frozen_of_row w vb 1 _ _ hvb
  have hvc : w.cell? ⟨vb, 0, none⟩ = some x := by rw [cell_of_row w vb 0 _ _ _ hvb]; rfl
  have hx : ∀ j v, xs[j]? = some v → w.cell? ⟨g, off + j, none⟩ = some v := fun j v hj => hcs j v (by
    rw [← hyt, List.getElem?_take] at hj
    split at hj
    · exact hj
    · cases hj)
  have hov : ∀ lb cb, (callFunc 127 #[.slice (some ⟨vb, 0, none⟩) 1 1, .slice (some ⟨g, off + (i + 1), none⟩) lb cb]).run Try.prog w = .ok (.value (.bool false)) w := fun lb cb => by
    rw [run_callFunc_extern Try.func127 (by kernel_rfl) (by kernel_rfl) (by kernel_rfl) (e := Extern.SlicesOverlaps.overlaps #[89, 89] #[4]) (by kernel_rfl),
      Lib.run_overlaps_apart w 89 4 55 Try.underlying89 1 (fun _ => by kernel_rfl) ⟨vb, 0, none⟩ ⟨g, off + (i + 1), none⟩ 1 1 lb cb hne 55 55 1 kB hsa hsb (by omega) hfa hfe]
    rfl
  have hszi : (Try.prog.info? 55).map (·.size) = some 1 := by kernel_rfl
  have hdl : (xs.drop i).length = n - i := by rw [List.length_drop]; omega
  have hcp1 : ∀ ty dc sc, (Builtin.copy_ #[89, 89] ty #[.slice (some ⟨g, off + (i + 1), none⟩) (n + 1 - (i + 1)) dc, .slice (some ⟨g, off + i, none⟩) (n + 1 - i) sc]).run Try.prog w.drew = .ok (goInt (xs.drop i).length) (w.drew.setCells g (off + (i + 1)) (xs.drop i)) := fun ty dc sc =>
    run_copy_cells w.drew _ _ ty 55 g (off + (i + 1)) (n + 1 - (i + 1)) dc ⟨g, off + i, none⟩ (n + 1 - i) sc (xs.drop i) Try.underlying89 hszi (by rw [hdl]; simp only [Nat.min_def]; split <;> omega)
      (fun j v hj => by rw [add_off, Nat.add_assoc]; exact hx (i + j) v (by rwa [List.getElem?_drop] at hj))
      (fun j hj => by rw [Nat.add_assoc]; exact hsp _ (by omega)) (fun j hj => hfz _) (fun v hv => h1 v (List.mem_of_mem_drop hv))
  obtain ⟨W1, hW1⟩ : ∃ W1, W1 = w.drew.setCells g (off + (i + 1)) (xs.drop i) := ⟨_, rfl⟩
  have hf1 : Own W1 55 1 (.slice (some ⟨g, off, none⟩) c c) c (splice ys (i + 1) (xs.drop i)) := by rw [hW1]; exact Own.setCells _ _ _ _ hfull.drew (by rw [hdl]; omega)
  have hu1 : Upd (fun b => b = g) w W1 := by rw [hW1]; exact Upd.setCells' (S := fun b => b = g) g (fun _ => rfl) _ _ _ (Upd.refl _ w).drew
  obtain ⟨_, hsp1, hfz1, _⟩ := hf1.spots
  have hcp2 : ∀ (W : World), (∀ y, W.cell? y = W1.cell? y) → (∀ y, W.frozen? y = W1.frozen? y) → ∀ ty dc, (Builtin.copy_ #[89, 89] ty #[.slice (some ⟨g, off + i, none⟩) (n + 1 - i) dc, .slice (some ⟨vb, 0, none⟩) 1 1]).run Try.prog W = .ok (goInt 1) (W.setCells g (off + i) [x]) := fun W hWc hWf ty dc =>
    run_copy_cells W _ _ ty 55 g (off + i) (n + 1 - i) dc ⟨vb, 0, none⟩ 1 1 [x] Try.underlying89 hszi (by simp only [Nat.min_def, List.length_singleton]; split <;> omega)
      (fun j v hj => by
        rw [add_off, hWc]
        have hj0 : j = 0 ∧ v = x := by
          cases j with
          | zero => simpa using hj.symm
          | succ j => simp at hj
        obtain ⟨rfl, rfl⟩ := hj0
        exact hu1.cell hvc hne)
      (fun j hj => by rw [hWc, Nat.add_assoc]; simp at hj; exact hsp1 _ (by omega)) (fun j hj => by rw [hWf]; exact hfz1 _) (by simpa using hx1)
  rw [← hW1] at hcp1
  have hw1 : IntKind.i64.wrap ((i : Int) + 1) = (i : Int) + 1 := by rw [IntKind.wrap_i64]; omega
  have hb1 : (0 : Int) ≤ (i : Int) + 1 := by omega
  have hin : i ≤ n := by omega
  have htn : ((i : Int) + 1).toNat = i + 1 := by omega
  have hb2 : ¬ (c = i + 1) := by omega
  have hb3 : (i : Int) ≤ (n : Int) + 1 := by omega
  have hb4 : ¬ (c = i) := by omega
  have hz2 : ¬ ((i : Int) = (n : Int)) := by omega
  have HF := Lib.hid (And.intro (Own.part (Own.setCells [x] W1 _ i hf1 (by simp; omega)) (n + 1) hroom) (Upd.setCells' (S := fun b => b = g) g (fun _ => rfl) [x] (off + i) W1 hu1))
  have HE := Lib.hid (shift_eq ys n i x (by omega) (by omega))
  have Hyt := Lib.hid hyt
  have HW1 := Lib.hid hW1
  clear hown hyt hyl hfull hcs hsp hfz hsb hkB hsa hfa hfe hvc hx hdl hf1 hu1 hsp1 hfz1 hvb hxl h1 hx1 hW1
  go_enter Try.func113, Try.ntmps113
  go_wp2_with (simp only [hov])
  go_region_law ((refine step_copy_runI rfl _ _ 89 89 rfl (.slice (some ⟨g, off + (i + 1), none⟩) (n + 1 - (i + 1)) (c - (i + 1))) (.slice (some ⟨g, off + i, none⟩) (n + 1 - i) (c - i)) (by simp [Act.eval, Act.put]) (by simp [Act.eval, Act.put]) (hcp1 3 (c - (i + 1)) (c - i)) ?_))
  go_wp2_with (at_builtin; refine wpList_copy_runI _ rfl _ _ 89 89 rfl _ _ rfl rfl (hcp2 _ (fun _ => rfl) (fun _ => rfl) _ _) ?_)
  go_ret
  have h := HF.out
  rw [Hyt.out] at HE
  rw [HE.out] at h
  exact ⟨rfl, h.1, h.2⟩

set_option maxHeartbeats 4000000 in
set_option maxRecDepth 100000 in
theorem insert_ptr_grow (w : World) (g off n : Nat) (xs : List Value) (hown : Own w 55 1 (.slice (some ⟨g, off, none⟩) n n) n xs) (h1 : ∀ u ∈ xs, u.oneCell' = true) (x : Value) (hx1 : x.oneCell' = true) (vb : Nat) (hvb : w.heap[vb]? = some (.cells #[x] 55 (0, 0))) (i : Nat) (hi : i < n) (hn : n ≤ 1099511627776) :
    Calls Try.prog 113 #[.slice (some ⟨g, off, none⟩) n n, .int .i64 i, .slice (some ⟨vb, 0, none⟩) 1 1] w fun e w' => ∃ a' c', e = .returned (.slice a' (n + 1) c') ∧ Own w' 55 1 (.slice a' (n + 1) c') (n + 1) (xs.take i ++ x :: xs.drop i) ∧ Below w.heap.size w w' ∧ (∀ k, (Value.slice a' (n + 1) c').ownBlock = some k → w.heap.size ≤ k) := by
  obtain ⟨i0, hi0, hz0, hzs, hzb⟩ := info_parts info_ptr
  obtain ⟨ys, hyl, hyt, hnc, hcm, hfull⟩ := hown.full
  have hxl := hown.1
  obtain ⟨hcs0, hsp, hfz, kB, hsb, hkB⟩ := hfull.spots
  have hyx : ys = xs := by rw [← hyt, List.take_of_length_le (by omega)]
  rw [hyx] at hcs0
  have hbw : g < w.heap.size := block_lt_of_cell (hcs0 0 _ (List.getElem?_eq_getElem (by omega)))
  have hvc : w.cell? ⟨vb, 0, none⟩ = some x := by rw [cell_of_row w vb 0 _ _ _ hvb]; rfl
  have hvw : vb < w.heap.size := lt_heap hvb
  have hszi : (Try.prog.info? 55).map (·.size) = some 1 := by kernel_rfl
  have hdl : (xs.drop i).length = n - i := by rw [List.length_drop]; omega
  have hkk : (n : Int) + 1 - (i : Int) = ((n + 1 - i : Nat) : Int) := by omega
  have hik : i + (n + 1 - i) = n + 1 := by omega
  have hold : (Builtin.firstCells i0.size i (.slice (some ⟨g, off, none⟩) i n)).run Try.prog w.drew = .ok (xs.take i).toArray w.drew := by
    rw [hzs]
    exact run_firstCells_some w.drew 1 i ⟨g, off, none⟩ i n (xs.take i) (by rw [List.length_take]; omega) (fun j v hj => by
      rw [add_off]
      rw [List.getElem?_take] at hj
      split at hj
      · exact hcs0 j v hj
      · cases hj)
  have hrz : ∀ ty, (Builtin.append_ #[89, 3] ty #[.slice (some ⟨g, off, none⟩) i n, .int .i64 ((n : Int) + 1 - (i : Int))]).run Try.prog w =
      .ok (.slice (some ⟨w.heap.size, 0, none⟩) (n + 1) (grownCap w (n + 1) n 55)) (w.drew.alloc (.cells ((xs.take i).toArray ++ Builtin.zeroCells (.pointer none : Value).cells (n + 1 - i) ++ Builtin.zeroCells (.pointer none : Value).cells (grownCap w (n + 1) n 55 - (n + 1))) 55)) := fun ty => by
    have h := Lib.run_append_grow_zeros w 89 3 ty 55 i0 _ .i64 .i64 Try.underlying89 Try.underlying3 hi0 hz0 (some ⟨g, off, none⟩) i n (xs.take i) hold (n + 1 - i) (by omega) (by omega) (by omega) (by omega) (by rw [hzb]; omega) (by rw [hzb, hik]; exact growslice_fits (by omega) (by omega))
    rw [hik] at h
    rw [hkk]
    exact h
  obtain ⟨G, hG⟩ : ∃ G, G = grownCap w (n + 1) n 55 := ⟨_, rfl⟩
  obtain ⟨ROW, hROW⟩ : ∃ ROW : Array Value, ROW = (xs.take i).toArray ++ Builtin.zeroCells (.pointer none : Value).cells (n + 1 - i) ++ Builtin.zeroCells (.pointer none : Value).cells (G - (n + 1)) := ⟨_, rfl⟩
  rw [← hG] at hrz
  rw [← hROW] at hrz
  have hGn : n + 1 ≤ G := by rw [hG]; exact grownCap_ge w _ _ _
  have hG63 : G ≤ 9223372036854775807 := by
    have := grownCap_le_maxLen w (n + 1) n 55 (by unfold maxLen; omega)
    rw [← hG] at this
    unfold maxLen at this
    omega
  have hRs : ROW.size = G := by
    rw [hROW]
    simp [Builtin.zeroCells, Value.cells]
    omega
  have hRt : ROW.toList.take i = xs.take i := by
    rw [hROW]
    simp only [Array.toList_append, List.append_assoc]
    exact List.take_left' (by simp; omega)
  obtain ⟨W1, hW1⟩ : ∃ W1, W1 = w.drew.alloc (.cells ROW 55) := ⟨_, rfl⟩
  rw [← hW1] at hrz
  have hN : ∀ j, j < n + 1 → (W1.cell? ⟨w.heap.size, j, none⟩).isSome = true := fun j hj => by
    rw [hW1, World.cell?_alloc_at (w := w.drew) ROW _ w.heap.size j rfl, Array.getElem?_eq_getElem (by omega)]; rfl
  have hNf : ∀ j, W1.frozen? ⟨w.heap.size, j, none⟩ = false := fun j => by rw [hW1]; exact World.frozen?_alloc_at (w := w.drew) ROW _ w.heap.size j rfl
  have hOb : ∀ j v, w.cell? ⟨g, j, none⟩ = some v → W1.cell? ⟨g, j, none⟩ = some v := fun j v h => by rw [hW1, World.cell?_alloc_past (w := w.drew) _ g j hbw]; exact h
  have hOv : W1.cell? ⟨vb, 0, none⟩ = some x := by rw [hW1, World.cell?_alloc_past (w := w.drew) _ vb 0 hvw]; exact hvc
  have hcpA : ∀ (W : World), (∀ y, W.cell? y = W1.cell? y) → (∀ y, W.frozen? y = W1.frozen? y) → ∀ ty dc, (Builtin.copy_ #[89, 89] ty #[.slice (some ⟨w.heap.size, i, none⟩) (n + 1 - i) dc, .slice (some ⟨vb, 0, none⟩) 1 1]).run Try.prog W = .ok (goInt 1) (W.setCells w.heap.size i [x]) := fun W hWc hWf ty dc =>
    run_copy_cells W _ _ ty 55 w.heap.size i (n + 1 - i) dc ⟨vb, 0, none⟩ 1 1 [x] Try.underlying89 hszi (by simp only [Nat.min_def, List.length_singleton]; split <;> omega)
      (fun j v hj => by
        rw [add_off, hWc]
        have hj0 : j = 0 ∧ v = x := by
          cases j with
          | zero => simpa using hj.symm
          | succ j => simp at hj
        obtain ⟨rfl, rfl⟩ := hj0
        exact hOv)
      (fun j hj => by rw [hWc]; simp at hj; exact hN _ (by omega)) (fun j hj => by rw [hWf]; exact hNf _) (by simpa using hx1)
  have hGi : ¬ (G = i) := by omega
  have hGim : ¬ (G = i + 1) := by omega
  have hci : ¬ (n = i) := by omega
  have hbN : g ≠ w.heap.size := by omega
  have hcpB : ∀ (W : World), (∀ y, W.cell? y = (W1.setCells w.heap.size i [x]).cell? y) → (∀ y, W.frozen? y = (W1.setCells w.heap.size i [x]).frozen? y) → ∀ ty dc sc, (Builtin.copy_ #[89, 89] ty #[.slice (some ⟨w.heap.size, i + 1, none⟩) (n + 1 - (i + 1)) dc, .slice (some ⟨g, off + i, none⟩) (n - i) sc]).run Try.prog W = .ok (goInt (xs.drop i).length) (W.setCells w.heap.size (i + 1) (xs.drop i)) := fun W hWc hWf ty dc sc =>
    run_copy_cells W _ _ ty 55 w.heap.size (i + 1) (n + 1 - (i + 1)) dc ⟨g, off + i, none⟩ (n - i) sc (xs.drop i) Try.underlying89 hszi (by rw [hdl]; simp only [Nat.min_def]; split <;> omega)
      (fun j v hj => by
        rw [add_off, hWc, World.cell?_setCells_out _ _ _ _ _ (fun h _ => absurd h hbN), Nat.add_assoc]
        exact hOb _ v (hcs0 (i + j) v (by rwa [List.getElem?_drop] at hj)))
      (fun j hj => by rw [hWc]; exact isSome_setCells _ _ _ _ (fun t ht => hN _ (by simp at ht; omega)) _ (hN _ (by omega)))
      (fun j hj => by rw [hWf, World.frozen?_setCells]; exact hNf _) (fun v hv => h1 v (List.mem_of_mem_drop hv))
  have hfin : Own (((w.alloc (.cells ROW 55)).drew.setCells w.heap.size i [x]).drew.setCells w.heap.size (i + 1) (xs.drop i)) 55 1 (.slice (some ⟨w.heap.size, 0, none⟩) (n + 1) G) (n + 1) (xs.take i ++ x :: xs.drop i) := by
    have h0 : Own (w.alloc (.cells ROW 55)).drew 55 1 (.slice (some ⟨w.heap.size, 0, none⟩) G G) G ROW.toList := by
      have := Own.row_made w 55 G ROW (by omega) (by omega)
      rw [List.take_of_length_le (by simp; omega), hRs] at this
      exact this.drew
    have h2 := Own.setCells (xs.drop i) _ _ (i + 1) (Own.setCells [x] _ _ i h0 (by simp; omega)).drew (by rw [hdl]; omega)
    rw [Nat.zero_add, Nat.zero_add] at h2
    have h3 := h2.part (n + 1) hGn
    rw [grow_eq ROW.toList xs n i x (by omega) (by omega) (by simp; omega) hRt] at h3
    exact h3
  have hbel : Below w.heap.size w (((w.alloc (.cells ROW 55)).drew.setCells w.heap.size i [x]).drew.setCells w.heap.size (i + 1) (xs.drop i)) := by
    have h : Upd (fun b => b = w.heap.size) w (((w.alloc (.cells ROW 55)).drew.setCells w.heap.size i [x]).drew.setCells w.heap.size (i + 1) (xs.drop i)) :=
      Upd.setCells' (S := fun b => b = w.heap.size) _ (fun _ => rfl) _ _ _ (Upd.setCells' (S := fun b => b = w.heap.size) _ (fun _ => rfl) _ _ _ ((Upd.refl _ w).alloc _).drew).drew
    exact h.toBelow (fun k hk => Nat.le_of_eq hk.symm) (Nat.le_refl _)
  have HF := Lib.hid (And.intro hfin hbel)
  subst hW1
  have hE1 : ∀ y, ((w.alloc (.cells ROW 55)).drew).cell? y = (w.drew.alloc (.cells ROW 55)).cell? y := fun y => rfl
  have hE2 : ∀ y, ((w.alloc (.cells ROW 55)).drew).frozen? y = (w.drew.alloc (.cells ROW 55)).frozen? y := fun y => rfl
  have hF1 : ∀ y, (((w.alloc (.cells ROW 55)).drew.setCells w.heap.size i [x]).drew).cell? y = ((w.drew.alloc (.cells ROW 55)).setCells w.heap.size i [x]).cell? y := fun y => rfl
  have hF2 : ∀ y, (((w.alloc (.cells ROW 55)).drew.setCells w.heap.size i [x]).drew).frozen? y = ((w.drew.alloc (.cells ROW 55)).setCells w.heap.size i [x]).frozen? y := fun y => rfl
  have hw1 : IntKind.i64.wrap ((i : Int) + 1) = (i : Int) + 1 := by rw [IntKind.wrap_i64]; omega
  have hb1 : (0 : Int) ≤ (i : Int) + 1 := by omega
  have hin : i ≤ n := by omega
  have htn : ((i : Int) + 1).toNat = i + 1 := by omega
  have hb3 : (i : Int) ≤ (n : Int) := by omega
  have hz2 : ¬ ((i : Int) = (n : Int)) := by omega
  clear hkk hik hold hROW hG hown hyt hyl hfull hcs0 hsp hfz hsb hkB hyx hxl hRs hRt hfin hbel hN hNf hOb hOv
  go_enter Try.func113, Try.ntmps113
  go_wp2_with (first
    | (at_builtin; refine Lib.wpList_append_run _ rfl _ _ _ _ rfl _ _ rfl rfl _ _ (hrz _) ?_)
    | (at_builtin; refine wpList_copy_runI _ rfl _ _ 89 89 rfl _ _ rfl rfl (hcpA _ hE1 hE2 _ _) ?_)
    | (at_builtin; refine wpList_copy_runI _ rfl _ _ 89 89 rfl _ _ rfl rfl (hcpB _ (fun _ => rfl) (fun _ => rfl) _ _ _) ?_))
  go_region_law ((refine step_copy_runI rfl _ _ 89 89 rfl (.slice (some ⟨w.heap.size, i + 1, none⟩) (n + 1 - (i + 1)) (G - (i + 1))) (.slice (some ⟨g, off + i, none⟩) (n - i) (n - i)) (by simp [Act.eval, Act.put]) (by simp [Act.eval, Act.put]) (hcpB _ hF1 hF2 3 (G - (i + 1)) (n - i)) ?_))
  go_wp2
  go_ret
  exact ⟨_, _, rfl, HF.out.1, HF.out.2, fun k hk => by simp [Value.ownBlock] at hk; omega⟩
theorem insert_ptr (w : World) (a : Option Addr) (n c : Nat) (xs : List Value) (hown : Own w 55 1 (.slice a n c) n xs) (h1 : ∀ u ∈ xs, u.oneCell' = true) (x : Value) (hx1 : x.oneCell' = true) (vb : Nat) (hvb : w.heap[vb]? = some (.cells #[x] 55 (0, 0))) (hne : (Value.slice a n c).ownBlock ≠ some vb) (i : Nat) (hi : i ≤ n) (hn : n ≤ 1099511627776) :
    Calls Try.prog 113 #[.slice a n c, .int .i64 i, .slice (some ⟨vb, 0, none⟩) 1 1] w fun e w' => ∃ a' c', e = .returned (.slice a' (n + 1) c') ∧ Own w' 55 1 (.slice a' (n + 1) c') (n + 1) (xs.take i ++ x :: xs.drop i) ∧ Upd (fun b => (Value.slice a n c).ownBlock = some b) w w' ∧ (∀ k, (Value.slice a n c).ownBlock ≠ some k → (Value.slice a' (n + 1) c').ownBlock = some k → w.heap.size ≤ k) := by
  have hxl := hown.1
  by_cases hin : i = n
  · subst hin
    have h := insert_ptr_end w a i c xs hown x hx1 vb hvb hn
    rw [List.take_of_length_le (by omega), List.drop_of_length_le (by omega)]
    exact h
  · rcases hown.2.2 with ⟨_, h0⟩ | ⟨g, off, cap, cur, hv, _, hnc, _⟩
    · omega
    · injection hv with hv1 hv2 hv3
      subst hv1 hv3
      have hvg : vb ≠ g := fun e => hne (by rw [e]; rfl)
      by_cases hroom : n + 1 ≤ c
      · refine (insert_ptr_shift w g off n c xs hown h1 x hx1 vb hvb hvg i (by omega) hroom).mono ?_
        rintro e w' ⟨rfl, h2, h3⟩
        exact ⟨_, _, rfl, h2, h3.mono (fun b _ hb => by rw [hb]; rfl), fun k hk hk2 => absurd hk2 hk⟩
      · obtain rfl : c = n := by omega
        refine (insert_ptr_grow w g off c xs hown h1 x hx1 vb hvb i (by omega) hn).mono ?_
        rintro e w' ⟨a', c', rfl, h2, h3, h4⟩
        exact ⟨_, _, rfl, h2, Upd.below h3 _, fun k _ hk2 => h4 k hk2⟩

set_option maxHeartbeats 4000000 in
set_option maxRecDepth 100000 in
theorem delete_ptr (w : World) (a : Option Addr) (n c : Nat) (xs : List Value) (hown : Own w 55 1 (.slice a n c) n xs) (h1 : ∀ u ∈ xs, u.oneCell' = true) (i : Nat) (hi : i < n) (j : Int) (hj : j = (i : Int) + 1) :
    Calls Try.prog 115 #[.slice a n c, .int .i64 i, .int .i64 j] w fun e w' => e = .returned (.slice a (n - 1) c) ∧ Own w' 55 1 (.slice a (n - 1) c) (n - 1) (xs.eraseIdx i) ∧ Upd (fun b => (Value.slice a n c).ownBlock = some b) w w' := by
  obtain ⟨i0, hi0, hz0, hzs, hzb⟩ := info_parts info_ptr
  have hxl := hown.1
  rcases hown.2.2 with ⟨_, h0⟩ | ⟨g, off, cap, cur, hv, _, hnc, hcm, _⟩
  · omega
  injection hv with hv1 hv2 hv3
  subst hv1 hv3
  obtain ⟨ys, hyl, hyt, _, _, hfull⟩ := hown.full
  obtain ⟨hcs, hsp, hfz, kB, hsb, hkB⟩ := hfull.spots
  have hx : ∀ j v, xs[j]? = some v → w.cell? ⟨g, off + j, none⟩ = some v := fun j v hj => hcs j v (by
    rw [← hyt, List.getElem?_take] at hj
    split at hj
    · exact hj
    · cases hj)
  obtain ⟨news, hnews⟩ : ∃ news, news = xs.drop (i + 1) := ⟨_, rfl⟩
  have hlen : news.length = n - (i + 1) := by rw [hnews, List.length_drop]; omega
  obtain ⟨A, hA, hsrc⟩ : ∃ A : Addr, (if c = i + 1 then (some ⟨g, off, none⟩ : Option Addr) else some ⟨g, off + (i + 1), none⟩) = some A ∧ Hid (∀ t u, news[t]? = some u → w.drew.cell? (A.add t) = some u) := by
    by_cases h : c = i + 1
    · refine ⟨⟨g, off, none⟩, by simp [h], fun t u hu => ?_⟩
      have h0 : news.length = 0 := by rw [hlen]; omega
      rw [List.length_eq_zero_iff.1 h0] at hu
      simp at hu
    · refine ⟨⟨g, off + (i + 1), none⟩, by simp [h], fun t u hu => ?_⟩
      rw [hnews, List.getElem?_drop] at hu
      rw [add_off, Nat.add_assoc]
      exact hx _ u hu
  have s1 : Hid (news.length = (n - (i + 1)) * 1) := by rw [Nat.mul_one]; exact hlen
  have s2 : Hid (∀ u ∈ news, u.oneCell' = true) := fun u hu => by rw [hnews] at hu; exact h1 u (List.mem_of_mem_drop hu)
  have s3 : Hid (∀ t, t < news.length → (w.drew.cell? ⟨g, off + i * 1 + t, none⟩).isSome = true ∧ w.drew.frozen? ⟨g, off + i * 1 + t, none⟩ = false) := fun t ht => by
    rw [hlen] at ht
    rw [Nat.mul_one, Nat.add_assoc]
    exact ⟨hsp _ (by omega), hfz _⟩
  obtain ⟨W1, hW1⟩ : ∃ W1, W1 = w.drew.setCells g (off + i * 1) news := ⟨_, rfl⟩
  have hf1 : Own W1 55 1 (.slice (some ⟨g, off, none⟩) n c) n (splice xs i news) := by rw [hW1, Nat.mul_one]; exact Own.setCells _ _ _ _ hown.drew (by rw [hlen]; omega)
  have hu1 : Upd (fun b => (Value.slice (some ⟨g, off, none⟩) n c).ownBlock = some b) w W1 := by rw [hW1]; exact Upd.setCells' (S := fun b => (Value.slice (some ⟨g, off, none⟩) n c).ownBlock = some b) g (fun _ => rfl) _ _ _ (Upd.refl _ w).drew
  obtain ⟨zs, hzl, hzt, _, _, hfz1⟩ := hf1.full
  obtain ⟨_, hsp1, hfr1, _⟩ := hfz1.spots
  have hcl : ∀ ty n' c', n' = 1 → (Builtin.clear_ #[89] ty #[.slice (some ⟨g, off + (n - 1), none⟩) n' c']).run Try.prog W1 = .ok (.tuple #[]) (W1.setCells g (off + (n - 1)) [.pointer none]) := fun ty n' c' hn' => by
    subst hn'
    exact Lib.run_clear_slice W1 89 55 ty (.pointer none) Try.underlying89 (fun w => by kernel_rfl) rfl rfl g (off + (n - 1)) 1 c' (by omega) (fun t ht => by rw [Nat.add_assoc]; exact hsp1 _ (by omega)) (fun t ht => hfr1 _)
  have hfin := (Own.setCells [.pointer none] W1 _ (n - 1) hf1 (by simp; omega)).full
  obtain ⟨us, hul, hut, _, _, huf⟩ := hfin
  have hfin2 := huf.part (n - 1) (by omega)
  have hee : us.take (n - 1) = xs.eraseIdx i := by
    have h := cut_eq xs n i (.pointer none) hi (by omega)
    rw [← hnews, ← hut, List.take_take, Nat.min_eq_left (by omega)] at h
    exact h
  rw [hee] at hfin2
  have HF := Lib.hid (And.intro hfin2 (Upd.setCells' (S := fun b => (Value.slice (some ⟨g, off, none⟩) n c).ownBlock = some b) g (fun _ => rfl) [.pointer none] (off + (n - 1)) W1 hu1))
  have HW := Lib.hid hW1
  have n1 : i + (n - (i + 1)) = n - 1 := by omega
  have k0 : (i : Int) + 1 ≤ (n : Int) := by omega
  have k1 : (n : Int) ≤ (c : Int) := by omega
  have k2 : ¬ ((i : Int) = (i : Int) + 1) := by omega
  have k3 : ((i : Int) + 1).toNat = i + 1 := by omega
  have k4 : (i : Int) ≤ (c : Int) := by omega
  have k5 : (0 : Int) ≤ (i : Int) + 1 := by omega
  have k6 : (i : Int) ≤ (i : Int) + 1 := by omega
  have k7 : ¬ (c = n - 1) := by omega
  have k8 : (((n - 1 : Nat) : Int)) ≤ (n : Int) := by omega
  have k9 : n - (n - 1) = 1 := by omega
  subst hj
  clear hown hyt hyl hfull hcs hsp hfz hsb hkB hx hf1 hu1 hsp1 hfr1 hfz1 hfin2 huf hut hul hzl hzt hee hnews hlen hW1 hxl h1
  go_enter Try.func115, Try.ntmps115
  go_wp2_with fail
  go_region_law ((refine step_append_room rfl (.tmp 22) (.tmp 25) 89 rfl 55 i0 1 Try.underlying89 hi0 hzs g off i c (by simp [Act.eval, Act.put]) A (n - (i + 1)) (c - (i + 1)) news (by simp [Act.eval, Act.put, hA]) s1.out hsrc.out s2.out (by omega) s3.out ?_; rw [← HW.out, n1]))
  go_wp2
  go_ret
  exact ⟨rfl, HF.out.1, HF.out.2⟩

end Go.Proofs.Ythnbinlllmkabaa
