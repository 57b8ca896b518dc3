/- The law's spots: what an iterator of All gives, up to so many. -/
import Derived.Test.YthnbinlllmkabaaWalk
import Derived.Test.YthnbinlllmkabaaLay
namespace Go.Proofs.Ythnbinlllmkabaa
open Go.RowKit Go.Shelf
set_option linter.unusedVariables false
set_option linter.unusedSimpArgs false

/-- The cells of a path and its value. -/
def prow (x : ByteArray × Vl × (Mk × Mk)) : List Value := .string x.1 :: x.2.1.cells
def prows (l : List (ByteArray × Vl × (Mk × Mk))) : List Value := l.flatMap prow
theorem prow_one (x : ByteArray × Vl × (Mk × Mk)) : ∀ u ∈ prow x, u.oneCell' = true := by
  intro u hu
  simp only [prow, List.mem_cons] at hu
  rcases hu with rfl | hu
  · rfl
  · exact x.2.1.cells_one u hu
theorem prow_length {x : ByteArray × Vl × (Mk × Mk)} (h : x.2.1.wf) : (prow x).length = 36 := by
  simp only [prow, List.length_cons, x.2.1.cells_length h]
theorem prows_append (a b : List (ByteArray × Vl × (Mk × Mk))) : prows (a ++ b) = prows a ++ prows b := by simp [prows]
theorem info_pspot : (Try.prog.info? 124).map (fun i => (i.zero, i.size, i.bytes)) = some (some (.agg #[.string ⟨#[]⟩, .int .i64 0, .int .i64 0, .int .i64 0, .int .u8 0, .int .u8 0, .int .u8 0, .int .u8 0, .int .u8 0, .int .u8 0, .int .u8 0, .int .u8 0, .int .u8 0, .int .u8 0, .int .u8 0, .int .u8 0, .int .u8 0, .int .u8 0, .int .u8 0, .int .u8 0, .int .u8 0, .int .u8 0, .int .u8 0, .int .u8 0, .int .u8 0, .int .u8 0, .int .u8 0, .int .u8 0, .int .u8 0, .int .u8 0, .int .u8 0, .int .u8 0, .int .u8 0, .int .u8 0, .int .u8 0, .int .u8 0]), 36, 72) := by kernel_rfl
set_option maxRecDepth 100000 in
theorem build_pspot (p : ByteArray) (v : Vl) (m : Mk × Mk) (hv : v.sum.length = 32) (w : World) :
    (Instr.build 124 #[(0, .string p), (1, .agg v.cells.toArray)]).run Try.prog w = .ok (.agg (prow (p, v, m)).toArray) w := by
  obtain ⟨kd, md, sz, sm⟩ := v
  obtain ⟨b0, b1, b2, b3, b4, b5, b6, b7, b8, b9, b10, b11, b12, b13, b14, b15, b16, b17, b18, b19, b20, b21, b22, b23, b24, b25, b26, b27, b28, b29, b30, b31, hl⟩ := list32 sm hv
  subst hl
  exact run_build w _ _ _ (by kernel_rfl)
set_option maxRecDepth 100000 in
theorem slice_pspot (p : ByteArray) (v : Vl) (m : Mk × Mk) (hv : v.sum.length = 32) (w : World) :
    (Instr.buildSlice 73 1 #[(0, .agg (prow (p, v, m)).toArray)]).run Try.prog w = .ok (.slice (some ⟨w.heap.size, 0, none⟩) 1 1) (w.alloc (.cells (prow (p, v, m)).toArray 124)) := by
  obtain ⟨i0, hi, hz0, hz1, hz2⟩ := info_parts info_pspot
  obtain ⟨kd, md, sz, sm⟩ := v
  obtain ⟨b0, b1, b2, b3, b4, b5, b6, b7, b8, b9, b10, b11, b12, b13, b14, b15, b16, b17, b18, b19, b20, b21, b22, b23, b24, b25, b26, b27, b28, b29, b30, b31, hl⟩ := list32 sm hv
  subst hl
  exact run_buildSlice w 73 124 1 _ _ i0 _ Try.underlying73 hi hz0 (by rw [hz1]; decide) (by rw [hz1]; decide) (by rw [hz1]; kernel_rfl)
/-- So many were collected. -/
structure SpotSt (w3 W : World) (Bw Bn Bl : Nat) (n : Int) (L : List (ByteArray × Vl × (Mk × Mk))) (i : Nat) (a3 : Option Addr) (c3 : Nat) : Prop where
  own : Own W 124 36 (.slice a3 i c3) i (prows (L.take i))
  new : ∀ b, ob a3 = some b → w3.heap.size ≤ b
  bl : W.heap[Bl]? = some (.cells #[.slice a3 i c3] 73 (0, 0))
  bw : W.heap[Bw]? = some (.cells #[.bool true] 4 (0, 0))
  bn : W.heap[Bn]? = some (.cells #[.int .i64 n] 3 (0, 0))
  upd : Upd (fun b => b = Bw ∨ b = Bl ∨ w3.heap.size ≤ b) w3 W
  le : i ≤ L.length
/-- Here the walk stands still. -/
theorem stuck_ {P : Program} {ops : Array Oper} {rest : List Oper} {o : Oper} {a : Act} {w : World} {Q : Exit → Act → World → Prop} (h : ∀ z : Nat, z = 0 → wpList P ops Q (o :: rest) a w) : wpList P ops Q (o :: rest) a w := h 0 rfl
set_option maxHeartbeats 4000000 in
set_option maxRecDepth 100000 in
theorem spots1_ok (w3 W : World) (Bw Bn Bl : Nat) (n : Int) (L : List (ByteArray × Vl × (Mk × Mk))) (i : Nat) (a3 : Option Addr) (c3 : Nat) (x : ByteArray × Vl × (Mk × Mk)) (hx : L[i]? = some x) (hv : x.2.1.wf) (hL : L.length ≤ 1000000) (hn : i64 n) (hd : Bw ≠ Bl ∧ Bn ≠ Bl ∧ Bw ≠ Bn ∧ Bw < w3.heap.size ∧ Bl < w3.heap.size ∧ Bn < w3.heap.size)
    (hs : SpotSt w3 W Bw Bn Bl n L i a3 c3) (hi : n < 1 ∨ (i : Int) < n) :
    Calls Try.prog 82 (#[.string x.1, .agg x.2.1.cells.toArray] ++ #[.pointer (some ⟨Bw, 0, none⟩), .pointer (some ⟨Bn, 0, none⟩), .pointer (some ⟨Bl, 0, none⟩)]) W fun e W' =>
      (e = .returned (.bool (decide (n < 1 ∨ ((i + 1 : Nat) : Int) < n)))) ∧ (∃ (a' : Option Addr) (c' : Nat), SpotSt w3 W' Bw Bn Bl n L (i + 1) a' c') ∧ Upd (fun b => b = Bw ∨ b = Bl ∨ w3.heap.size ≤ b) W W' := by
  obtain ⟨i0, hi0, hz0, hz1, hz2⟩ := info_parts info_pspot
  obtain ⟨s, v, mm⟩ := x
  have hil : i < L.length := (List.getElem?_eq_some_iff.1 hx).1
  have hi1 : i ≤ 1000000 := by omega
  have Hd := Lib.hid hd
  have Hs := Lib.hid hs
  have hbox := heap_alloc_new W (.cells v.cells.toArray 24)
  have Hvr := Lib.hid (rangeAt_row hbox)
  have hvl := Lib.hid (v.cells_length hv)
  have hv32 := hv.1
  have hws := hs.upd.size
  have key : ∀ (o : Obj) (k : Nat) (cs : Array Value) (T : TypeId), W.heap[k]? = some (.cells cs T (0, 0)) → (W.alloc o).heap[k]? = some (.cells cs T (0, 0)) := fun o k cs T h => (Below.heap_alloc W o k (lt_heap h)).trans h
  have hw1 := key (.cells v.cells.toArray 24) Bw _ _ hs.bw
  have hn1 := key (.cells v.cells.toArray 24) Bn _ _ hs.bn
  have hl1 := key (.cells v.cells.toArray 24) Bl _ _ hs.bl
  have Hown1 := Lib.hid (hs.own.kept ((Upd.refl (fun _ => False) W).alloc (.cells v.cells.toArray 24)) (fun _ _ => id))
  have Hb1 := Lib.hid (on_alloc (Below.refl _ W) (.cells v.cells.toArray 24))
  have et := Lib.hid (show prows (L.take (i + 1)) = prows (L.take i) ++ prow (s, v, mm) by
    rw [List.take_succ_eq_append_getElem hil, prows_append]
    have : L[i] = (s, v, mm) := by rw [List.getElem?_eq_getElem hil] at hx; exact Option.some.inj hx
    rw [this]; simp [prows])
  clear key hx hs hbox
  by_cases hc : n < 1 ∨ ((i + 1 : Nat) : Int) < n
  · rw [decide_eq_true hc]
    rcases hc with hc | hc
    · have hd1 : decide (n < 1) = true := decide_eq_true hc
      clear hi hd
      
      go_enter Try.func82, Try.ntmps82
      have f0 := cell_of_row _ Bw 0 _ _ _ hw1
      have f1 := cell_of_row _ Bn 0 _ _ _ hn1
      have f2 := cell_of_row _ Bl 0 _ _ _ hl1
      simp at f0 f1 f2
      have z0 := frozen_of_row _ Bw 0 _ _ hw1
      have z2 := frozen_of_row _ Bl 0 _ _ hl1
      have hu2 : Upd (fun b => b = Bw) (W.alloc (.cells v.cells.toArray 24)) ((W.alloc (.cells v.cells.toArray 24)).setCell ⟨Bw, 0, none⟩ (.bool true)) := (Upd.refl _ _).setCell _ _ (fun _ => rfl)
      have hw2 := heap_setCell_same _ Bw 0 _ _ (.bool true) hw1
      have hn2 := hu2.at_ hn1 (fun e => Hd.out.2.2.1 e.symm)
      have hl2 := hu2.at_ hl1 (fun e => Hd.out.1 e.symm)
      have g1 := cell_of_row _ Bn 0 _ _ _ hn2
      have g2 := cell_of_row _ Bl 0 _ _ _ hl2
      simp at g1 g2
      have y2 := frozen_of_row _ Bl 0 _ _ hl2
      have Hbv2 := Lib.hid (rangeAt_kept Hvr.out hu2 (fun e => by have := Hd.out.2.2.2.1; omega))
      have Hown2 := Lib.hid (Hown1.out.kept hu2 (fun b hb e => by
        obtain ⟨cur, hcur⟩ := Own.typed Hown1.out (by rw [← own_ob a3 i c3]; exact hb)
        rw [e, hw1] at hcur
        injection hcur with hcur
        injection hcur with _ hT _
        exact absurd hT (by decide)))
      have Hw2 := Lib.hid hw2
      have Hn2 := Lib.hid hn2
      have Hl2 := Lib.hid hl2
      have Hu2 := Lib.hid (((Hb1.out |> fun h => Upd.below h (fun b => b = Bw ∨ b = Bl ∨ w3.heap.size ≤ b))).then hu2 (fun k _ hk => .inl hk))
      obtain ⟨P, hP⟩ : ∃ P, P = prows (L.take i) := ⟨_, rfl⟩
      rw [← hP] at Hown2 et
      have hws2 : ((W.alloc (.cells v.cells.toArray 24)).setCell ⟨Bw, 0, none⟩ (.bool true)).heap.size = W.heap.size + 1 := by simp [World.setCell]
      have Hws2 := Lib.hid hws2
      clear hu2 hw2 hn2 hl2 hw1 hn1 hl1 hP Hown1 hws2
      go_wp2_with (first | (refine wpList_load_midg (by rfl) 24 (.tmp 6) rfl W.heap.size 0 rfl v.cells _ Hbv2.out Try.underlying24 rfl (by rw [hvl.out]; kernel_rfl) ?_) | (refine wpList_build_eq (by rfl) 124 #[(0, .tmp 20), (1, .tmp 21)] rfl #[(0, .string s), (1, .agg v.cells.toArray)] (by kernel_rfl) _ (build_pspot s v mm hv32 _) ?_) | (refine wpList_buildSlice_eq (by rfl) 73 1 #[(0, .tmp 22)] rfl #[(0, .agg (prow (s, v, mm)).toArray)] (by kernel_rfl) _ (slice_pspot s v mm hv32 _) ?_) | (at_builtin; refine stuck_ ?_))
      intro z _
      refine wpList_append_any rfl _ _ 73 rfl 124 i0 _ 36 72 Try.underlying73 hi0 hz0 hz1 hz2 rfl (by decide) (.slice a3 i c3) i P (.slice (some ⟨W.heap.size + 1, 0, none⟩) 1 1) 1 (prow (s, v, mm)) rfl rfl (Hown2.out.kept ((Upd.refl (fun _ => False) _).alloc _) (fun _ _ => id)) (Sl.made_at _ _ Hws2.out.symm _ _ _ _ _ _ (List.toList_toArray ..) (by rw [prow_length hv]) (by omega)) (prow_one _) (by omega) (by omega) ?_
      intro a7 c7 w7 hown7 hgr7 hb7
      have hu7 : Upd (fun b => ob a3 = some b) ((W.alloc (.cells v.cells.toArray 24)).setCell ⟨Bw, 0, none⟩ (.bool true)) w7 := Upd.grown ((Upd.refl _ _).alloc _) hgr7 (fun b hb _ => by rw [own_ob] at hb; exact hb)
      have hap : ∀ (k : Nat) (cs : Array Value) (T : TypeId), ((W.alloc (.cells v.cells.toArray 24)).setCell ⟨Bw, 0, none⟩ (.bool true)).heap[k]? = some (.cells cs T (0, 0)) → T ≠ 124 → w7.heap[k]? = some (.cells cs T (0, 0)) := fun k cs T h hT => hu7.at_ h (fun e => by
        obtain ⟨cur, hcur⟩ := Own.typed Hown2.out e
        rw [h] at hcur
        injection hcur with hcur
        injection hcur with _ hT2 _
        exact hT hT2)
      have hw7 := hap Bw _ _ Hw2.out (by decide)
      have hn7 := hap Bn _ _ Hn2.out (by decide)
      have hl7 := hap Bl _ _ Hl2.out (by decide)
      have k2 := cell_of_row _ Bl 0 _ _ _ hl7
      simp at k2
      have x2 := frozen_of_row _ Bl 0 _ _ hl7
      have hu8 : Upd (fun b => b = Bl) w7 (w7.setCell ⟨Bl, 0, none⟩ (.slice a7 (i + 1) c7)) := (Upd.refl _ _).setCell _ _ (fun _ => rfl)
      have hl8 := heap_setCell_same _ Bl 0 _ _ (.slice a7 (i + 1) c7) hl7
      simp at hl8
      have hw8 := hu8.at_ hw7 Hd.out.1
      have hn8 := hu8.at_ hn7 Hd.out.2.1
      have k1 := cell_of_row _ Bn 0 _ _ _ hn8
      have k3 := cell_of_row _ Bl 0 _ _ _ hl8
      simp at k1 k3
      have hown8 := hown7.kept hu8 (fun b hb e => by
        obtain ⟨cur, hcur⟩ := Own.typed hown7 (by rw [← own_ob a7 (i + 1) c7]; exact hb)
        rw [e, hl7] at hcur
        injection hcur with hcur
        injection hcur with _ hT _
        exact absurd hT (by decide))
      rw [← et.out] at hown8
      have hnew7 : ∀ b, ob a7 = some b → w3.heap.size ≤ b := fun b hb => by
        by_cases h : ob a3 = some b
        · exact Hs.out.new b h
        · have h1 := hb7 b (by rw [own_ob]; exact h) (by rw [own_ob]; exact hb)
          have h2 := Hws2.out
          (try rw [World.size_alloc] at h1)
          omega
      have hu17 : Upd (fun b => b = Bw ∨ b = Bl ∨ w3.heap.size ≤ b) W w7 := Hu2.out.then hu7 (fun k _ hk => .inr (.inr (Hs.out.new k hk)))
      have Hu18 := Lib.hid (hu17.then hu8 (fun k _ hk => .inr (.inl hk)))
      have Hfin := Lib.hid (show SpotSt w3 (w7.setCell ⟨Bl, 0, none⟩ (.slice a7 (i + 1) c7)) Bw Bn Bl n L (i + 1) a7 c7 from ⟨hown8, hnew7, hl8, hw8, hn8, Hs.out.upd.trans Hu18.out, hil⟩)
      clear hown7 hgr7 hb7 hu7 hap hw7 hn7 hl7 hu8 hl8 hw8 hn8 hown8 hnew7 hu17 g1 g2 y2
      go_wp2
      go_ret
      exact ⟨rfl, ⟨a7, c7, Hfin.out⟩, Hu18.out⟩
    · have hd1 : decide (n < 1) = false := decide_eq_false (by omega)
      have hin : (i : Int) < n := by omega
      have hc1 : ¬ n < 1 := by omega
      have hc4 : (i : Int) + 1 < n := by omega
      clear hi hd
      
      go_enter Try.func82, Try.ntmps82
      have f0 := cell_of_row _ Bw 0 _ _ _ hw1
      have f1 := cell_of_row _ Bn 0 _ _ _ hn1
      have f2 := cell_of_row _ Bl 0 _ _ _ hl1
      simp at f0 f1 f2
      have z0 := frozen_of_row _ Bw 0 _ _ hw1
      have z2 := frozen_of_row _ Bl 0 _ _ hl1
      have hu2 : Upd (fun b => b = Bw) (W.alloc (.cells v.cells.toArray 24)) ((W.alloc (.cells v.cells.toArray 24)).setCell ⟨Bw, 0, none⟩ (.bool true)) := (Upd.refl _ _).setCell _ _ (fun _ => rfl)
      have hw2 := heap_setCell_same _ Bw 0 _ _ (.bool true) hw1
      have hn2 := hu2.at_ hn1 (fun e => Hd.out.2.2.1 e.symm)
      have hl2 := hu2.at_ hl1 (fun e => Hd.out.1 e.symm)
      have g1 := cell_of_row _ Bn 0 _ _ _ hn2
      have g2 := cell_of_row _ Bl 0 _ _ _ hl2
      simp at g1 g2
      have y2 := frozen_of_row _ Bl 0 _ _ hl2
      have Hbv2 := Lib.hid (rangeAt_kept Hvr.out hu2 (fun e => by have := Hd.out.2.2.2.1; omega))
      have Hown2 := Lib.hid (Hown1.out.kept hu2 (fun b hb e => by
        obtain ⟨cur, hcur⟩ := Own.typed Hown1.out (by rw [← own_ob a3 i c3]; exact hb)
        rw [e, hw1] at hcur
        injection hcur with hcur
        injection hcur with _ hT _
        exact absurd hT (by decide)))
      have Hw2 := Lib.hid hw2
      have Hn2 := Lib.hid hn2
      have Hl2 := Lib.hid hl2
      have Hu2 := Lib.hid (((Hb1.out |> fun h => Upd.below h (fun b => b = Bw ∨ b = Bl ∨ w3.heap.size ≤ b))).then hu2 (fun k _ hk => .inl hk))
      obtain ⟨P, hP⟩ : ∃ P, P = prows (L.take i) := ⟨_, rfl⟩
      rw [← hP] at Hown2 et
      have hws2 : ((W.alloc (.cells v.cells.toArray 24)).setCell ⟨Bw, 0, none⟩ (.bool true)).heap.size = W.heap.size + 1 := by simp [World.setCell]
      have Hws2 := Lib.hid hws2
      clear hu2 hw2 hn2 hl2 hw1 hn1 hl1 hP Hown1 hws2
      go_wp2_with (first | (refine wpList_load_midg (by rfl) 24 (.tmp 6) rfl W.heap.size 0 rfl v.cells _ Hbv2.out Try.underlying24 rfl (by rw [hvl.out]; kernel_rfl) ?_) | (refine wpList_build_eq (by rfl) 124 #[(0, .tmp 20), (1, .tmp 21)] rfl #[(0, .string s), (1, .agg v.cells.toArray)] (by kernel_rfl) _ (build_pspot s v mm hv32 _) ?_) | (refine wpList_buildSlice_eq (by rfl) 73 1 #[(0, .tmp 22)] rfl #[(0, .agg (prow (s, v, mm)).toArray)] (by kernel_rfl) _ (slice_pspot s v mm hv32 _) ?_) | (at_builtin; refine stuck_ ?_))
      intro z _
      refine wpList_append_any rfl _ _ 73 rfl 124 i0 _ 36 72 Try.underlying73 hi0 hz0 hz1 hz2 rfl (by decide) (.slice a3 i c3) i P (.slice (some ⟨W.heap.size + 1, 0, none⟩) 1 1) 1 (prow (s, v, mm)) rfl rfl (Hown2.out.kept ((Upd.refl (fun _ => False) _).alloc _) (fun _ _ => id)) (Sl.made_at _ _ Hws2.out.symm _ _ _ _ _ _ (List.toList_toArray ..) (by rw [prow_length hv]) (by omega)) (prow_one _) (by omega) (by omega) ?_
      intro a7 c7 w7 hown7 hgr7 hb7
      have hu7 : Upd (fun b => ob a3 = some b) ((W.alloc (.cells v.cells.toArray 24)).setCell ⟨Bw, 0, none⟩ (.bool true)) w7 := Upd.grown ((Upd.refl _ _).alloc _) hgr7 (fun b hb _ => by rw [own_ob] at hb; exact hb)
      have hap : ∀ (k : Nat) (cs : Array Value) (T : TypeId), ((W.alloc (.cells v.cells.toArray 24)).setCell ⟨Bw, 0, none⟩ (.bool true)).heap[k]? = some (.cells cs T (0, 0)) → T ≠ 124 → w7.heap[k]? = some (.cells cs T (0, 0)) := fun k cs T h hT => hu7.at_ h (fun e => by
        obtain ⟨cur, hcur⟩ := Own.typed Hown2.out e
        rw [h] at hcur
        injection hcur with hcur
        injection hcur with _ hT2 _
        exact hT hT2)
      have hw7 := hap Bw _ _ Hw2.out (by decide)
      have hn7 := hap Bn _ _ Hn2.out (by decide)
      have hl7 := hap Bl _ _ Hl2.out (by decide)
      have k2 := cell_of_row _ Bl 0 _ _ _ hl7
      simp at k2
      have x2 := frozen_of_row _ Bl 0 _ _ hl7
      have hu8 : Upd (fun b => b = Bl) w7 (w7.setCell ⟨Bl, 0, none⟩ (.slice a7 (i + 1) c7)) := (Upd.refl _ _).setCell _ _ (fun _ => rfl)
      have hl8 := heap_setCell_same _ Bl 0 _ _ (.slice a7 (i + 1) c7) hl7
      simp at hl8
      have hw8 := hu8.at_ hw7 Hd.out.1
      have hn8 := hu8.at_ hn7 Hd.out.2.1
      have k1 := cell_of_row _ Bn 0 _ _ _ hn8
      have k3 := cell_of_row _ Bl 0 _ _ _ hl8
      simp at k1 k3
      have hown8 := hown7.kept hu8 (fun b hb e => by
        obtain ⟨cur, hcur⟩ := Own.typed hown7 (by rw [← own_ob a7 (i + 1) c7]; exact hb)
        rw [e, hl7] at hcur
        injection hcur with hcur
        injection hcur with _ hT _
        exact absurd hT (by decide))
      rw [← et.out] at hown8
      have hnew7 : ∀ b, ob a7 = some b → w3.heap.size ≤ b := fun b hb => by
        by_cases h : ob a3 = some b
        · exact Hs.out.new b h
        · have h1 := hb7 b (by rw [own_ob]; exact h) (by rw [own_ob]; exact hb)
          have h2 := Hws2.out
          (try rw [World.size_alloc] at h1)
          omega
      have hu17 : Upd (fun b => b = Bw ∨ b = Bl ∨ w3.heap.size ≤ b) W w7 := Hu2.out.then hu7 (fun k _ hk => .inr (.inr (Hs.out.new k hk)))
      have Hu18 := Lib.hid (hu17.then hu8 (fun k _ hk => .inr (.inl hk)))
      have Hfin := Lib.hid (show SpotSt w3 (w7.setCell ⟨Bl, 0, none⟩ (.slice a7 (i + 1) c7)) Bw Bn Bl n L (i + 1) a7 c7 from ⟨hown8, hnew7, hl8, hw8, hn8, Hs.out.upd.trans Hu18.out, hil⟩)
      clear hown7 hgr7 hb7 hu7 hap hw7 hn7 hl7 hu8 hl8 hw8 hn8 hown8 hnew7 hu17 g1 g2 y2
      go_wp2
      go_ret
      exact ⟨rfl, ⟨a7, c7, Hfin.out⟩, Hu18.out⟩
  · rw [decide_eq_false hc]
    have hc1 : ¬ n < 1 := fun h => hc (.inl h)
    have hc2 : (i : Int) < n := hi.resolve_left hc1
    have hc3 : ¬ (i : Int) + 1 < n := fun h => hc (.inr (by push_cast; exact h))
    have hd1 : decide (n < 1) = false := decide_eq_false hc1
    have hc5 : n ≤ (i : Int) + 1 := by omega
    have hc6 : decide ((i : Int) + 1 < n) = false := decide_eq_false hc3
    clear hi hd hc
    
    go_enter Try.func82, Try.ntmps82
    have f0 := cell_of_row _ Bw 0 _ _ _ hw1
    have f1 := cell_of_row _ Bn 0 _ _ _ hn1
    have f2 := cell_of_row _ Bl 0 _ _ _ hl1
    simp at f0 f1 f2
    have z0 := frozen_of_row _ Bw 0 _ _ hw1
    have z2 := frozen_of_row _ Bl 0 _ _ hl1
    have hu2 : Upd (fun b => b = Bw) (W.alloc (.cells v.cells.toArray 24)) ((W.alloc (.cells v.cells.toArray 24)).setCell ⟨Bw, 0, none⟩ (.bool true)) := (Upd.refl _ _).setCell _ _ (fun _ => rfl)
    have hw2 := heap_setCell_same _ Bw 0 _ _ (.bool true) hw1
    have hn2 := hu2.at_ hn1 (fun e => Hd.out.2.2.1 e.symm)
    have hl2 := hu2.at_ hl1 (fun e => Hd.out.1 e.symm)
    have g1 := cell_of_row _ Bn 0 _ _ _ hn2
    have g2 := cell_of_row _ Bl 0 _ _ _ hl2
    simp at g1 g2
    have y2 := frozen_of_row _ Bl 0 _ _ hl2
    have Hbv2 := Lib.hid (rangeAt_kept Hvr.out hu2 (fun e => by have := Hd.out.2.2.2.1; omega))
    have Hown2 := Lib.hid (Hown1.out.kept hu2 (fun b hb e => by
      obtain ⟨cur, hcur⟩ := Own.typed Hown1.out (by rw [← own_ob a3 i c3]; exact hb)
      rw [e, hw1] at hcur
      injection hcur with hcur
      injection hcur with _ hT _
      exact absurd hT (by decide)))
    have Hw2 := Lib.hid hw2
    have Hn2 := Lib.hid hn2
    have Hl2 := Lib.hid hl2
    have Hu2 := Lib.hid (((Hb1.out |> fun h => Upd.below h (fun b => b = Bw ∨ b = Bl ∨ w3.heap.size ≤ b))).then hu2 (fun k _ hk => .inl hk))
    obtain ⟨P, hP⟩ : ∃ P, P = prows (L.take i) := ⟨_, rfl⟩
    rw [← hP] at Hown2 et
    have hws2 : ((W.alloc (.cells v.cells.toArray 24)).setCell ⟨Bw, 0, none⟩ (.bool true)).heap.size = W.heap.size + 1 := by simp [World.setCell]
    have Hws2 := Lib.hid hws2
    clear hu2 hw2 hn2 hl2 hw1 hn1 hl1 hP Hown1 hws2
    go_wp2_with (first | (refine wpList_load_midg (by rfl) 24 (.tmp 6) rfl W.heap.size 0 rfl v.cells _ Hbv2.out Try.underlying24 rfl (by rw [hvl.out]; kernel_rfl) ?_) | (refine wpList_build_eq (by rfl) 124 #[(0, .tmp 20), (1, .tmp 21)] rfl #[(0, .string s), (1, .agg v.cells.toArray)] (by kernel_rfl) _ (build_pspot s v mm hv32 _) ?_) | (refine wpList_buildSlice_eq (by rfl) 73 1 #[(0, .tmp 22)] rfl #[(0, .agg (prow (s, v, mm)).toArray)] (by kernel_rfl) _ (slice_pspot s v mm hv32 _) ?_) | (at_builtin; refine stuck_ ?_))
    intro z _
    refine wpList_append_any rfl _ _ 73 rfl 124 i0 _ 36 72 Try.underlying73 hi0 hz0 hz1 hz2 rfl (by decide) (.slice a3 i c3) i P (.slice (some ⟨W.heap.size + 1, 0, none⟩) 1 1) 1 (prow (s, v, mm)) rfl rfl (Hown2.out.kept ((Upd.refl (fun _ => False) _).alloc _) (fun _ _ => id)) (Sl.made_at _ _ Hws2.out.symm _ _ _ _ _ _ (List.toList_toArray ..) (by rw [prow_length hv]) (by omega)) (prow_one _) (by omega) (by omega) ?_
    intro a7 c7 w7 hown7 hgr7 hb7
    have hu7 : Upd (fun b => ob a3 = some b) ((W.alloc (.cells v.cells.toArray 24)).setCell ⟨Bw, 0, none⟩ (.bool true)) w7 := Upd.grown ((Upd.refl _ _).alloc _) hgr7 (fun b hb _ => by rw [own_ob] at hb; exact hb)
    have hap : ∀ (k : Nat) (cs : Array Value) (T : TypeId), ((W.alloc (.cells v.cells.toArray 24)).setCell ⟨Bw, 0, none⟩ (.bool true)).heap[k]? = some (.cells cs T (0, 0)) → T ≠ 124 → w7.heap[k]? = some (.cells cs T (0, 0)) := fun k cs T h hT => hu7.at_ h (fun e => by
      obtain ⟨cur, hcur⟩ := Own.typed Hown2.out e
      rw [h] at hcur
      injection hcur with hcur
      injection hcur with _ hT2 _
      exact hT hT2)
    have hw7 := hap Bw _ _ Hw2.out (by decide)
    have hn7 := hap Bn _ _ Hn2.out (by decide)
    have hl7 := hap Bl _ _ Hl2.out (by decide)
    have k2 := cell_of_row _ Bl 0 _ _ _ hl7
    simp at k2
    have x2 := frozen_of_row _ Bl 0 _ _ hl7
    have hu8 : Upd (fun b => b = Bl) w7 (w7.setCell ⟨Bl, 0, none⟩ (.slice a7 (i + 1) c7)) := (Upd.refl _ _).setCell _ _ (fun _ => rfl)
    have hl8 := heap_setCell_same _ Bl 0 _ _ (.slice a7 (i + 1) c7) hl7
    simp at hl8
    have hw8 := hu8.at_ hw7 Hd.out.1
    have hn8 := hu8.at_ hn7 Hd.out.2.1
    have k1 := cell_of_row _ Bn 0 _ _ _ hn8
    have k3 := cell_of_row _ Bl 0 _ _ _ hl8
    simp at k1 k3
    have hown8 := hown7.kept hu8 (fun b hb e => by
      obtain ⟨cur, hcur⟩ := Own.typed hown7 (by rw [← own_ob a7 (i + 1) c7]; exact hb)
      rw [e, hl7] at hcur
      injection hcur with hcur
      injection hcur with _ hT _
      exact absurd hT (by decide))
    rw [← et.out] at hown8
    have hnew7 : ∀ b, ob a7 = some b → w3.heap.size ≤ b := fun b hb => by
      by_cases h : ob a3 = some b
      · exact Hs.out.new b h
      · have h1 := hb7 b (by rw [own_ob]; exact h) (by rw [own_ob]; exact hb)
        have h2 := Hws2.out
        (try rw [World.size_alloc] at h1)
        omega
    have hu17 : Upd (fun b => b = Bw ∨ b = Bl ∨ w3.heap.size ≤ b) W w7 := Hu2.out.then hu7 (fun k _ hk => .inr (.inr (Hs.out.new k hk)))
    have Hu18 := Lib.hid (hu17.then hu8 (fun k _ hk => .inr (.inl hk)))
    have Hfin := Lib.hid (show SpotSt w3 (w7.setCell ⟨Bl, 0, none⟩ (.slice a7 (i + 1) c7)) Bw Bn Bl n L (i + 1) a7 c7 from ⟨hown8, hnew7, hl8, hw8, hn8, Hs.out.upd.trans Hu18.out, hil⟩)
    clear hown7 hgr7 hb7 hu7 hap hw7 hn7 hl7 hu8 hl8 hw8 hn8 hown8 hnew7 hu17 g1 g2 y2
    go_wp2
    go_ret
    exact ⟨rfl, ⟨a7, c7, Hfin.out⟩, Hu18.out⟩
end Go.Proofs.Ythnbinlllmkabaa
