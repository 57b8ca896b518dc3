/- A copy whose list is the call's own; such a list changed node by node. (Written by gen_copy2.py.) -/
import Derived.Test.YthnbinlllmkabaaCopy
import Derived.Test.YthnbinlllmkabaaSlP
import Derived.Test.YthnbinlllmkabaaSpoil
namespace Go.Proofs.Ythnbinlllmkabaa
open Go.RowKit
set_option linter.unusedVariables false
set_option linter.unusedSimpArgs false

theorem CopySt.done {w w2 wr wz : World} {d k : Nat} {a3 : Option Addr} {c3 : Nat} {ks : List Nd} {al : List (Option Addr × Nat)} (h : CopySt w2 wr d k a3 c3 ks al) (hw : w.heap.size ≤ w2.heap.size) (hu : Upd (fun b => b < w2.heap.size) wr wz) : CopySt w wz d k a3 c3 ks al := by
  refine ⟨h.out.kept hu (fun b hb => ?_), (h.nodes.kept hu (fun b hb => ?_)).mono (fun b hb _ => ⟨?_, hb.2⟩), fun b hb => Nat.le_trans hw (h.n3 b hb)⟩
  · have := h.n3 b hb; omega
  · have := hb.1; omega
  · have := hb.1; omega
theorem rowsOf_set : ∀ (ks : List Nd) (al : List (Option Addr × Nat)) (i : Nat) (y : Nd) (a : Option Addr) (c : Nat), (∀ k ∈ ks, k.v.wf) → y.v.wf → ks.length = al.length → i < ks.length → rowsOf (ks.set i y) (al.set i (a, c)) = splice (rowsOf ks al) (i * 41) (y.row a c)
  | [], _, i, y, a, c, _, _, _, hi => absurd hi (Nat.not_lt_zero _)
  | x :: ks, [], i, y, a, c, _, _, hl, _ => by simp at hl
  | x :: ks, (a1, c1) :: al, 0, y, a, c, hw, hy, hl, hi => by
    have h1 : (x.row a1 c1).length = 41 := row_len (hw x (by simp))
    have h2 : (y.row a c).length = 41 := row_len hy
    show y.row a c ++ rowsOf ks al = splice (x.row a1 c1 ++ rowsOf ks al) (0 * 41) (y.row a c)
    unfold splice
    rw [Nat.zero_mul, List.take_zero, List.nil_append, Nat.zero_add, h2, List.drop_left' h1]
  | x :: ks, (a1, c1) :: al, i + 1, y, a, c, hw, hy, hl, hi => by
    have h1 : (x.row a1 c1).length = 41 := row_len (hw x (by simp))
    have h2 : (y.row a c).length = 41 := row_len hy
    have ih := rowsOf_set ks al i y a c (fun k hk => hw k (by simp [hk])) hy (by simpa using hl) (by simpa using hi)
    show x.row a1 c1 ++ rowsOf (ks.set i y) (al.set i (a, c)) = splice (x.row a1 c1 ++ rowsOf ks al) ((i + 1) * 41) (y.row a c)
    have e1 : (x.row a1 c1 ++ rowsOf ks al).take ((i + 1) * 41) = x.row a1 c1 ++ (rowsOf ks al).take (i * 41) := by
      rw [List.take_append, List.take_of_length_le (by rw [h1]; omega), h1, show (i + 1) * 41 - 41 = i * 41 by omega]
    have e2 : (x.row a1 c1 ++ rowsOf ks al).drop ((i + 1) * 41 + 41) = (rowsOf ks al).drop (i * 41 + 41) := by
      rw [List.drop_append, List.drop_eq_nil_of_le (by rw [h1]; omega), h1, show (i + 1) * 41 + 41 - 41 = i * 41 + 41 by omega, List.nil_append]
    rw [ih]
    unfold splice
    rw [h2, e1, e2, List.append_assoc]
theorem Own.setCellsN {e : TypeId} {size g off n c : Nat} : ∀ (vs : List Value) (w : World) (xs : List Value) (k : Nat), Own w e size (.slice (some ⟨g, off, none⟩) n c) n xs → k + vs.length ≤ n * size →
    Own (w.setCells g (off + k) vs) e size (.slice (some ⟨g, off, none⟩) n c) n (splice xs k vs)
  | [], w, xs, k, h, _ => by rw [splice_nil]; exact h
  | v :: r, w, xs, k, h, hk => by
    have hk' : k + (r.length + 1) ≤ n * size := hk
    have hl := h.1
    rw [splice_cons xs k v r (by omega)]
    exact Own.setCellsN r (w.setCell ⟨g, off + k, none⟩ v) (xs.set k v) (k + 1) (h.set k v (by omega)) (by omega)
theorem CopySt.len {w wr : World} {d m : Nat} {a : Option Addr} {c : Nat} {ks : List Nd} {al : List (Option Addr × Nat)} (h : CopySt w wr d m a c ks al) : ks.length = m := by
  have h1 := h.out.1
  have h2 := rowsOf_length ks al h.nodes.1 h.nodes.wf
  omega
/-- One of the nodes. -/
theorem CopySt.kid {w wr : World} {d m g off c : Nat} {ks : List Nd} {al : List (Option Addr × Nat)} (h : CopySt w wr d m (some ⟨g, off, none⟩) c ks al) {i : Nat} {x : Nd} {a : Option Addr} {c' : Nat} (hx : ks[i]? = some x) (ha : al[i]? = some (a, c')) :
    wr.rangeAt g (off + i * 41) (x.row a c') ∧ NodeIn wr (fun b => w.heap.size ≤ b ∧ (Value.slice (some ⟨g, off, none⟩) m c).ownBlock ≠ some b) d x a ∧ wr.there g (off + i * 41) 41 := by
  have hn := h.nodes.2 i x a c' hx ha
  have hlt := (List.getElem?_eq_some_iff.1 hx).1
  have hlen := rowsOf_length ks al h.nodes.1 h.nodes.wf
  have hne : rowsOf ks al ≠ [] := ne_nil_of_length (by omega)
  obtain ⟨g', off', cap, cur, hv, hg, hcs, hnc, hcell, hfr⟩ := h.out.cells hne
  injection hv with hv _ hc2
  injection hv with hv
  injection hv with e1 e2
  subst e1 e2
  have hr : wr.rangeAt g (off + i * 41) (x.row a c') := fun j v hj => by
    have hj41 : j < 41 := by have := (List.getElem?_eq_some_iff.1 hj).1; rwa [row_len hn.vwf] at this
    have := hcell (i * 41 + j) v (by rw [rowsOf_at ks al i x a c' j h.nodes.wf h.nodes.1 hx ha hj41]; exact hj)
    rw [Nat.add_assoc]; exact this
  refine ⟨hr, hn, ?_⟩
  have := there_row ⟨cur, hg⟩ hr
  rwa [row_len hn.vwf] at this
/-- One of the nodes is another one now. -/
theorem CopySt.put {w wr w5 : World} {d m g off c : Nat} {ks : List Nd} {al : List (Option Addr × Nat)} (h : CopySt w wr d m (some ⟨g, off, none⟩) c ks al) (hw : w.heap.size ≤ wr.heap.size) (h5 : Below wr.heap.size wr w5) {i : Nat} (hi : i < ks.length) {y : Nd} {a' : Option Addr} (c' : Nat) (hy : NodeIn w5 (fun b => wr.heap.size ≤ b) d y a') :
    CopySt w (w5.setCells g (off + i * 41) (y.row a' c')) d m (some ⟨g, off, none⟩) c (ks.set i y) (al.set i (a', c')) ∧ Upd (fun b => b = g) w5 (w5.setCells g (off + i * 41) (y.row a' c')) ∧ g < wr.heap.size ∧ w.heap.size ≤ g := by
  have hob : (Value.slice (some ⟨g, off, none⟩) m c).ownBlock = some g := by simp [Value.ownBlock]
  have hg : g < wr.heap.size := h.out.lt hob
  have u5 : Upd (fun _ => False) wr w5 := Upd.below h5 _
  have uz : Upd (fun b => b = g) w5 (w5.setCells g (off + i * 41) (y.row a' c')) := Upd.setCells' (S := fun b => b = g) g (fun _ => rfl) _ _ _ (Upd.refl _ _)
  have hm := h.len
  have ho := Own.setCellsN (y.row a' c') w5 (rowsOf ks al) (i * 41) (h.out.kept u5 (fun _ _ => id)) (by rw [row_len hy.vwf]; omega)
  rw [← rowsOf_set ks al i y a' c' h.nodes.wf hy.vwf h.nodes.1 hi] at ho
  refine ⟨⟨ho, ⟨by rw [List.length_set, List.length_set]; exact h.nodes.1, fun j x a c2 hx ha => ?_⟩, h.n3⟩, uz, hg, h.n3 g hob⟩
  by_cases hj : j = i
  · subst hj
    rw [List.getElem?_set_self hi] at hx
    rw [List.getElem?_set_self (by rw [← h.nodes.1]; exact hi)] at ha
    injection hx with hx
    injection ha with ha
    injection ha with ha1 ha2
    subst hx ha1
    refine (NodeIn.kept hy uz (fun b hb e => ?_)).mono (fun b hb hl => ⟨?_, fun e => ?_⟩)
    · have hb' : wr.heap.size ≤ b := hb
      have e' : b = g := e
      omega
    · have hb' : wr.heap.size ≤ b := hb
      omega
    · have hb' : wr.heap.size ≤ b := hb
      rw [hob] at e
      injection e with e
      omega
  · rw [List.getElem?_set_ne (Ne.symm hj)] at hx ha
    exact ((h.nodes.2 j x a c2 hx ha).kept u5 (fun _ _ => id)).kept uz (fun b hb e => hb.2 (by rw [hob, show b = g from e]))
theorem map_here (f : Nd → Nd) (ks : List Nd) (k : Nat) (h : k < ks.length) : ((ks.take k).map f ++ ks.drop k)[k]? = some ks[k] := by
  have hl : ((ks.take k).map f).length = k := by simp; omega
  rw [List.getElem?_append_right (by omega), hl, Nat.sub_self, List.drop_eq_getElem_cons h]
  rfl
theorem map_step (f : Nd → Nd) (ks : List Nd) (k : Nat) (h : k < ks.length) : ((ks.take k).map f ++ ks.drop k).set k (f ks[k]) = (ks.take (k + 1)).map f ++ ks.drop (k + 1) := by
  have hl : ((ks.take k).map f).length = k := by simp; omega
  rw [List.set_append_right _ _ (by omega), hl, Nat.sub_self, List.drop_eq_getElem_cons h, List.set_cons_zero, List.take_succ_eq_append_getElem h, List.map_append, List.append_assoc]
  rfl
set_option maxHeartbeats 4000000 in
set_option maxRecDepth 100000 in
theorem copy_own (F : Nat → Prop) (d : Nat)
    (w : World) (n : Nd) (a : Option Addr) (c : Nat) (hn : NodeIn w F d n a) (hFw : ∀ b, F b → b < w.heap.size) (hpt : n.parts ≤ 1000000) :
    Calls Try.prog 18 #[.agg (n.row a c).toArray] w fun e' w' => ∃ (a' : Option Addr) (c' : Nat), e' = .returned (.agg (n.row a' c').toArray) ∧ NodeIn w' (fun b => w.heap.size ≤ b) d n a' ∧ Below w.heap.size w w' ∧ ∃ al, CopySt w w' (d - 1) n.kids.length a' c' n.kids al := by
  obtain ⟨i0, hi, hz0, hz1, hz2⟩ := info_parts info_nodeF
  have hkz := hn.ksz
  obtain ⟨m, hm⟩ : ∃ m, m = n.kids.length := ⟨_, rfl⟩
  have hmp := partsAll_len n.kids
  have hme : m ≤ 1000000 := by have := parts_eq n; omega
  have Hn := Lib.hid hn
  have Hm := Lib.hid hm
  have Hpt := Lib.hid (show partsAll n.kids ≤ 1000000 by have := parts_eq n; omega)
  have hnsz := Lib.hid (show (n.row a c).toArray.size = 41 by rw [List.size_toArray]; exact row_len hn.vwf)
  clear hn hm hkz hpt hmp
  go_enter Try.func18, Try.ntmps18
  go_wp2_with fail
  have hblk := (Below.heap_alloc (w.alloc (.cells (n.row a c).toArray 30)) (.cells #[.string ⟨#[]⟩, .int .i64 0, .int .i64 0, .int .i64 0, .int .u8 0, .int .u8 0, .int .u8 0, .int .u8 0, .int .u8 0, .int .u8 0, .int .u8 0, .int .u8 0, .int .u8 0, .int .u8 0, .int .u8 0, .int .u8 0, .int .u8 0, .int .u8 0, .int .u8 0, .int .u8 0, .int .u8 0, .int .u8 0, .int .u8 0, .int .u8 0, .int .u8 0, .int .u8 0, .int .u8 0, .int .u8 0, .int .u8 0, .int .u8 0, .int .u8 0, .int .u8 0, .int .u8 0, .int .u8 0, .int .u8 0, .int .u8 0, .int .i64 0, .int .i64 0, .int .i64 0, .int .i64 0, .slice none 0 0] 30) w.heap.size (by simp)).trans (heap_alloc_new w (.cells (n.row a c).toArray 30))
  have hres := heap_alloc_new (w.alloc (.cells (n.row a c).toArray 30)) (.cells #[.string ⟨#[]⟩, .int .i64 0, .int .i64 0, .int .i64 0, .int .u8 0, .int .u8 0, .int .u8 0, .int .u8 0, .int .u8 0, .int .u8 0, .int .u8 0, .int .u8 0, .int .u8 0, .int .u8 0, .int .u8 0, .int .u8 0, .int .u8 0, .int .u8 0, .int .u8 0, .int .u8 0, .int .u8 0, .int .u8 0, .int .u8 0, .int .u8 0, .int .u8 0, .int .u8 0, .int .u8 0, .int .u8 0, .int .u8 0, .int .u8 0, .int .u8 0, .int .u8 0, .int .u8 0, .int .u8 0, .int .u8 0, .int .u8 0, .int .i64 0, .int .i64 0, .int .i64 0, .int .i64 0, .slice none 0 0] 30)
  rw [World.size_alloc] at hres
  have hbl := on_alloc (on_alloc (Below.refl _ w) (.cells (n.row a c).toArray 30)) (.cells #[.string ⟨#[]⟩, .int .i64 0, .int .i64 0, .int .i64 0, .int .u8 0, .int .u8 0, .int .u8 0, .int .u8 0, .int .u8 0, .int .u8 0, .int .u8 0, .int .u8 0, .int .u8 0, .int .u8 0, .int .u8 0, .int .u8 0, .int .u8 0, .int .u8 0, .int .u8 0, .int .u8 0, .int .u8 0, .int .u8 0, .int .u8 0, .int .u8 0, .int .u8 0, .int .u8 0, .int .u8 0, .int .u8 0, .int .u8 0, .int .u8 0, .int .u8 0, .int .u8 0, .int .u8 0, .int .u8 0, .int .u8 0, .int .u8 0, .int .i64 0, .int .i64 0, .int .i64 0, .int .i64 0, .slice none 0 0] 30)
  generalize (w.alloc (.cells (n.row a c).toArray 30)).alloc (.cells #[.string ⟨#[]⟩, .int .i64 0, .int .i64 0, .int .i64 0, .int .u8 0, .int .u8 0, .int .u8 0, .int .u8 0, .int .u8 0, .int .u8 0, .int .u8 0, .int .u8 0, .int .u8 0, .int .u8 0, .int .u8 0, .int .u8 0, .int .u8 0, .int .u8 0, .int .u8 0, .int .u8 0, .int .u8 0, .int .u8 0, .int .u8 0, .int .u8 0, .int .u8 0, .int .u8 0, .int .u8 0, .int .u8 0, .int .u8 0, .int .u8 0, .int .u8 0, .int .u8 0, .int .u8 0, .int .u8 0, .int .u8 0, .int .u8 0, .int .i64 0, .int .i64 0, .int .i64 0, .int .i64 0, .slice none 0 0] 30) = w2 at hblk hres hbl ⊢
  obtain ⟨Z, hZ⟩ : ∃ Z : Array Value, Z = #[.string ⟨#[]⟩, .int .i64 0, .int .i64 0, .int .i64 0, .int .u8 0, .int .u8 0, .int .u8 0, .int .u8 0, .int .u8 0, .int .u8 0, .int .u8 0, .int .u8 0, .int .u8 0, .int .u8 0, .int .u8 0, .int .u8 0, .int .u8 0, .int .u8 0, .int .u8 0, .int .u8 0, .int .u8 0, .int .u8 0, .int .u8 0, .int .u8 0, .int .u8 0, .int .u8 0, .int .u8 0, .int .u8 0, .int .u8 0, .int .u8 0, .int .u8 0, .int .u8 0, .int .u8 0, .int .u8 0, .int .u8 0, .int .u8 0, .int .i64 0, .int .i64 0, .int .i64 0, .int .i64 0, .slice none 0 0] := ⟨_, rfl⟩
  obtain ⟨B, hB⟩ : ∃ B, B = w.heap.size := ⟨_, rfl⟩
  obtain ⟨R, hR⟩ : ∃ R, R = w.heap.size + 1 := ⟨_, rfl⟩
  have hZs := Lib.hid (show Z.size = 41 by rw [hZ]; rfl)
  rw [← hZ, ← hR] at hres
  rw [← hB] at hblk
  rw [← hR, ← hB]
  have hBR : B ≠ R := by omega
  have hBw : w.heap.size ≤ B := by omega
  have hRw : w.heap.size ≤ R := by omega
  have Hblk := Lib.hid hblk
  have Hres := Lib.hid hres
  have Hbl := Lib.hid hbl
  have hB2 : B < w2.heap.size := lt_heap hblk
  have hR2 : R < w2.heap.size := lt_heap hres
  have hw2 : w.heap.size ≤ w2.heap.size := hbl.size
  clear hblk hres hbl hZ hB hR
  go_loopw [3, 4] (fun v i wr => ∃ (k : Nat) (a3 : Option Addr) (c3 : Nat) (al : List (Option Addr × Nat)), k ≤ m ∧ i = .int .i64 k ∧ v = .slice a3 k c3 ∧ wr.heap[B]? = some (.cells (n.row a c).toArray 30 (0, 0)) ∧ wr.heap[R]? = some (.cells Z 30 (0, 0)) ∧ CopySt w2 wr (d - 1) k a3 c3 (n.kids.take k) al ∧ Below w2.heap.size w2 wr) (fun _ i _ => m - (intOf i).toNat)
  case atStart => exact ⟨0, none, 0, [], Nat.zero_le _, rfl, rfl, Hblk.out, Hres.out, ⟨Own.nil _ _ _, ⟨rfl, fun i k a c h => by simp at h⟩, fun b hb => by simp [Value.ownBlock] at hb⟩, Below.refl _ _⟩
  case round =>
    obtain ⟨k, a3, c3, al, hk, rfl, rfl, hbk, hrs, hst, hbe⟩ := hrel
    obtain ⟨kt, hkt⟩ : ∃ kt, kt = n.kids.take k := ⟨_, rfl⟩
    rw [← hkt] at hst
    have Hkt := Lib.hid hkt
    have Hbk := Lib.hid hbk
    have Hrs := Lib.hid hrs
    have Hst := Lib.hid hst
    have Hbe := Lib.hid hbe
    obtain ⟨_, _, _, f40⟩ := nrow_at (o := 0) Hn.out.vwf (rangeAt_row hbk)
    simp only [Nat.zero_add] at f40
    rw [← Hm.out] at f40
    clear hbk hrs hst hbe hkt
    by_cases hlt : k < m
    · have hd : ∃ e, d = e + 1 := by
        cases d with
        | zero => exfalso; have h0 : n.kids = [] := Hn.out.kids; have := Hm.out; rw [h0] at this; simp at this; omega
        | succ e => exact ⟨e, rfl⟩
      obtain ⟨d', hd⟩ := hd
      have ihe := copy_ok d' F
      have hkn := Hn.out.kids
      rw [hd] at hkn
      obtain ⟨g, off, a', c', rfl, hF, hr, hni⟩ := ((hkn.below Hbl.out).below Hbe.out).at (i := k) (by rw [← Hm.out]; exact hlt)
      obtain ⟨x, hx⟩ : ∃ x, x = n.kids[k]'(by rw [← Hm.out]; exact hlt) := ⟨_, rfl⟩
      rw [← hx] at hr hni
      have Hr := Lib.hid (And.intro hr hni)
      have Hx := Lib.hid hx
      have Ihe := Lib.hid ihe
      have Hd := Lib.hid (show d - 1 = d' by omega)
      have hvwf := Lib.hid (row_len (a := a') (c := c') hni.vwf)
      have hx32 := Lib.hid hni.vwf.1
      have i1 : (0 : Int) ≤ (k : Int) := by omega
      have i2 : (k : Int) < (m : Int) := by omega
      have hx6 : x.parts ≤ 1000000 := by rw [hx]; exact Nat.le_trans (partsAll_get _) Hpt.out
      have hws := Hbe.out.size
      clear hr hni hx hkn ihe hd
      go_wp2_with (refine wpList_load_midg (by rfl) 30 (.tmp 16) rfl g (off + k * 41) rfl (x.row a' c') _ Hr.out.1 Try.underlying30 rfl (by rw [hvwf.out]; kernel_rfl) ?_)
      refine (Ihe.out wr x a' c' Hr.out.2 (fun b hb => Nat.lt_of_lt_of_le (hFw b hb) (Nat.le_trans hw2 hws)) hx6).mono ?_
      rintro e w5 ⟨ax, cx, rfl, hxn, hb5⟩
      have Hxn := Lib.hid hxn
      have Hb5 := Lib.hid hb5
      have hout5 := Lib.hid (Hst.out.out.kept (Upd.below hb5 (fun _ => False)) (fun _ _ => id))
      have hb5s := hb5.size
      clear hxn hb5
      go_wp2_with (first | (refine wpList_buildSlice_eq (by rfl) 28 1 #[(0, .tmp 18)] rfl #[(0, .agg (x.row ax cx).toArray)] (by kernel_rfl) _ (build_node x ax cx hx32.out _) ?_) | (at_builtin; refine wpList_append_any rfl _ _ 28 rfl 30 i0 _ 41 128 Try.underlying28 hi hz0 hz1 hz2 rfl (by decide) (.slice a3 k c3) k (rowsOf kt al) (.slice (some ⟨w5.heap.size, 0, none⟩) 1 1) 1 (x.row ax cx) rfl rfl (hout5.out.kept ((Upd.refl (fun _ => False) w5).alloc _) (fun _ _ => id)) (Sl.made _ _ _ _ _ _ _ _ (List.toList_toArray ..) (by rw [row_len (show x.v.wf from Hr.out.2.vwf)]) (by omega)) (nrow_one _ _ _ _ _ _) (by omega) (by omega) ?_))
      intro a7 c7 w7 hown7 hgr7 hb7
      have hu57 : Upd (fun b => (Value.slice a3 k c3).ownBlock = some b) w5 w7 := Upd.grown ((Upd.refl _ w5).alloc _) hgr7 (fun b hb _ => hb)
      have hbk5 := (Hb5.out.block B (lt_heap Hbk.out)).trans Hbk.out
      have hrs5 := (Hb5.out.block R (lt_heap Hrs.out)).trans Hrs.out
      have Hbk7 := Lib.hid (hu57.at_ hbk5 (fun hS => by have := Hst.out.n3 B hS; omega))
      have Hrs7 := Lib.hid (hu57.at_ hrs5 (fun hS => by have := Hst.out.n3 R hS; omega))
      have hst7 := Hst.out.next hws Hb5.out cx (by rw [Hd.out]; exact Hxn.out) hown7 hgr7 (by simpa using hb7)
      have Hst7 := Lib.hid hst7
      have Hbe7 := Lib.hid ((Hbe.out.upd (Nat.le_refl _) (Upd.below Hb5.out (fun _ => False)) (fun b hb => hb.elim)).upd (Nat.le_refl _) hu57 (fun b hb => Hst.out.n3 b hb))
      clear hown7 hgr7 hb7 hu57 hbk5 hrs5 hst7 f40
      go_wp2
      go_roundw
      case rel =>
        refine ⟨k + 1, a7, c7, al ++ [(ax, cx)], hlt, by go_num, rfl, Hbk7.out, Hrs7.out, ?_, Hbe7.out⟩
        rw [List.take_succ_eq_append_getElem (by rw [← Hm.out]; exact hlt), ← Hkt.out, ← Hx.out]
        exact Hst7.out
      case measure => simp [intOf]; omega
    · obtain rfl : k = m := by omega
      clear hlt
      have hke : kt = n.kids := by rw [Hkt.out]; exact List.take_of_length_le (by rw [← Hm.out]; exact Nat.le_refl _)
      have hs := Hst.out
      rw [hke] at hs
      have z40 := frozen_of_row wr B 40 _ _ Hbk.out
      have hs40 := heap_setCell_same wr B 40 _ _ (.slice a3 k c3) Hbk.out
      have e40 : (n.row a c).toArray.setIfInBounds 40 (.slice a3 k c3) = (n.row a3 c3).toArray := by rw [Hm.out]; exact row_set40 n a a3 c c3 Hn.out.vwf
      rw [e40] at hs40
      have hu1 : Upd (fun b => b = B) wr (wr.setCell ⟨B, 40, none⟩ (.slice a3 k c3)) := (Upd.refl _ _).setCell _ _ (fun _ => rfl)
      have Hrs2 := Lib.hid (hu1.at_ Hrs.out (fun e => hBR e.symm))
      have Hrow2 := Lib.hid (rangeAt_row hs40)
      have Hu1 := Lib.hid hu1
      have Hs := Lib.hid hs
      have hn41 := Lib.hid (row_len (a := a3) (c := c3) Hn.out.vwf)
      have hn41s := Lib.hid (show (n.row a3 c3).toArray.size = 41 by rw [List.size_toArray]; exact hn41.out)
      clear hke hs hs40 hu1 e40
      go_wp2_with (first | (refine wpList_load_midg (by rfl) 30 (.tmp 1) rfl B 0 rfl (n.row a3 c3) _ Hrow2.out Try.underlying30 rfl (by rw [hn41.out]; kernel_rfl) ?_) | (refine wpList_store_row rfl 30 (.tmp 2) (.tmp 23) rfl R (n.row a3 c3).toArray rfl rfl 30 Z Hrs2.out (by rw [hn41s.out]; kernel_rfl) (by rw [hn41s.out, hZs.out]) (all_one (nrow_one _ _ _ _ _ _)) ?_))
      have hset := setRow_heap (wr.setCell ⟨B, 40, none⟩ (.slice a3 k c3)) R Z (n.row a3 c3).toArray 30 (0, 0) Hrs2.out
      have hn0 : d = 0 → n.kids = [] := by
        intro e; subst e; exact Hn.out.kids
      refine bodyPost_ret (results_cell_row (P := Try.prog) Try.results18 _ _ R 30 (n.row a3 c3).toArray (0, 0) _ rfl hset Try.underlying30 rfl (by rw [hn41s.out]; kernel_rfl)) rfl ⟨a3, c3, rfl, ⟨Hn.out.vwf, Hn.out.mwf, Hn.out.nsz, Hn.out.ksz, ?_⟩, ?_, al, ?_⟩
      · exact Hs.out.kids hw2 ((Hu1.out.mono (fun b _ hb => by omega)).setRow R _ hR2) hn0
      · exact below_setRow ((Hbl.out.trans (Hbe.out.mono hw2)).upd (Nat.le_refl _) Hu1.out (fun b hb => by omega)) hRw _
      · rw [← Hm.out]; exact Hs.out.done hw2 ((Hu1.out.mono (fun b _ hb => by omega)).setRow R _ hR2)
end Go.Proofs.Ythnbinlllmkabaa
