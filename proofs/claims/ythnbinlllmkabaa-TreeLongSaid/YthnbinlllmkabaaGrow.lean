/- tree.grow, tree.Of, tree.Check, the reference's Check. -/
import Derived.Test.YthnbinlllmkabaaTree
import Derived.Test.YthnbinlllmkabaaRefC
import Derived.Test.YthnbinlllmkabaaCopy
namespace Go.Proofs.Ythnbinlllmkabaa
open Go.RowKit
set_option linter.unusedVariables false
set_option linter.unusedSimpArgs false

theorem info_str : (Try.prog.info? 9).map (fun i => (i.zero, i.size, i.bytes)) = some (some (.string ⟨#[]⟩), 1, 16) := by kernel_rfl
theorem info_ptr : (Try.prog.info? 55).map (fun i => (i.zero, i.size, i.bytes)) = some (some (.pointer none), 1, 8) := by kernel_rfl
theorem strs_one (l : List ByteArray) : ∀ u ∈ strs l, u.oneCell' = true := by
  intro u hu; simp only [strs, List.mem_map] at hu; obtain ⟨x, _, rfl⟩ := hu; rfl
theorem ptrs_one (l : List Nat) : ∀ u ∈ ptrs l, u.oneCell' = true := by
  intro u hu; simp only [ptrs, List.mem_map] at hu; obtain ⟨x, _, rfl⟩ := hu; rfl
theorem TreesAt.mono {F G : Nat → Prop} {w : World} {d : Nat} {ps : List Nat} {ks : List Nd} (h : TreesAt w (fun b => F b ∧ G b) d ps ks) : TreesAt w F d ps ks :=
  ⟨h.1, fun i q k hq hk => ⟨(h.2 i q k hq hk).1, TreeAt.mono (fun b hb _ => hb.1) _ _ _ (h.2 i q k hq hk).2⟩⟩
/-- Names and trees that are collected, k of them. -/
structure GrowSt (w wr : World) (d k : Nat) (a1 a2 : Option Addr) (c1 c2 : Nat) (ns : List ByteArray) (ps : List Nat) (ks : List Nd) : Prop where
  names : Own wr 9 1 (.slice a1 k c1) k (strs ns)
  kids : Own wr 55 1 (.slice a2 k c2) k (ptrs ps)
  trees : TreesAt wr (fun b => w.heap.size ≤ b ∧ (Value.slice a1 k c1).ownBlock ≠ some b ∧ (Value.slice a2 k c2).ownBlock ≠ some b) d ps ks
  n1 : ∀ b, (Value.slice a1 k c1).ownBlock = some b → w.heap.size ≤ b
  n2 : ∀ b, (Value.slice a2 k c2).ownBlock = some b → w.heap.size ≤ b
  below : Below w.heap.size w wr
theorem TreesAt.push {w : World} {F : Nat → Prop} {d : Nat} {ps : List Nat} {ks : List Nd} (h : TreesAt w F d ps ks) {q : Nat} {x : Nd} (hx : TreeAt w F d q x) (hn : x.name.size ≤ 9223372036854775807) : TreesAt w F d (ps ++ [q]) (ks ++ [x]) := by
  refine ⟨by simp [h.1], fun i q' k hq hk => ?_⟩
  by_cases hi : i < ks.length
  · rw [List.getElem?_append_left (by rw [h.1]; exact hi)] at hq
    rw [List.getElem?_append_left hi] at hk
    exact h.2 i q' k hq hk
  · have hl := (List.getElem?_eq_some_iff.1 hk).1
    simp at hl
    obtain rfl : i = ks.length := by omega
    rw [← h.1] at hq
    simp at hq hk
    subst hq hk
    exact ⟨hn, hx⟩
theorem TreeAt.blocks {w : World} {F : Nat → Prop} {d p : Nat} {n : Nd} (h : TreeAt w F d p n) (G : Nat → Prop) (hG : ∀ b, F b → b < w.heap.size → G b) : TreeAt w G d p n := TreeAt.mono hG d p n h
theorem GrowSt.next {w wr w3 w4 w5 w6 : World} {d k : Nat} {a1 a2 : Option Addr} {c1 c2 : Nat} {ns : List ByteArray} {ps : List Nat} {ks : List Nd} (h : GrowSt w wr d k a1 a2 c1 c2 ns ps ks) {x : Nd} (hxn : x.name.size ≤ 9223372036854775807)
    (h3 : Below wr.heap.size wr w3) {a1' : Option Addr} {c1' : Nat} {o1 : Obj} (ho1 : Own w4 9 1 (.slice a1' (k + 1) c1') (k + 1) (strs ns ++ [.string x.name])) (hg1 : (w3.alloc o1).grownBy w4 (Value.slice a1 k c1).ownBlock)
    (hn1 : ∀ b, (Value.slice a1 k c1).ownBlock ≠ some b → (Value.slice a1' (k + 1) c1').ownBlock = some b → w3.heap.size + 1 ≤ b)
    (h5 : Below w4.heap.size w4 w5) {q : Nat} (hq : TreeAt w5 (fun b => w4.heap.size ≤ b) d q x)
    {a2' : Option Addr} {c2' : Nat} {o2 : Obj} (ho2 : Own w6 55 1 (.slice a2' (k + 1) c2') (k + 1) (ptrs ps ++ [.pointer (some ⟨q, 0, none⟩)])) (hg2 : (w5.alloc o2).grownBy w6 (Value.slice a2 k c2).ownBlock)
    (hn2 : ∀ b, (Value.slice a2 k c2).ownBlock ≠ some b → (Value.slice a2' (k + 1) c2').ownBlock = some b → w5.heap.size + 1 ≤ b) :
    GrowSt w w6 d (k + 1) a1' a2' c1' c2' (ns ++ [x.name]) (ps ++ [q]) (ks ++ [x]) := by
  have hs0 := h.below.size
  have hs3 := h3.size
  have u13 : Upd (fun b => (Value.slice a1 k c1).ownBlock = some b) wr w4 := (Upd.below h3 _).trans (Upd.grown ((Upd.refl _ w3).alloc o1) hg1 (fun b hb _ => hb))
  have hs4 := u13.size
  have h34 : w3.heap.size ≤ w4.heap.size := by have := hg1.size; simp at this; omega
  have hs5 := h5.size
  have u56 : Upd (fun b => (Value.slice a2 k c2).ownBlock = some b) w5 w6 := Upd.grown ((Upd.refl _ w5).alloc o2) hg2 (fun b hb _ => hb)
  have u15 : Upd (fun b => (Value.slice a1 k c1).ownBlock = some b) wr w5 := u13.trans (Upd.below h5 _)
  have hk5 := h.kids.kept u15 (fun b hb hb1 => h.kids.parted h.names (by decide) b hb hb1)
  have l1 : ∀ b, (Value.slice a1 k c1).ownBlock = some b → b < wr.heap.size := fun b hb => h.names.lt hb
  have l2 : ∀ b, (Value.slice a2 k c2).ownBlock = some b → b < wr.heap.size := fun b hb => h.kids.lt hb
  have l1' : ∀ b, (Value.slice a1' (k + 1) c1').ownBlock = some b → b < w4.heap.size := fun b hb => ho1.lt hb
  have hn1' : ∀ b, (Value.slice a1' (k + 1) c1').ownBlock = some b → (Value.slice a1 k c1).ownBlock = some b ∨ wr.heap.size ≤ b := fun b hb => by
    by_cases hc : (Value.slice a1 k c1).ownBlock = some b
    · exact .inl hc
    · have := hn1 b hc hb; exact .inr (by omega)
  have hn2' : ∀ b, (Value.slice a2' (k + 1) c2').ownBlock = some b → (Value.slice a2 k c2).ownBlock = some b ∨ w5.heap.size ≤ b := fun b hb => by
    by_cases hc : (Value.slice a2 k c2).ownBlock = some b
    · exact .inl hc
    · have := hn2 b hc hb; exact .inr (by omega)
  have ho15 := (ho1.kept (Upd.below h5 (fun _ => False)) (fun _ _ => id)).kept u56 (fun b hb hb2 => (ho1.kept (Upd.below h5 (fun _ => False)) (fun _ _ => id)).parted hk5 (by decide) b hb hb2)
  refine ⟨by rw [show strs (ns ++ [x.name]) = strs ns ++ [.string x.name] by simp [strs]]; exact ho15, by rw [show ptrs (ps ++ [q]) = ptrs ps ++ [.pointer (some ⟨q, 0, none⟩)] by simp [ptrs]]; exact ho2, TreesAt.push ?_ ?_ hxn, fun b hb => ?_, fun b hb => ?_, ?_⟩
  · have t6 := (h.trees.kept u15 (fun b hb hS => hb.2.1 hS)).kept u56 (fun b hb hS => hb.2.2 hS)
    refine ⟨t6.1, fun i q' k' hq' hk' => ⟨(t6.2 i q' k' hq' hk').1, ?_⟩⟩
    -- the blocks of older trees lie below wr's heap
    have t0 := TreeAt.mono (G := fun b => (w.heap.size ≤ b ∧ (Value.slice a1 k c1).ownBlock ≠ some b ∧ (Value.slice a2 k c2).ownBlock ≠ some b) ∧ b < wr.heap.size) (fun b hb hlt => ⟨hb, hlt⟩) _ _ _ (h.trees.2 i q' k' hq' hk').2
    have t1 := (TreeAt.kept u15 (fun b hb hS => hb.1.2.1 hS) _ _ _ t0)
    have t2 := (TreeAt.kept u56 (fun b hb hS => hb.1.2.2 hS) _ _ _ t1)
    refine TreeAt.mono ?_ _ _ _ t2
    intro b hb _
    refine ⟨hb.1.1, fun e => ?_, fun e => ?_⟩
    · rcases hn1' b e with h | h
      · exact hb.1.2.1 h
      · omega
    · rcases hn2' b e with h | h
      · exact hb.1.2.2 h
      · omega
  · have t0 := TreeAt.mono (G := fun b => w4.heap.size ≤ b ∧ b < w5.heap.size) (fun b hb hlt => ⟨hb, hlt⟩) _ _ _ hq
    have t2 := TreeAt.kept u56 (fun b hb hS => by have := l2 b hS; omega) _ _ _ t0
    refine TreeAt.mono ?_ _ _ _ t2
    intro b hb _
    refine ⟨by omega, fun e => ?_, fun e => ?_⟩
    · have := l1' b e; omega
    · rcases hn2' b e with h | h
      · have := l2 b h; omega
      · omega
  · rcases hn1' b hb with h1 | h1
    · exact h.n1 b h1
    · omega
  · rcases hn2' b hb with h1 | h1
    · exact h.n2 b h1
    · omega
  · exact (h.below.upd (Nat.le_refl _) u15 (fun b hb => h.n1 b hb)).upd (Nat.le_refl _) u56 (fun b hb => h.n2 b hb)
def GrowOk (F : Nat → Prop) (d : Nat) : Prop := ∀ (w : World) (n : Nd) (a : Option Addr) (c : Nat), NodeIn w F d n a → (∀ b, F b → b < w.heap.size) → n.parts ≤ 1000000 →
  Calls Try.prog 63 #[.agg (n.row a c).toArray] w fun e w' => ∃ p, e = .returned (.pointer (some ⟨p, 0, none⟩)) ∧ TreeAt w' (fun b => w.heap.size ≤ b) (d + 1) p n ∧ Below w.heap.size w w'
set_option maxHeartbeats 4000000 in
set_option maxRecDepth 100000 in
theorem grow_step (F : Nat → Prop) (d : Nat) (ih : ∀ e, d = e + 1 → GrowOk F e) : GrowOk F d := by
  intro w n a c hn hFw hpt
  obtain ⟨i0, hi, hz0, hz1, hz2⟩ := info_parts info_str
  obtain ⟨j0, hj, hy0, hy1, hy2⟩ := info_parts info_ptr
  have Ih := Lib.hid ih
  have hblk := heap_alloc_new w (.cells (n.row a c).toArray 30)
  obtain ⟨f0, fv, fm, f40⟩ := nrow_at (o := 0) hn.vwf (rangeAt_row hblk)
  simp only [Nat.zero_add] at f40
  have hkz := hn.ksz
  have hb1 := Lib.hid (on_alloc (Below.refl _ w) (.cells (n.row a c).toArray 30))
  obtain ⟨m, hm⟩ : ∃ m, m = n.kids.length := ⟨_, rfl⟩
  have hmp := partsAll_len n.kids
  have hme : m ≤ 1000000 := by have := parts_eq n; omega
  rw [← hm] at f40
  have Hn := Lib.hid hn
  have Hm := Lib.hid hm
  have Hblk := Lib.hid hblk
  have Hpt := Lib.hid (show partsAll n.kids ≤ 1000000 by have := parts_eq n; omega)
  have hv35 := Lib.hid (n.v.cells_length hn.vwf)
  clear fv fm hblk hn hm hkz ih hpt f0 hmp
  go_enter Try.func63, Try.ntmps63
  go_wp2_with fail
  obtain ⟨w2, hw2⟩ : ∃ w2, w2 = w.alloc (.cells (n.row a c).toArray 30) := ⟨_, rfl⟩
  obtain ⟨B, hB⟩ : ∃ B, B = w.heap.size := ⟨_, rfl⟩
  rw [← hw2, ← hB] at Hblk
  rw [← hw2] at hb1
  rw [← hw2, ← hB]
  have HB := Lib.hid hB
  clear f40 hw2 hB
  go_loopw [3, 4, 10] (fun v1 v2 i wr => ∃ (k : Nat) (a1 a2 : Option Addr) (c1 c2 : Nat) (ps : List Nat), k ≤ m ∧ i = .int .i64 k ∧ v1 = .slice a1 k c1 ∧ v2 = .slice a2 k c2 ∧ wr.heap[B]? = some (.cells (n.row a c).toArray 30 (0, 0)) ∧ GrowSt w wr d k a1 a2 c1 c2 ((n.kids.take k).map Nd.name) ps (n.kids.take k)) (fun _ _ i _ => m - (intOf i).toNat)
  case atStart => exact ⟨0, none, none, 0, 0, [], Nat.zero_le _, rfl, rfl, rfl, Hblk.out, ⟨Own.nil _ _ _, Own.nil _ _ _, ⟨rfl, fun i q k hq => by simp at hq⟩, fun b hb => by simp [Value.ownBlock] at hb, fun b hb => by simp [Value.ownBlock] at hb, hb1.out⟩⟩
  case round =>
    obtain ⟨k, a1, a2, c1, c2, ps, hk, rfl, rfl, rfl, hbk, hst⟩ := hrel
    obtain ⟨ns, hns⟩ : ∃ ns, ns = (n.kids.take k).map Nd.name := ⟨_, rfl⟩
    obtain ⟨kt, hkt⟩ : ∃ kt, kt = n.kids.take k := ⟨_, rfl⟩
    rw [← hns, ← hkt] at hst
    have Hns := Lib.hid hns
    have Hkt := Lib.hid hkt
    have Hbk := Lib.hid hbk
    have Hst := Lib.hid hst
    clear hbk hst hns hkt
    by_cases hlt : k < m
    · have hd : ∃ e, d = e + 1 := by
        cases d with
        | zero => exfalso; have h0 : n.kids = [] := Hn.out.kids; have := Hm.out; rw [h0] at this; simp at this; omega
        | succ e => exact ⟨e, rfl⟩
      obtain ⟨d', hd⟩ := hd
      have ihe := Ih.out d' hd
      have hkn := Hn.out.kids
      rw [hd] at hkn
      obtain ⟨g, off, a', c', rfl, hF, hr, hni⟩ := (hkn.below Hst.out.below).at (i := k) (by rw [← Hm.out]; exact hlt)
      obtain ⟨x, hx⟩ : ∃ x, x = n.kids[k]'(by rw [← Hm.out]; exact hlt) := ⟨_, rfl⟩
      rw [← hx] at hr hni
      have Hr := Lib.hid (And.intro hr hni)
      have Hx := Lib.hid hx
      have Ihe := Lib.hid ihe
      have Hd := Lib.hid hd
      have hvwf := Lib.hid (row_len (a := a') (c := c') hni.vwf)
      have hrsz := Lib.hid (show (x.row a' c').toArray.size = 41 by rw [List.size_toArray]; exact hvwf.out)
      have i1 : (0 : Int) ≤ (k : Int) := by omega
      have i2 : (k : Int) < (m : Int) := by omega
      have hx6 : x.parts ≤ 1000000 := by rw [hx]; exact Nat.le_trans (partsAll_get _) Hpt.out
      clear hr hni hx hkn ihe hd
      go_wp2_with (first | (refine wpList_load_midg (by rfl) 30 (.tmp 12) rfl g (off + k * 41) rfl (x.row a' c') _ Hr.out.1 Try.underlying30 rfl (by rw [hvwf.out]; kernel_rfl) ?_) | (refine wpList_store_fresh rfl 30 _ _ rfl (x.row a' c').toArray rfl rfl (by rw [hrsz.out]; kernel_rfl) (by rw [hrsz.out]; rfl) (all_one (nrow_one _ _ _ _ _ _)) ?_))
      intro w3 hs3 hr3 hb3
      obtain ⟨G, hG⟩ : ∃ G, G = wr.heap.size := ⟨_, rfl⟩
      rw [← hG] at hs3 hr3 ⊢
      obtain ⟨k0, _, _, _⟩ := nrow_at (o := 0) Hr.out.2.vwf (rangeAt_row hr3)
      have hxs := Hr.out.2.nsz
      have Hr3 := Lib.hid hr3
      have Hb3 := Lib.hid hb3
      have HG := Lib.hid hG
      clear hr3 hb3 hs3 hG
      go_wp2_with (at_builtin; refine wpList_append_any rfl _ _ 71 rfl 9 i0 (.string ⟨#[]⟩) 1 16 Try.underlying71 hi hz0 hz1 hz2 rfl (by decide) (.slice a1 k c1) k (strs ns) (.slice (some ⟨w3.heap.size, 0, none⟩) 1 1) 1 [.string x.name] rfl rfl ((Hst.out.names.kept (Upd.below Hb3.out (fun _ => False)) (fun _ _ => id)).kept ((Upd.refl (fun _ => False) w3).alloc _) (fun _ _ => id)) (Sl.made _ _ _ _ _ _ _ _ rfl rfl (by omega)) (by simp [Value.oneCell']) (by omega) (by omega) ?_)
      intro a5 c5 w5 hown5 hgr5 hb5
      have hu35 : Upd (fun b => (Value.slice a1 k c1).ownBlock = some b) w3 w5 := Upd.grown ((Upd.refl _ w3).alloc _) hgr5 (fun b hb _ => hb)
      have hna3 := Hst.out.names.kept (Upd.below Hb3.out (fun _ => False)) (fun _ _ => id)
      have hbk3 := (Hb3.out.block B (lt_heap Hbk.out)).trans Hbk.out
      have Hr5 := Lib.hid (hu35.at_ Hr3.out (fun hS => hna3.apart Hr3.out (by decide) hS))
      have Hbk5 := Lib.hid (hu35.at_ hbk3 (fun hS => hna3.apart hbk3 (by decide) hS))
      have huw5 : Upd (fun b => (Value.slice a1 k c1).ownBlock = some b) wr w5 := (Upd.below Hb3.out _).trans hu35
      have hni5 := Hr.out.2.kept huw5 (fun b hb hS => by have h1 := hFw b hb; have h2 := Hst.out.n1 b hS; omega)
      have hkd5 := Hst.out.kids.kept huw5 (fun b hb hb1 => Hst.out.kids.parted Hst.out.names (by decide) b hb hb1)
      have hw5s : w.heap.size ≤ w5.heap.size := Nat.le_trans Hst.out.below.size huw5.size
      have Hni5 := Lib.hid hni5
      have Hkd5 := Lib.hid hkd5
      have H5 := Lib.hid (And.intro hown5 (And.intro hgr5 hb5))
      clear hown5 hgr5 hb5 k0 hu35 hna3 hbk3 huw5 hni5 hkd5
      go_wp2_with (refine wpList_load_midg (by rfl) 30 (.tmp 6) rfl G 0 rfl (x.row a' c') _ (rangeAt_row Hr5.out) Try.underlying30 rfl (by rw [hvwf.out]; kernel_rfl) ?_)
      refine (Ihe.out w5 x a' c' Hni5.out (fun b hb => Nat.lt_of_lt_of_le (hFw b hb) hw5s) hx6).mono ?_
      rintro e w6 ⟨q, rfl, hq, hb6⟩
      rw [← Hd.out] at hq
      have Hq := Lib.hid hq
      have Hb6 := Lib.hid hb6
      have hkd6 := Lib.hid (Hkd5.out.kept (Upd.below hb6 (fun _ => False)) (fun _ _ => id))
      clear hq hb6
      go_wp2_with (at_builtin; refine wpList_append_any rfl _ _ 89 rfl 55 j0 (.pointer none) 1 8 Try.underlying89 hj hy0 hy1 hy2 rfl (by decide) (.slice a2 k c2) k (ptrs ps) (.slice (some ⟨w6.heap.size, 0, none⟩) 1 1) 1 [.pointer (some ⟨q, 0, none⟩)] rfl rfl (hkd6.out.kept ((Upd.refl (fun _ => False) w6).alloc _) (fun _ _ => id)) (Sl.made _ _ _ _ _ _ _ _ rfl rfl (by omega)) (by simp [Value.oneCell']) (by omega) (by omega) ?_)
      intro a7 c7 w7 hown7 hgr7 hb7
      have hu67 : Upd (fun b => (Value.slice a2 k c2).ownBlock = some b) w6 w7 := Upd.grown ((Upd.refl _ w6).alloc _) hgr7 (fun b hb _ => hb)
      have hbk6 := (Hb6.out.block B (lt_heap Hbk5.out)).trans Hbk5.out
      have Hbk7 := Lib.hid (hu67.at_ hbk6 (fun hS => hkd6.out.apart hbk6 (by decide) hS))
      have Hst7 := Lib.hid (Hst.out.next hxs Hb3.out H5.out.1 H5.out.2.1 (by simpa using H5.out.2.2) Hb6.out Hq.out hown7 hgr7 (by simpa using hb7))
      clear hown7 hgr7 hb7 hu67 hbk6
      go_wp2
      go_roundw
      case rel =>
        refine ⟨k + 1, a5, a7, c5, c7, ps ++ [q], hlt, by go_num, rfl, rfl, Hbk7.out, ?_⟩
        have e1 : n.kids.take (k + 1) = kt ++ [x] := by rw [List.take_succ_eq_append_getElem (by rw [← Hm.out]; exact hlt), Hkt.out, Hx.out]
        have e2 : (n.kids.take (k + 1)).map Nd.name = ns ++ [x.name] := by rw [e1, List.map_append, Hkt.out, ← Hns.out]; rfl
        rw [e2, e1]
        exact Hst7.out
      case measure => simp [intOf]; omega
    · obtain rfl : k = m := by omega
      clear hlt
      obtain ⟨_, fv, fm, _⟩ := nrow_at (o := 0) Hn.out.vwf (rangeAt_row Hbk.out)
      simp only [Nat.zero_add] at fv fm
      have Fv := Lib.hid fv
      have Fm := Lib.hid fm
      clear fv fm
      have hke : kt = n.kids := by rw [Hkt.out]; exact List.take_of_length_le (by rw [← Hm.out]; exact Nat.le_refl _)
      have hnse : ns = n.kids.map Nd.name := by rw [Hns.out, ← Hkt.out, hke]
      have hs := Hst.out
      rw [hke, hnse] at hs
      have Hs := Lib.hid hs
      clear hke hnse hs
      go_wp2_with (first | (refine wpList_load_midg (by rfl) 24 (.tmp 25) rfl B 1 rfl n.v.cells _ Fv.out Try.underlying24 rfl (by rw [hv35.out]; kernel_rfl) ?_) | (refine wpList_load_midg (by rfl) 27 (.tmp 27) rfl B 36 rfl (mcells n.m) _ Fm.out Try.underlying27 rfl (by kernel_rfl) ?_))
      refine (made_any wr (fun b => w.heap.size ≤ b) d n.v n.m Hn.out.vwf Hn.out.mwf n.kids ps (TreesAt.mono Hs.out.trees) k Hm.out.symm a1 a2 c1 c2 Hs.out.names.cap_le Hs.out.kids.cap_le Hs.out.names.sl Hs.out.kids.sl (Nat.le_trans (cntAll_le _) (Nat.le_trans Hpt.out (by decide))) n.name (fun b hb _ => Hs.out.n1 b ((blk _ _ _ _ _).trans hb)) (fun b hb _ => Hs.out.n2 b ((blk _ _ _ _ _).trans hb))).mono ?_
      rintro e w5 ⟨p, rfl, ht, hp, hb5⟩
      have Ht := Lib.hid ht
      have Hb5 := Lib.hid (below_on Hs.out.below hb5)
      have hpw : w.heap.size ≤ p := Nat.le_trans Hs.out.below.size hp
      clear ht hb5
      go_wp2
      go_ret
      refine ⟨p, rfl, ?_, Hb5.out⟩
      have h := TreeAt.mono (G := fun b => w.heap.size ≤ b) (fun b hb _ => by rcases hb with h | h; exact h; omega) _ _ _ Ht.out
      rw [show Nd.mk n.name n.v n.m n.kids = n by cases n; rfl] at h
      exact h
theorem grow_ok (F : Nat → Prop) : ∀ d : Nat, GrowOk F d
  | 0 => grow_step F 0 (fun e he => by omega)
  | d + 1 => grow_step F (d + 1) (fun e he => (Nat.succ.inj he) ▸ grow_ok F d)
set_option maxRecDepth 100000 in
theorem treeCheck_any (w : World) (F : Nat → Prop) (d : Nat) (n : Nd) (a : Option Addr) (c : Nat) (hn : NodeIn w F d n a) (hpt : n.parts ≤ 1000000) :
    Calls Try.prog 12 #[.agg (n.row a c).toArray] w fun e w' => e = .returned (.tuple #[.string (chk n ⟨#[]⟩ 0).1, .int .i64 (chk n ⟨#[]⟩ 0).2]) ∧ Below w.heap.size w w' := by
  have hr := rangeAt_row (heap_alloc_new w (.cells (n.row a c).toArray 30))
  have Hr := Lib.hid hr
  have hvwf := Lib.hid (row_len (a := a) (c := c) hn.vwf)
  have hb1 := on_alloc (Below.refl _ w) (.cells (n.row a c).toArray 30)
  have H := Lib.hid (chk_ok F d _ n a c ⟨#[]⟩ 0 (hn.below hb1) hpt (by show (0 : Nat) ≤ 0; omega) (by omega))
  have Hb1 := Lib.hid hb1
  clear hr hn hb1
  go_enter Try.func12, Try.ntmps12
  go_wp2_with (refine wpList_load_midg (by rfl) 30 (.tmp 1) rfl w.heap.size 0 rfl (n.row a c) _ Hr.out Try.underlying30 rfl (by rw [hvwf.out]; kernel_rfl) ?_)
  refine H.out.mono ?_
  rintro e w2 ⟨rfl, hb2⟩
  have Hb2 := Lib.hid (below_on Hb1.out hb2)
  clear hb2
  go_wp2
  go_ret2
  exact ⟨rfl, Hb2.out⟩
set_option maxRecDepth 100000 in
theorem refChk_any (w : World) (F : Nat → Prop) (d : Nat) (n : Nd) (a : Option Addr) (c : Nat) (hn : NodeIn w F d n a) (hpt : n.parts ≤ 1000000) :
    Calls Try.prog 11 #[.agg (n.row a c).toArray] w fun e w' => e = .returned (.tuple #[.string (chk n ⟨#[]⟩ 0).1, .int .i64 (chk n ⟨#[]⟩ 0).2]) ∧ Below w.heap.size w w' := by
  have hblk := heap_alloc_new w (.cells (n.row a c).toArray 30)
  obtain ⟨_, fv, fm, f40⟩ := nrow_at (o := 0) hn.vwf (rangeAt_row hblk)
  simp only [Nat.zero_add] at fv fm f40
  have Fv := Lib.hid fv
  have Fm := Lib.hid fm
  have hv35 := Lib.hid (n.v.cells_length hn.vwf)
  have hvwf := Lib.hid (row_len (a := a) (c := c) hn.vwf)
  have Hblk := Lib.hid hblk
  have Hb1 := Lib.hid (on_alloc (Below.refl _ w) (.cells (n.row a c).toArray 30))
  have hkz := hn.ksz
  have Hn := Lib.hid hn
  clear fv fm hblk hn
  go_enter Try.func11, Try.ntmps11
  go_wp2_with (first | (refine wpList_load_midg (by rfl) 24 (.tmp 5) rfl w.heap.size 1 rfl n.v.cells _ Fv.out Try.underlying24 rfl (by rw [hv35.out]; kernel_rfl) ?_) | (refine wpList_load_midg (by rfl) 27 (.tmp 7) rfl w.heap.size 36 rfl (mcells n.m) _ Fm.out Try.underlying27 rfl (by kernel_rfl) ?_))
  refine (own_any _ n.v n.m n.kids.length Hn.out.vwf.1 hkz).mono ?_
  rintro e w2 ⟨rfl, hb2⟩
  have Hrow2 := Lib.hid (rangeAt_row ((hb2.block w.heap.size (by simp)).trans Hblk.out))
  have Hb2 := Lib.hid (below_on Hb1.out hb2)
  clear hb2 f40
  by_cases ho : ownErr n.v n.m n.kids.length = 0
  · rw [ho]
    have hch := Lib.hid (show chk n ⟨#[]⟩ 0 = chkKids n.kids none ⟨#[]⟩ 0 by rw [chk_eq, if_neg (by simp [ho])])
    clear ho
    have H := Lib.hid (ref_ok F d w2 n a c ⟨#[]⟩ 0 (Hn.out.below Hb2.out) hpt (by show (0 : Nat) ≤ 0; omega) (by omega))
    go_wp2_with (refine wpList_load_midg (by rfl) 30 (.tmp 1) rfl w.heap.size 0 rfl (n.row a c) _ Hrow2.out Try.underlying30 rfl (by rw [hvwf.out]; kernel_rfl) ?_)
    refine H.out.mono ?_
    rintro e w3 ⟨rfl, hb3⟩
    have Hb3 := Lib.hid (below_on Hb2.out hb3)
    clear hb3
    go_wp2
    go_ret2
    exact ⟨by rw [hch.out]; rfl, Hb3.out⟩
  · have ho2 : (ownErr n.v n.m n.kids.length != 0) = true := by rw [bne_iff_ne]; exact ho
    have hch := Lib.hid (show chk n ⟨#[]⟩ 0 = (⟨#[]⟩, ownErr n.v n.m n.kids.length) by rw [chk_eq, if_pos ho])
    clear ho
    go_wp2
    go_ret2
    exact ⟨by rw [hch.out]; rfl, Hb2.out⟩
/-- The error of a node. -/
def chkErr (n : Nd) : Int := (chk n ⟨#[]⟩ 0).2
set_option maxRecDepth 100000 in
theorem of_bad (w : World) (F : Nat → Prop) (d : Nat) (n : Nd) (a : Option Addr) (c : Nat) (hn : NodeIn w F d n a) (hpt : n.parts ≤ 1000000) (he : chkErr n ≠ 0) :
    Calls Try.prog 13 #[.agg (n.row a c).toArray] w fun e w' => e = .returned (.tuple #[.pointer none, .int .i64 (chkErr n)]) ∧ Below w.heap.size w w' := by
  have hr := rangeAt_row (heap_alloc_new w (.cells (n.row a c).toArray 30))
  have Hr := Lib.hid hr
  have hvwf := Lib.hid (row_len (a := a) (c := c) hn.vwf)
  have hb1 := on_alloc (Below.refl _ w) (.cells (n.row a c).toArray 30)
  have H := Lib.hid (treeCheck_any _ F d n a c (hn.below hb1) hpt)
  have Hb1 := Lib.hid hb1
  have he2 : (chkErr n != 0) = true := by rw [bne_iff_ne]; exact he
  clear hr hn hb1 he
  obtain ⟨at_, er, hae⟩ : ∃ at_ er, chk n ⟨#[]⟩ 0 = (at_, er) := ⟨_, _, rfl⟩
  have hee : chkErr n = er := by unfold chkErr; rw [hae]
  rw [hae] at H
  rw [hee] at he2 ⊢
  clear hae hee
  go_enter Try.func13, Try.ntmps13
  go_wp2_with (refine wpList_load_midg (by rfl) 30 (.tmp 1) rfl w.heap.size 0 rfl (n.row a c) _ Hr.out Try.underlying30 rfl (by rw [hvwf.out]; kernel_rfl) ?_)
  refine H.out.mono ?_
  rintro e w2 ⟨rfl, hb2⟩
  have Hb2 := Lib.hid (below_on Hb1.out hb2)
  clear hb2
  go_wp2
  go_ret2
  exact ⟨rfl, Hb2.out⟩
set_option maxRecDepth 100000 in
theorem of_good (w : World) (F : Nat → Prop) (d : Nat) (n : Nd) (a : Option Addr) (c : Nat) (hn : NodeIn w F d n a) (hF : ∀ b, F b → b < w.heap.size) (hpt : n.parts ≤ 1000000) (he : chkErr n = 0) :
    Calls Try.prog 13 #[.agg (n.row a c).toArray] w fun e w' => ∃ p, e = .returned (.tuple #[.pointer (some ⟨p, 0, none⟩), .int .i64 0]) ∧ TreeAt w' (fun b => w.heap.size ≤ b) (d + 1) p n ∧ Below w.heap.size w w' := by
  have hblk := heap_alloc_new w (.cells (n.row a c).toArray 30)
  have Hr := Lib.hid (rangeAt_row hblk)
  have Hblk := Lib.hid hblk
  have hvwf := Lib.hid (row_len (a := a) (c := c) hn.vwf)
  have hb1 := on_alloc (Below.refl _ w) (.cells (n.row a c).toArray 30)
  have H := Lib.hid (treeCheck_any _ F d n a c (hn.below hb1) hpt)
  have Hb1 := Lib.hid hb1
  have Hn := Lib.hid hn
  have HF := Lib.hid hF
  obtain ⟨at_, er, hae⟩ : ∃ at_ er, chk n ⟨#[]⟩ 0 = (at_, er) := ⟨_, _, rfl⟩
  have hee : er = 0 := by unfold chkErr at he; rw [hae] at he; exact he
  rw [hae, hee] at H
  clear hblk hn hb1 he hae hee hF
  go_enter Try.func13, Try.ntmps13
  go_wp2_with (refine wpList_load_midg (by rfl) 30 (.tmp 1) rfl w.heap.size 0 rfl (n.row a c) _ Hr.out Try.underlying30 rfl (by rw [hvwf.out]; kernel_rfl) ?_)
  refine H.out.mono ?_
  rintro e w2 ⟨rfl, hb2⟩
  have Hrow2 := Lib.hid (rangeAt_row ((hb2.block w.heap.size (by simp)).trans Hblk.out))
  have Hb2 := Lib.hid (below_on Hb1.out hb2)
  clear hb2
  have hw2 := Hb2.out.size
  go_wp2_with (refine wpList_load_midg (by rfl) 30 (.tmp 1) rfl w.heap.size 0 rfl (n.row a c) _ Hrow2.out Try.underlying30 rfl (by rw [hvwf.out]; kernel_rfl) ?_)
  refine (grow_ok F d w2 n a c (Hn.out.below Hb2.out) (fun b hb => Nat.lt_of_lt_of_le (HF.out b hb) hw2) hpt).mono ?_
  rintro e w3 ⟨p, rfl, ht, hb3⟩
  have Ht := Lib.hid ht
  have Hb3 := Lib.hid (below_on Hb2.out hb3)
  clear ht hb3
  go_wp2
  go_ret2
  exact ⟨p, rfl, TreeAt.mono (fun b hb _ => Nat.le_trans hw2 hb) _ _ _ Ht.out, Hb3.out⟩
end Go.Proofs.Ythnbinlllmkabaa
