/- All paths of a tree: the reference's All, Names and Count. -/
import Derived.Test.YthnbinlllmkabaaCopy
import Derived.Test.YthnbinlllmkabaaEqual
import Derived.Test.YthnbinlllmkabaaGrow
namespace Go.Proofs.Ythnbinlllmkabaa
open Go.RowKit
set_option linter.unusedVariables false
set_option linter.unusedSimpArgs false

def pathOf (p s : ByteArray) : ByteArray := if p = ⟨#[]⟩ then s else p ++ ⟨#[47]⟩ ++ s
mutual
/-- Each path and what stands there. -/
def allOf : Nd → ByteArray → List (ByteArray × Vl × (Mk × Mk))
  | .mk _ v m ks, p => (p, v, m) :: allKids ks p
def allKids : List Nd → ByteArray → List (ByteArray × Vl × (Mk × Mk))
  | [], _ => []
  | k :: ks, p => allOf k (pathOf p k.name) ++ allKids ks p
end
theorem allOf_eq (n : Nd) (p : ByteArray) : allOf n p = (p, n.v, n.m) :: allKids n.kids p := by cases n; rfl
theorem allKids_append : ∀ (a b : List Nd) (p : ByteArray), allKids (a ++ b) p = allKids a p ++ allKids b p
  | [], b, p => by simp [allKids]
  | x :: a, b, p => by simp [allKids, allKids_append a b p]
theorem allKids_take (ks : List Nd) (i : Nat) (h : i < ks.length) (p : ByteArray) : allKids (ks.take (i + 1)) p = allKids (ks.take i) p ++ allOf ks[i] (pathOf p ks[i].name) := by
  rw [List.take_succ_eq_append_getElem h, allKids_append]; simp [allKids]
mutual
theorem allOf_length : ∀ (n : Nd) (p : ByteArray), (allOf n p).length = n.cnt
  | .mk _ v m ks, p => by simp only [allOf, List.length_cons, allKids_length ks p, Nd.cnt]; omega
theorem allKids_length : ∀ (ks : List Nd) (p : ByteArray), (allKids ks p).length = cntAll ks
  | [], p => rfl
  | k :: ks, p => by simp only [allKids, List.length_append, allOf_length k _, allKids_length ks p, cntAll]
end
theorem pathOf_size (p s : ByteArray) : (pathOf p s).size ≤ p.size + 1 + s.size := by
  unfold pathOf
  split
  · omega
  · have h1 : (⟨#[47]⟩ : ByteArray).size = 1 := rfl
    simp only [ByteArray.size_append]
    omega
/-- The cells of a path and what stands there. -/
def srow (x : ByteArray × Vl × (Mk × Mk)) : List Value := .string x.1 :: (x.2.1.cells ++ mcells x.2.2)
def srows (l : List (ByteArray × Vl × (Mk × Mk))) : List Value := l.flatMap srow
theorem srow_one (x : ByteArray × Vl × (Mk × Mk)) : ∀ u ∈ srow x, u.oneCell' = true := by
  intro u hu
  simp only [srow, List.mem_cons, List.mem_append] at hu
  rcases hu with rfl | hu | hu
  · rfl
  · exact x.2.1.cells_one u hu
  · exact mcells_one _ u hu
theorem srows_one (l : List (ByteArray × Vl × (Mk × Mk))) : ∀ u ∈ srows l, u.oneCell' = true := by
  intro u hu
  obtain ⟨x, _, h⟩ := List.mem_flatMap.1 hu
  exact srow_one x u h
theorem srow_length {x : ByteArray × Vl × (Mk × Mk)} (h : x.2.1.wf) : (srow x).length = 40 := by
  simp only [srow, List.length_cons, List.length_append, x.2.1.cells_length h, mcells_length]
theorem srows_append (a b : List (ByteArray × Vl × (Mk × Mk))) : srows (a ++ b) = srows a ++ srows b := by simp [srows]
theorem info_spot : (Try.prog.info? 78).map (fun i => (i.zero, i.size, i.bytes)) = some (some (.agg #[.string ⟨#[]⟩, .int .i64 0, .int .i64 0, .int .i64 0, .int .u8 0, .int .u8 0, .int .u8 0, .int .u8 0, .int .u8 0, .int .u8 0, .int .u8 0, .int .u8 0, .int .u8 0, .int .u8 0, .int .u8 0, .int .u8 0, .int .u8 0, .int .u8 0, .int .u8 0, .int .u8 0, .int .u8 0, .int .u8 0, .int .u8 0, .int .u8 0, .int .u8 0, .int .u8 0, .int .u8 0, .int .u8 0, .int .u8 0, .int .u8 0, .int .u8 0, .int .u8 0, .int .u8 0, .int .u8 0, .int .u8 0, .int .u8 0, .int .i64 0, .int .i64 0, .int .i64 0, .int .i64 0]), 40, 104) := by kernel_rfl
set_option maxRecDepth 100000 in
theorem build_spot (p : ByteArray) (v : Vl) (m : Mk × Mk) (hv : v.sum.length = 32) (w : World) :
    (Instr.build 78 #[(0, .string p), (1, .agg v.cells.toArray), (2, .agg (mcells m).toArray)]).run Try.prog w = .ok (.agg (srow (p, v, m)).toArray) w := by
  obtain ⟨kd, md, sz, sm⟩ := v
  obtain ⟨⟨x0, x1⟩, ⟨x2, x3⟩⟩ := m
  obtain ⟨b0, b1, b2, b3, b4, b5, b6, b7, b8, b9, b10, b11, b12, b13, b14, b15, b16, b17, b18, b19, b20, b21, b22, b23, b24, b25, b26, b27, b28, b29, b30, b31, hl⟩ := list32 sm hv
  subst hl
  exact run_build w _ _ _ (by kernel_rfl)
set_option maxRecDepth 100000 in
theorem slice_spot (p : ByteArray) (v : Vl) (m : Mk × Mk) (hv : v.sum.length = 32) (w : World) :
    (Instr.buildSlice 69 1 #[(0, .agg (srow (p, v, m)).toArray)]).run Try.prog w = .ok (.slice (some ⟨w.heap.size, 0, none⟩) 1 1) (w.alloc (.cells (srow (p, v, m)).toArray 78)) := by
  obtain ⟨i0, hi, hz0, hz1, hz2⟩ := info_parts info_spot
  obtain ⟨kd, md, sz, sm⟩ := v
  obtain ⟨⟨x0, x1⟩, ⟨x2, x3⟩⟩ := m
  obtain ⟨b0, b1, b2, b3, b4, b5, b6, b7, b8, b9, b10, b11, b12, b13, b14, b15, b16, b17, b18, b19, b20, b21, b22, b23, b24, b25, b26, b27, b28, b29, b30, b31, hl⟩ := list32 sm hv
  subst hl
  exact run_buildSlice w 69 78 1 _ _ i0 _ Try.underlying69 hi hz0 (by rw [hz1]; decide) (by rw [hz1]; decide) (by rw [hz1]; kernel_rfl)
def AllOk (F : Nat → Prop) (d : Nat) : Prop := ∀ (w : World) (n : Nd) (p : ByteArray) (a : Option Addr) (c : Nat), NodeIn w F d n a → (∀ b, F b → b < w.heap.size) → n.parts ≤ 1000000 → p.size + 1 + partsAll n.kids ≤ 2000000 →
  Calls Try.prog 81 #[.agg (n.row a c).toArray, .string p] w fun e w' => ∃ (a' : Option Addr) (c' : Nat), e = .returned (.slice a' (allOf n p).length c') ∧ Own w' 78 40 (.slice a' (allOf n p).length c') (allOf n p).length (srows (allOf n p)) ∧ (∀ b, (Value.slice a' (allOf n p).length c').ownBlock = some b → w.heap.size ≤ b) ∧ Below w.heap.size w w'
set_option maxHeartbeats 4000000 in
set_option maxRecDepth 100000 in
theorem all_step (F : Nat → Prop) (d : Nat) (ih : ∀ e, d = e + 1 → AllOk F e) : AllOk F d := by
  intro w n p a c hn hFw hpt hps
  obtain ⟨i0, hi, hz0, hz1, hz2⟩ := info_parts info_spot
  have Ih := Lib.hid ih
  have hblk := heap_alloc_new w (.cells (n.row a c).toArray 30)
  obtain ⟨f0, fv, fm, f40⟩ := nrow_at (o := 0) hn.vwf (rangeAt_row hblk)
  simp only [Nat.zero_add] at f0 fv fm f40
  obtain ⟨m, hm⟩ : ∃ m, m = n.kids.length := ⟨_, rfl⟩
  rw [← hm] at f40
  have hbl := on_alloc (Below.refl _ w) (.cells (n.row a c).toArray 30)
  have Hfv := Lib.hid fv
  have Hfm := Lib.hid fm
  have Hn := Lib.hid hn
  have Hm := Lib.hid hm
  have Hpt := Lib.hid (show partsAll n.kids ≤ 1000000 by have := parts_eq n; omega)
  have Hps := Lib.hid hps
  have hmp := partsAll_len n.kids
  have hme : m ≤ 1000000 := by have := parts_eq n; omega
  have hp0 : p.size ≤ 2000000 := by omega
  have hvl := Lib.hid (n.v.cells_length hn.vwf)
  have hv32 := hn.vwf.1
  have Hblk := Lib.hid hblk
  clear hblk fv fm hn hm ih hpt hps hmp f0
  go_enter Try.func81, Try.ntmps81
  go_wp2_with (first | (refine wpList_load_midg (by rfl) 24 (.tmp 9) rfl w.heap.size 1 rfl n.v.cells _ Hfv.out Try.underlying24 rfl (by rw [hvl.out]; kernel_rfl) ?_) | (refine wpList_load_midg (by rfl) 27 (.tmp 11) rfl w.heap.size 36 rfl (mcells n.m) _ Hfm.out Try.underlying27 rfl (by kernel_rfl) ?_) | (refine wpList_build_eq (by rfl) 78 #[(0, .tmp 8), (1, .tmp 10), (2, .tmp 12)] rfl #[(0, .string p), (1, .agg n.v.cells.toArray), (2, .agg (mcells n.m).toArray)] (by kernel_rfl) _ (build_spot p n.v n.m hv32 _) ?_) | (refine wpList_buildSlice_eq (by rfl) 69 1 #[(0, .tmp 13)] rfl #[(0, .agg (srow (p, n.v, n.m)).toArray)] (by kernel_rfl) _ (slice_spot p n.v n.m hv32 _) ?_))
  have hsp := Own.made (w.alloc (.cells (n.row a c).toArray 30)) 78 40 1 (srow (p, n.v, n.m)).toArray (by rw [List.size_toArray, srow_length Hn.out.vwf]) (by omega)
  rw [World.size_alloc] at hsp
  have hb2 := on_alloc (Below.refl _ (w.alloc (.cells (n.row a c).toArray 30))) (.cells (srow (p, n.v, n.m)).toArray 78)
  have hs2 : (w.alloc (.cells (n.row a c).toArray 30)).heap.size = w.heap.size + 1 := World.size_alloc _ _
  obtain ⟨B, hB⟩ : ∃ B, B = w.heap.size := ⟨_, rfl⟩
  obtain ⟨G, hG⟩ : ∃ G, G = w.heap.size + 1 := ⟨_, rfl⟩
  have Hblk2 := Lib.hid Hblk.out
  generalize w.alloc (.cells (n.row a c).toArray 30) = w2 at hsp hb2 hs2 hbl Hblk2 ⊢
  generalize w2.alloc (.cells (srow (p, n.v, n.m)).toArray 78) = w3 at hsp hb2 ⊢
  rw [← hG, ← hB]
  have hGw : w2.heap.size = G := by omega
  have hBw : B < w2.heap.size := by omega
  have Hbl := Lib.hid hbl
  have Hblk := Lib.hid (show w2.heap[B]? = some (.cells (n.row a c).toArray 30 (0, 0)) by rw [hB]; exact Hblk2.out)
  have Hsp := Lib.hid (show Own w3 78 40 (.slice (some ⟨G, 0, none⟩) 1 1) 1 (srows ((p, n.v, n.m) :: allKids (n.kids.take 0) p)) by rw [hG]; simpa [srows, allKids] using hsp)
  have Hb2 := Lib.hid hb2
  have HGw := Lib.hid hGw
  have HB := Lib.hid hB
  clear hsp hb2 hs2 hbl hB hG hGw f40 Hfv Hfm Hblk2
  go_loopw [5, 6] (fun v i wr => ∃ (k q : Nat) (a3 : Option Addr) (c3 : Nat), k ≤ m ∧ i = .int .i64 k ∧ v = .slice a3 q c3 ∧ q = ((p, n.v, n.m) :: allKids (n.kids.take k) p).length ∧ Own wr 78 40 (.slice a3 q c3) q (srows ((p, n.v, n.m) :: allKids (n.kids.take k) p)) ∧ (∀ b, (Value.slice a3 q c3).ownBlock = some b → w2.heap.size ≤ b) ∧ Below w2.heap.size w2 wr) (fun _ i _ => m - (intOf i).toNat)
  case atStart => exact ⟨0, 1, _, 1, Nat.zero_le _, rfl, rfl, by simp [allKids], Hsp.out, fun b hb => by
    have : G = b := by simpa [Value.ownBlock] using hb
    have := HGw.out
    omega, Hb2.out⟩
  case round =>
    obtain ⟨k, q, a3, c3, hk, rfl, rfl, hq, hown, hn3, hbe⟩ := hrel
    obtain ⟨L, hL⟩ : ∃ L, L = (p, n.v, n.m) :: allKids (n.kids.take k) p := ⟨_, rfl⟩
    rw [← hL] at hq hown
    have HL := Lib.hid hL
    have Hq := Lib.hid hq
    have Hown := Lib.hid hown
    have Hn3 := Lib.hid hn3
    have Hbe := Lib.hid hbe
    have hqb : q ≤ 1000001 := by
      rw [hq, hL, List.length_cons, allKids_length]
      have h1 := cntAll_take_le n.kids k
      have h2 := cntAll_le n.kids
      have := Hpt.out
      omega
    have Hbk := Lib.hid ((hbe.block B hBw).trans Hblk.out)
    obtain ⟨_, _, _, f40⟩ := nrow_at (o := 0) Hn.out.vwf (rangeAt_row Hbk.out)
    simp only [Nat.zero_add] at f40
    rw [← Hm.out] at f40
    clear hL hq hown hn3 hbe Hsp
    by_cases hlt : k < m
    · have hd : ∃ e, d = e + 1 := by
        cases d with
        | zero => exfalso; have h0 : n.kids = [] := Hn.out.kids; have := Hm.out; rw [h0] at this; simp at this; omega
        | succ e => exact ⟨e, rfl⟩
      obtain ⟨d', hd⟩ := hd
      have ihe := Ih.out d' hd
      have hkn := Hn.out.kids
      rw [hd] at hkn
      have hkm : k < n.kids.length := by rw [← Hm.out]; exact hlt
      obtain ⟨g, off, a', c', rfl, hF, hr, hni⟩ := ((hkn.below Hbl.out).below Hbe.out).at (i := k) hkm
      obtain ⟨x, hx⟩ : ∃ x, x = n.kids[k]'hkm := ⟨_, rfl⟩
      rw [← hx] at hr hni
      have c0 : wr.cell? ⟨g, off + k * 41, none⟩ = some (.string x.name) := hr 0 _ rfl
      have Hr := Lib.hid (And.intro hr hni)
      have Hx := Lib.hid hx
      have Ihe := Lib.hid ihe
      have hvwf := Lib.hid (row_len (a := a') (c := c') hni.vwf)
      have hxp := partsAll_get (ks := n.kids) hkm
      rw [← hx] at hxp
      have hxe := parts_eq x
      have Hxp := Lib.hid (show x.parts ≤ 1000000 by have := Hpt.out; omega)
      have hxn : x.name.size ≤ 1000000 := by have := Hpt.out; omega
      have Hxs := Lib.hid (show (pathOf p x.name).size + 1 + partsAll x.kids ≤ 2000000 by have := pathOf_size p x.name; have := Hps.out; omega)
      have Hcx := Lib.hid (show (allOf x (pathOf p x.name)).length ≤ 1000000 by rw [allOf_length]; exact Nat.le_trans (cnt_le_parts x) Hxp.out)
      have i1 : (0 : Int) ≤ (k : Int) := by omega
      have i2 : (k : Int) < (m : Int) := by omega
      have et := Lib.hid (show (p, n.v, n.m) :: allKids (n.kids.take (k + 1)) p = L ++ allOf x (pathOf p x.name) by rw [allKids_take n.kids k hkm p, HL.out, hx]; simp)
      clear hr hni hx hkn ihe hd hxp hxe
      obtain ⟨s, hs⟩ : ∃ s, s = pathOf p x.name := ⟨_, rfl⟩
      rw [← hs] at Hxs Hcx et
      by_cases hp : p = ⟨#[]⟩
      · have hs' : s = x.name := by rw [hs, pathOf, if_pos hp]
        subst hs'
        subst hp
        clear hs
        go_wp2_with (refine wpList_load_midg (by rfl) 30 (.tmp 38) rfl g (off + k * 41) rfl (x.row a' c') _ Hr.out.1 Try.underlying30 rfl (by rw [hvwf.out]; kernel_rfl) ?_)
        refine (Ihe.out wr x _ a' c' Hr.out.2 (fun b hb => Nat.lt_of_lt_of_le (hFw b hb) (Nat.le_trans Hbl.out.size Hbe.out.size)) Hxp.out Hxs.out).mono ?_
        rintro e w5 ⟨ax, cx, rfl, hox, hnx, hb5⟩
        generalize hR : allOf x _ = R at hox hnx Hcx et ⊢
        have Hox := Lib.hid hox
        have Hb5 := Lib.hid hb5
        have hown5 := Lib.hid (Hown.out.kept (Upd.below hb5 (fun _ => False)) (fun _ _ => id))
        have hrl : R.length ≤ 1000000 := Hcx.out
        clear hox hnx hb5 hR
        go_wp2_with (at_builtin; refine wpList_append_any rfl _ _ 69 rfl 78 i0 _ 40 104 Try.underlying69 hi hz0 hz1 hz2 rfl (by decide) (.slice a3 q c3) q (srows L) (.slice ax R.length cx) R.length (srows R) rfl rfl hown5.out Hox.out.sl (srows_one R) (by omega) (by omega) ?_)
        intro a7 c7 w7 hown7 hgr7 hb7
        have hws := Hbe.out.size
        have Hbe7 := Lib.hid ((Hbe.out.upd (Nat.le_refl _) (Upd.below Hb5.out (fun _ => False)) (fun b hb => hb.elim)).grown hgr7 (Nat.le_trans hws Hb5.out.size) (fun b hb => Hn3.out b hb))
        have Hn7 := Lib.hid (show ∀ b, (Value.slice a7 (q + R.length) c7).ownBlock = some b → w2.heap.size ≤ b from fun b hb => by
          by_cases h : (Value.slice a3 q c3).ownBlock = some b
          · exact Hn3.out b h
          · have h1 := hb7 b h hb
            have h2 := Hb5.out.size
            omega)
        rw [← srows_append, ← et.out] at hown7
        have Hown7 := Lib.hid hown7
        clear hown7 hgr7 hb7
        go_wp2
        go_roundw
        case rel => exact ⟨k + 1, q + R.length, a7, c7, hlt, by go_num, rfl, by rw [et.out, List.length_append, Hq.out], Hown7.out, Hn7.out, Hbe7.out⟩
        case measure => simp [intOf]; omega
      · have hs' : s = p ++ ⟨#[47]⟩ ++ x.name := by rw [hs, pathOf, if_neg hp]
        subst hs'
        have hpe := names_ne hp
        have hpe2 : (p.toList == ([] : List UInt8)) = false := by
          have e : (⟨#[]⟩ : ByteArray).toList = [] := by rw [ByteArray.toList_eq]
          rw [← e]
          exact names_ne hp
        clear hs
        go_wp2_with (refine wpList_load_midg (by rfl) 30 (.tmp 38) rfl g (off + k * 41) rfl (x.row a' c') _ Hr.out.1 Try.underlying30 rfl (by rw [hvwf.out]; kernel_rfl) ?_)
        refine (Ihe.out wr x _ a' c' Hr.out.2 (fun b hb => Nat.lt_of_lt_of_le (hFw b hb) (Nat.le_trans Hbl.out.size Hbe.out.size)) Hxp.out Hxs.out).mono ?_
        rintro e w5 ⟨ax, cx, rfl, hox, hnx, hb5⟩
        generalize hR : allOf x _ = R at hox hnx Hcx et ⊢
        have Hox := Lib.hid hox
        have Hb5 := Lib.hid hb5
        have hown5 := Lib.hid (Hown.out.kept (Upd.below hb5 (fun _ => False)) (fun _ _ => id))
        have hrl : R.length ≤ 1000000 := Hcx.out
        clear hox hnx hb5 hR
        go_wp2_with (at_builtin; refine wpList_append_any rfl _ _ 69 rfl 78 i0 _ 40 104 Try.underlying69 hi hz0 hz1 hz2 rfl (by decide) (.slice a3 q c3) q (srows L) (.slice ax R.length cx) R.length (srows R) rfl rfl hown5.out Hox.out.sl (srows_one R) (by omega) (by omega) ?_)
        intro a7 c7 w7 hown7 hgr7 hb7
        have hws := Hbe.out.size
        have Hbe7 := Lib.hid ((Hbe.out.upd (Nat.le_refl _) (Upd.below Hb5.out (fun _ => False)) (fun b hb => hb.elim)).grown hgr7 (Nat.le_trans hws Hb5.out.size) (fun b hb => Hn3.out b hb))
        have Hn7 := Lib.hid (show ∀ b, (Value.slice a7 (q + R.length) c7).ownBlock = some b → w2.heap.size ≤ b from fun b hb => by
          by_cases h : (Value.slice a3 q c3).ownBlock = some b
          · exact Hn3.out b h
          · have h1 := hb7 b h hb
            have h2 := Hb5.out.size
            omega)
        rw [← srows_append, ← et.out] at hown7
        have Hown7 := Lib.hid hown7
        clear hown7 hgr7 hb7
        go_wp2
        go_roundw
        case rel => exact ⟨k + 1, q + R.length, a7, c7, hlt, by go_num, rfl, by rw [et.out, List.length_append, Hq.out], Hown7.out, Hn7.out, Hbe7.out⟩
        case measure => simp [intOf]; omega
    · obtain rfl : k = m := by omega
      clear hlt
      have hke : L = allOf n p := by rw [HL.out, allOf_eq, List.take_of_length_le (by rw [← Hm.out]; exact Nat.le_refl _)]
      have Hke := Lib.hid hke
      clear hke
      go_wp2
      go_ret
      refine ⟨a3, c3, by rw [← Hke.out, ← Hq.out]; rfl, by rw [← Hke.out, ← Hq.out]; exact Hown.out, fun b hb => ?_, Hbl.out.trans (Hbe.out.mono Hbl.out.size)⟩
      rw [← Hke.out, ← Hq.out] at hb
      have h1 := Hn3.out b hb
      have h2 := Hbl.out.size
      omega
theorem all_ok (F : Nat → Prop) : ∀ d : Nat, AllOk F d
  | 0 => all_step F 0 (fun e he => by omega)
  | d + 1 => all_step F (d + 1) (fun e he => (Nat.succ.inj he) ▸ all_ok F d)
end Go.Proofs.Ythnbinlllmkabaa
