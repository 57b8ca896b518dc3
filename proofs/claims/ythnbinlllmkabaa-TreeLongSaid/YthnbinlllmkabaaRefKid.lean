/- The reference's place and Kid. (Written by gen_refkid.py.) -/
import Derived.Test.YthnbinlllmkabaaKids
import Derived.Test.YthnbinlllmkabaaCopy
import Derived.Test.YthnbinlllmkabaaOwn
import Derived.Test.YthnbinlllmkabaaPlain
import Derived.BigQuiet
namespace Go.Proofs.Ythnbinlllmkabaa
open Go.RowKit
set_option linter.unusedVariables false
set_option linter.unusedSimpArgs false

theorem place_le (ks : List Nd) (t : ByteArray) : place ks t ≤ ks.length := by
  have h := rank_le (ks.map Nd.name) t
  rw [List.length_map] at h
  exact h
theorem rank_ltR : ∀ (l : List ByteArray) (t : ByteArray) (j : Nat) (x : ByteArray), l[j]? = some x → j < rank l t → blt x t = true
  | [], t, j, x, h, _ => by simp at h
  | y :: r, t, 0, x, h, hj => by
    simp at h; subst h
    unfold rank at hj
    rw [List.takeWhile_cons] at hj
    by_cases hb : blt y t = true
    · exact hb
    · rw [if_neg hb] at hj; simp at hj
  | y :: r, t, j + 1, x, h, hj => by
    unfold rank at hj
    rw [List.takeWhile_cons] at hj
    by_cases hb : blt y t = true
    · rw [if_pos hb] at hj
      exact rank_ltR r t j x (by simpa using h) (by unfold rank; simpa using hj)
    · rw [if_neg hb] at hj; simp at hj
theorem rank_geR : ∀ (l : List ByteArray) (t x : ByteArray), l[rank l t]? = some x → blt x t = false
  | [], t, x, h => by simp at h
  | y :: r, t, x, h => by
    unfold rank at h
    rw [List.takeWhile_cons] at h
    by_cases hb : blt y t = true
    · rw [if_pos hb] at h
      exact rank_geR r t x (by unfold rank; simpa using h)
    · rw [if_neg hb] at h
      simp at h; subst h; simpa using hb
theorem names_neR {a b : ByteArray} (h : a ≠ b) : (a.toList == b.toList) = false := by
  rw [beq_eq_false_iff_ne]
  exact fun e => h (toList_inj e)
set_option maxHeartbeats 4000000 in
set_option maxRecDepth 100000 in
/-- The reference's place. -/
theorem refPlace_ok (F : Nat → Prop) (d : Nat) (w : World) (n : Nd) (t : ByteArray) (a : Option Addr) (c : Nat) (hn : NodeIn w F d n a) (hpt : n.parts ≤ 1000000) :
    Calls Try.prog 119 #[.agg (n.row a c).toArray, .string t] w fun e w' => e = .returned (.tuple #[.int .i64 (place n.kids t : Nat), .bool (found (n.kids.map Nd.name) t)]) ∧ Below w.heap.size w w' := by
  have hblk := heap_alloc_new w (.cells (n.row a c).toArray 30)
  have hbl := on_alloc (Below.refl _ w) (.cells (n.row a c).toArray 30)
  obtain ⟨m, hm⟩ : ∃ m, m = n.kids.length := ⟨_, rfl⟩
  have hme : m ≤ 1000000 := by have h1 := partsAll_len n.kids; have := parts_eq n; omega
  obtain ⟨r, hr⟩ : ∃ r, r = place n.kids t := ⟨_, rfl⟩
  have hrm : r ≤ m := by rw [hr, hm]; exact place_le _ _
  obtain ⟨fd, hfd⟩ : ∃ fd, fd = found (n.kids.map Nd.name) t := ⟨_, rfl⟩
  rw [← hr, ← hfd]
  have Hn := Lib.hid hn
  have Hm := Lib.hid hm
  have Hr := Lib.hid hr
  have Hfd := Lib.hid hfd
  go_enter Try.func119, Try.ntmps119
  obtain ⟨_, _, _, f40⟩ := nrow_at (o := 0) hn.vwf (rangeAt_row hblk)
  simp only [Nat.zero_add] at f40
  rw [← hm] at f40
  clear hn hm hr hfd hpt
  go_wp2_with fail
  obtain ⟨B, hB⟩ : ∃ B, B = w.heap.size := ⟨_, rfl⟩
  generalize w.alloc (.cells (n.row a c).toArray 30) = w2 at hblk hbl f40 ⊢
  rw [← hB] at hblk
  rw [← hB]
  have hBw : B < w2.heap.size := lt_heap hblk
  have Hblk := Lib.hid hblk
  have Hbl := Lib.hid hbl
  clear hblk hbl hB f40
  go_loopw [6] (fun i wr => ∃ k : Nat, k ≤ r ∧ i = .int .i64 k ∧ Below w2.heap.size w2 wr) (fun i _ => m - (intOf i).toNat)
  case atStart => exact ⟨0, Nat.zero_le _, rfl, Below.refl _ _⟩
  case round =>
    obtain ⟨k, hk, rfl, hbe⟩ := hrel
    have Hbe := Lib.hid hbe
    obtain ⟨_, _, _, f40⟩ := nrow_at (o := 0) Hn.out.vwf (rangeAt_row ((hbe.block B hBw).trans Hblk.out))
    simp only [Nat.zero_add] at f40
    rw [← Hm.out] at f40
    clear hbe
    by_cases hlt : k < m
    · have hd : ∃ e, d = e + 1 := by
        cases d with
        | zero => exfalso; have h0 : n.kids = [] := Hn.out.kids; have := Hm.out; rw [h0] at this; simp at this; omega
        | succ e => exact ⟨e, rfl⟩
      obtain ⟨d', hd⟩ := hd
      have hkn := Hn.out.kids
      rw [hd] at hkn
      have hkm : k < n.kids.length := by rw [← Hm.out]; exact hlt
      obtain ⟨g, off, a', c', rfl, hF, hr, hni⟩ := ((hkn.below Hbl.out).below Hbe.out).at (i := k) hkm
      obtain ⟨x, hx⟩ : ∃ x, x = n.kids[k]'hkm := ⟨_, rfl⟩
      rw [← hx] at hr hni
      have c0 : wr.cell? ⟨g, off + k * 41, none⟩ = some (.string x.name) := hr 0 _ rfl
      have i1 : (0 : Int) ≤ (k : Int) := by omega
      have i2 : (k : Int) < (m : Int) := by omega
      have hnk : (n.kids.map Nd.name)[k]? = some x.name := by rw [List.getElem?_map, List.getElem?_eq_getElem hkm, ← hx]; rfl
      by_cases hkr : k < r
      · have hb : Op.bytesLess x.name.toList t.toList = true := rank_ltR _ _ k _ hnk (by rw [Hr.out] at hkr; exact hkr)
        clear hr hni hx hkn hd hnk
        go_wp2
        go_roundw
        case rel => exact ⟨k + 1, hkr, by go_num, Hbe.out⟩
        case measure => simp [intOf]; omega
      · obtain rfl : k = r := by omega
        have hb : Op.bytesLess x.name.toList t.toList = false := rank_geR (n.kids.map Nd.name) t x.name (by have h := Hr.out; unfold place at h; rw [← h]; exact hnk)
        have hq : (x.name.toList == t.toList) = fd := by
          rw [Hfd.out]
          unfold found
          have h := Hr.out
          unfold place at h
          rw [← h, hnk]
          by_cases he : x.name = t
          · rw [he]; simp
          · rw [names_neR he]; simp [he]
        clear hr hni hx hkn hd hnk
        go_wp2_with fail
        go_quiet (fail)
        go_wp2
        go_ret2
        exact ⟨by first | rfl | (rw [hq]; rfl), below_on Hbl.out (Hbe.out.upd (Nat.le_refl _) ((Upd.refl (fun _ => False) wr).drewN nq) (fun b hb => hb.elim))⟩
    · obtain rfl : k = m := by omega
      have hkr0 : k ≤ r := by omega
      have hq : fd = false := by
        rw [Hfd.out]
        unfold found
        have h := Hr.out
        unfold place at h
        rw [← h, List.getElem?_eq_none (by rw [List.length_map, ← Hm.out]; exact hkr0)]
        rfl
      obtain rfl : k = r := by omega
      clear hlt
      go_wp2_with fail
      go_quiet (fail)
      go_wp2
      go_ret2
      exact ⟨by first | rfl | (rw [hq]; rfl), below_on Hbl.out (Hbe.out.upd (Nat.le_refl _) ((Upd.refl (fun _ => False) wr).drewN nq) (fun b hb => hb.elim))⟩
/-- A thing that is nothing; the child of a name, or nothing. -/
def noNd : Nd := .mk ⟨#[]⟩ noVl noMk []
def kidOr (ks : List Nd) (t : ByteArray) : Nd := (kidOf ks t).getD noNd
theorem bld_noNd (w : World) : (Instr.build 30 #[]).run Try.prog w = .ok (.agg (noNd.row none 0).toArray) w := run_build w _ _ _ (by kernel_rfl)
theorem noNd_in {w : World} (F : Nat → Prop) (d : Nat) : NodeIn w F d noNd none := ⟨noVl_wf, by unfold mwf noNd Nd.m noMk i64; dsimp only; omega, by show (0 : Nat) ≤ _; omega, by show (0 : Nat) ≤ _; omega, by
  cases d with
  | zero => rfl
  | succ d => intro i k hk; simp [noNd, Nd.kids] at hk⟩
set_option maxHeartbeats 4000000 in
set_option maxRecDepth 100000 in
/-- The reference's Kid. -/
theorem refKid_ok (F : Nat → Prop) (d : Nat) (w : World) (n : Nd) (t : ByteArray) (a : Option Addr) (c : Nat) (hn : NodeIn w F (d + 1) n a) (hF : ∀ b, F b → b < w.heap.size) (hpt : n.parts ≤ 1000000) :
    Calls Try.prog 118 #[.agg (n.row a c).toArray, .string t] w fun e w' => ∃ (a' : Option Addr) (c' : Nat), e = .returned (.agg ((kidOr n.kids t).row a' c').toArray) ∧ NodeIn w' F d (kidOr n.kids t) a' ∧ Below w.heap.size w w' := by
  obtain ⟨m, hm⟩ : ∃ m, m = n.kids.length := ⟨_, rfl⟩
  have hme : m ≤ 1000000 := by have h1 := partsAll_len n.kids; have := parts_eq n; omega
  have Hn := Lib.hid hn
  have Hm := Lib.hid hm
  have h41 := Lib.hid (row_len (a := a) (c := c) hn.vwf)
  go_enter Try.func118, Try.ntmps118
  go_upto_region 1 with fail
  have hbx := (Below.heap_alloc (w.alloc (.cells (n.row a c).toArray 30)) (.cells #[.string ⟨#[]⟩, .int .i64 0, .int .i64 0, .int .i64 0, .int .u8 0, .int .u8 0, .int .u8 0, .int .u8 0, .int .u8 0, .int .u8 0, .int .u8 0, .int .u8 0, .int .u8 0, .int .u8 0, .int .u8 0, .int .u8 0, .int .u8 0, .int .u8 0, .int .u8 0, .int .u8 0, .int .u8 0, .int .u8 0, .int .u8 0, .int .u8 0, .int .u8 0, .int .u8 0, .int .u8 0, .int .u8 0, .int .u8 0, .int .u8 0, .int .u8 0, .int .u8 0, .int .u8 0, .int .u8 0, .int .u8 0, .int .u8 0, .int .i64 0, .int .i64 0, .int .i64 0, .int .i64 0, .slice none 0 0] 30) w.heap.size (by simp)).trans (heap_alloc_new w (.cells (n.row a c).toArray 30))
  have hres := heap_alloc_new (w.alloc (.cells (n.row a c).toArray 30)) (.cells #[.string ⟨#[]⟩, .int .i64 0, .int .i64 0, .int .i64 0, .int .u8 0, .int .u8 0, .int .u8 0, .int .u8 0, .int .u8 0, .int .u8 0, .int .u8 0, .int .u8 0, .int .u8 0, .int .u8 0, .int .u8 0, .int .u8 0, .int .u8 0, .int .u8 0, .int .u8 0, .int .u8 0, .int .u8 0, .int .u8 0, .int .u8 0, .int .u8 0, .int .u8 0, .int .u8 0, .int .u8 0, .int .u8 0, .int .u8 0, .int .u8 0, .int .u8 0, .int .u8 0, .int .u8 0, .int .u8 0, .int .u8 0, .int .u8 0, .int .i64 0, .int .i64 0, .int .i64 0, .int .i64 0, .slice none 0 0] 30)
  have hbl := on_alloc (on_alloc (Below.refl _ w) (.cells (n.row a c).toArray 30)) (.cells #[.string ⟨#[]⟩, .int .i64 0, .int .i64 0, .int .i64 0, .int .u8 0, .int .u8 0, .int .u8 0, .int .u8 0, .int .u8 0, .int .u8 0, .int .u8 0, .int .u8 0, .int .u8 0, .int .u8 0, .int .u8 0, .int .u8 0, .int .u8 0, .int .u8 0, .int .u8 0, .int .u8 0, .int .u8 0, .int .u8 0, .int .u8 0, .int .u8 0, .int .u8 0, .int .u8 0, .int .u8 0, .int .u8 0, .int .u8 0, .int .u8 0, .int .u8 0, .int .u8 0, .int .u8 0, .int .u8 0, .int .u8 0, .int .u8 0, .int .i64 0, .int .i64 0, .int .i64 0, .int .i64 0, .slice none 0 0] 30)
  rw [World.size_alloc] at hres
  generalize (w.alloc (.cells (n.row a c).toArray 30)).alloc (.cells #[.string ⟨#[]⟩, .int .i64 0, .int .i64 0, .int .i64 0, .int .u8 0, .int .u8 0, .int .u8 0, .int .u8 0, .int .u8 0, .int .u8 0, .int .u8 0, .int .u8 0, .int .u8 0, .int .u8 0, .int .u8 0, .int .u8 0, .int .u8 0, .int .u8 0, .int .u8 0, .int .u8 0, .int .u8 0, .int .u8 0, .int .u8 0, .int .u8 0, .int .u8 0, .int .u8 0, .int .u8 0, .int .u8 0, .int .u8 0, .int .u8 0, .int .u8 0, .int .u8 0, .int .u8 0, .int .u8 0, .int .u8 0, .int .u8 0, .int .i64 0, .int .i64 0, .int .i64 0, .int .i64 0, .slice none 0 0] 30) = w2 at hbx hres hbl ⊢
  obtain ⟨Z, hZ⟩ : ∃ Z : Array Value, Z = #[.string ⟨#[]⟩, .int .i64 0, .int .i64 0, .int .i64 0, .int .u8 0, .int .u8 0, .int .u8 0, .int .u8 0, .int .u8 0, .int .u8 0, .int .u8 0, .int .u8 0, .int .u8 0, .int .u8 0, .int .u8 0, .int .u8 0, .int .u8 0, .int .u8 0, .int .u8 0, .int .u8 0, .int .u8 0, .int .u8 0, .int .u8 0, .int .u8 0, .int .u8 0, .int .u8 0, .int .u8 0, .int .u8 0, .int .u8 0, .int .u8 0, .int .u8 0, .int .u8 0, .int .u8 0, .int .u8 0, .int .u8 0, .int .u8 0, .int .i64 0, .int .i64 0, .int .i64 0, .int .i64 0, .slice none 0 0] := ⟨_, rfl⟩
  obtain ⟨B, hB⟩ : ∃ B, B = w.heap.size := ⟨_, rfl⟩
  obtain ⟨R, hR⟩ : ∃ R, R = w.heap.size + 1 := ⟨_, rfl⟩
  have hZs := Lib.hid (show Z.size = 41 by rw [hZ]; rfl)
  rw [← hZ, ← hR] at hres
  rw [← hB] at hbx
  (try rw [World.size_alloc])
  rw [← hR, ← hB]
  have hRw : w.heap.size ≤ R := by omega
  have hBR : B ≠ R := by omega
  have hB2 : B < w2.heap.size := lt_heap hbx
  have hR2 : R < w2.heap.size := lt_heap hres
  have Hbx := Lib.hid hbx
  have Hres := Lib.hid hres
  have Hbl := Lib.hid hbl
  clear hbx hres hbl hZ hB hR hn hm
  go_wp2_with (refine wpList_load_midg (by rfl) 30 (.tmp 2) rfl B 0 rfl (n.row a c) _ (rangeAt_row Hbx.out) Try.underlying30 rfl (by rw [h41.out]; kernel_rfl) ?_)
  refine (refPlace_ok F _ w2 n t a c (Hn.out.below Hbl.out) hpt).mono ?_
  rintro e3 w3 ⟨rfl, hb3⟩
  have Hn3 := Lib.hid ((Hn.out.below Hbl.out).below hb3)
  have Hbx3 := Lib.hid ((hb3.block B hB2).trans Hbx.out)
  have Hres3 := Lib.hid ((hb3.block R hR2).trans Hres.out)
  have Hbl3 := Lib.hid (below_on Hbl.out hb3)
  clear hb3 Hbx Hres Hbl
  cases hk : kidOf n.kids t with
  | none =>
    have hf := kidOf_none hk
    have hko : kidOr n.kids t = noNd := by unfold kidOr; rw [hk]; rfl
    rw [hf]
    obtain ⟨D, hD⟩ : ∃ D : Array Value, D = (noNd.row none 0).toArray := ⟨_, rfl⟩
    have Ds := Lib.hid (show D.size = 41 by rw [hD]; rfl)
    have Do := Lib.hid (show D.all (·.oneCell') = true by rw [hD]; exact all_one (nrow_one _ _ _ _ _ _))
    have Hbd := Lib.hid (fun w => bld_noNd w)
    rw [← hD] at Hbd
    have HD := Lib.hid hD
    have Hko := Lib.hid hko
    obtain ⟨pl, hpl⟩ : ∃ x, x = place n.kids t := ⟨_, rfl⟩
    rw [← hpl]
    clear hD hko hk hf hpl
    go_wp2_with (first | (refine wpList_build_eq (by rfl) 30 #[] rfl #[] (by kernel_rfl) (.agg D) (Hbd.out _) ?_) | (refine wpList_store_rowg rfl 30 (.tmp 4) (.tmp 15) rfl R D rfl rfl 30 Z Hres3.out (by rw [Ds.out]; kernel_rfl) (by rw [Ds.out, hZs.out]) Do.out ?_))
    intro wz hrz huz
    go_wp2
    refine bodyPost_ret (results_cell_row (P := Try.prog) Try.results118 _ _ R 30 D (0, 0) _ rfl hrz Try.underlying30 rfl (by rw [Ds.out]; kernel_rfl)) rfl ⟨none, 0, by rw [HD.out, Hko.out], by rw [Hko.out]; exact noNd_in _ _, Hbl3.out.upd (Nat.le_refl _) huz (fun b hb => by omega)⟩
  | some x =>
    obtain ⟨hat, hnm, hf⟩ := kidOf_some hk
    have hko : kidOr n.kids t = x := by unfold kidOr; rw [hk]; rfl
    rw [hf]
    obtain ⟨pl, hpl⟩ : ∃ q, q = place n.kids t := ⟨_, rfl⟩
    rw [← hpl] at hat
    rw [← hpl]
    have hpk : pl < n.kids.length := (List.getElem?_eq_some_iff.1 hat).1
    have hxe := (List.getElem?_eq_some_iff.1 hat).2
    obtain ⟨g, off, a', c', hae, hFg, hr, hni⟩ := Hn3.out.kids.at (i := pl) hpk
    rw [hxe] at hr hni
    have Hr := Lib.hid hr
    have Hni := Lib.hid hni
    have hx41 := Lib.hid (row_len (a := a') (c := c') hni.vwf)
    have f40 : w3.cell? ⟨B, 40, none⟩ = some (.slice (some ⟨g, off, none⟩) m c) := by
      have h := (nrow_at (o := 0) Hn.out.vwf (rangeAt_row Hbx3.out)).2.2.2
      simp only [Nat.zero_add] at h
      rw [Hm.out, h, hae]
    have i1 : (0 : Int) ≤ (pl : Int) := by omega
    have i2 : (pl : Int) < (m : Int) := by have := Hm.out; omega
    obtain ⟨D, hD⟩ : ∃ D : Array Value, D = (x.row a' c').toArray := ⟨_, rfl⟩
    have Ds := Lib.hid (show D.size = 41 by rw [hD, List.size_toArray]; exact hx41.out)
    have Do := Lib.hid (show D.all (·.oneCell') = true by rw [hD]; exact all_one (nrow_one _ _ _ _ _ _))
    have HD := Lib.hid hD
    have Hko := Lib.hid hko
    clear hD hko hk hf hpl hat hnm hxe hae hr hni
    go_wp2_with (first | (refine wpList_load_midg (by rfl) 30 (.tmp 19) rfl g (off + pl * 41) rfl (x.row a' c') _ Hr.out Try.underlying30 rfl (by rw [hx41.out]; kernel_rfl) ?_; rw [← HD.out]) | (refine wpList_store_rowg rfl 30 (.tmp 4) (.tmp 20) rfl R D rfl rfl 30 Z Hres3.out (by rw [Ds.out]; kernel_rfl) (by rw [Ds.out, hZs.out]) Do.out ?_))
    intro wz hrz huz
    go_wp2
    refine bodyPost_ret (results_cell_row (P := Try.prog) Try.results118 _ _ R 30 D (0, 0) _ rfl hrz Try.underlying30 rfl (by rw [Ds.out]; kernel_rfl)) rfl ⟨a', c', by rw [HD.out, Hko.out], ?_, Hbl3.out.upd (Nat.le_refl _) huz (fun b hb => by omega)⟩
    rw [Hko.out]
    exact Hni.out.kept huz (fun b hb e => by have e' : b = R := e; have := hF b hb; omega)
end Go.Proofs.Ythnbinlllmkabaa
