/- Every value and every mark of a tree changed; Bare, unknowing. (Written by gen_bare.py.) -/
import Derived.Test.YthnbinlllmkabaaCopy2
import Derived.Test.YthnbinlllmkabaaPlain
import Derived.Deep.RegionHeld3
namespace Go.Proofs.Ythnbinlllmkabaa
open Go.RowKit
set_option linter.unusedVariables false
set_option linter.unusedSimpArgs false

mutual
/-- Every value and every pair of marks changed. -/
def mapN (f : Vl → Vl) (g : Mk × Mk → Mk × Mk) : Nd → Nd | .mk n v m ks => .mk n (f v) (g m) (mapNs f g ks)
def mapNs (f : Vl → Vl) (g : Mk × Mk → Mk × Mk) : List Nd → List Nd | [] => [] | k :: ks => mapN f g k :: mapNs f g ks
end
theorem mapNs_eq (f : Vl → Vl) (g : Mk × Mk → Mk × Mk) : ∀ ks : List Nd, mapNs f g ks = ks.map (mapN f g)
  | [] => by simp [mapNs]
  | k :: ks => by rw [mapNs, mapNs_eq f g ks]; rfl
theorem mapN_eq (f : Vl → Vl) (g : Mk × Mk → Mk × Mk) (n : Nd) : mapN f g n = .mk n.name (f n.v) (g n.m) (n.kids.map (mapN f g)) := by
  cases n; rw [mapN, mapNs_eq]; rfl
theorem mapN_row (f : Vl → Vl) (g : Mk × Mk → Mk × Mk) (n : Nd) (a : Option Addr) (c : Nat) : (mapN f g n).row a c = nrow n.name (f n.v) (g n.m) (.slice a n.kids.length c) := by
  rw [mapN_eq]
  show nrow n.name (f n.v) (g n.m) (.slice a (n.kids.map (mapN f g)).length c) = _
  rw [List.length_map]
/-- A tree without marks. -/
def bareN (n : Nd) : Nd := mapN id (fun _ => noMk) n
/-- An unknown mode. -/
def unkV (v : Vl) : Vl := if v.kind = 3 then v else ⟨v.kind, 8, v.size, v.sum⟩
/-- A tree whose modes are unknown. -/
def unkN (n : Nd) : Nd := mapN unkV id n
theorem unkV_wf {v : Vl} (h : v.wf) : (unkV v).wf := by
  unfold unkV
  split
  · exact h
  · exact ⟨h.1, h.2.1, by show i64 8; constructor <;> decide, h.2.2.2⟩
theorem noMk_wf : mwf noMk := by
  have h : i64 (0 : Int) := by unfold i64; omega
  exact ⟨h, h, h, h⟩
theorem set_marks (x z : Value) (A : List Value) (m1 m2 m3 m4 K : Value) (h : A.length = 35) : ((((x :: (A ++ ([m1, m2, m3, m4] ++ [K]))).set 36 z).set 37 z).set 38 z).set 39 z = x :: (A ++ ([z, z, z, z] ++ [K])) := by
  simp [List.set_append, h]
theorem row_bare (w : World) (B : Nat) (n : Nd) (a : Option Addr) (c : Nat) (hv : n.v.wf) (h : w.heap[B]? = some (.cells (n.row a c).toArray 30 (0, 0))) :
    (w.setCells B 36 [.int .i64 0, .int .i64 0, .int .i64 0, .int .i64 0]).heap[B]? = some (.cells ((bareN n).row a c).toArray 30 (0, 0)) := by
  have h1 := heap_setCell_same w B 36 _ _ (.int .i64 0) h
  have h2 := heap_setCell_same _ B 37 _ _ (.int .i64 0) h1
  have h3 := heap_setCell_same _ B 38 _ _ (.int .i64 0) h2
  have h4 := heap_setCell_same _ B 39 _ _ (.int .i64 0) h3
  have e : ((((n.row a c).toArray.setIfInBounds 36 (.int .i64 0)).setIfInBounds 37 (.int .i64 0)).setIfInBounds 38 (.int .i64 0)).setIfInBounds 39 (.int .i64 0) = ((bareN n).row a c).toArray := by
    apply Array.ext'
    simp only [Array.toList_setIfInBounds]
    rw [show (bareN n).row a c = nrow n.name n.v noMk (.slice a n.kids.length c) from mapN_row _ _ n a c]
    exact set_marks _ _ _ _ _ _ _ _ (n.v.cells_length hv)
  rw [e] at h4
  exact h4
theorem row_unk (n : Nd) (a : Option Addr) (c : Nat) (h : n.v.kind ≠ 3) : (n.row a c).toArray.setIfInBounds 2 (.int .i64 8) = ((unkN n).row a c).toArray := by
  apply Array.ext'
  rw [Array.toList_setIfInBounds, show (unkN n).row a c = nrow n.name (unkV n.v) n.m (.slice a n.kids.length c) from mapN_row _ _ n a c]
  unfold unkV
  rw [if_neg h]
  rfl
theorem row_unk3 (n : Nd) (a : Option Addr) (c : Nat) (h : n.v.kind = 3) : n.row a c = (unkN n).row a c := by
  rw [show (unkN n).row a c = nrow n.name (unkV n.v) n.m (.slice a n.kids.length c) from mapN_row _ _ n a c]
  unfold unkV
  rw [if_pos h]
  rfl
theorem wpList_store_midg {P : Program} {ops : Array Oper} {rest : List Oper} {op : Oper} {a : Act} {w : World} {Q : Exit → Act → World → Prop} (hgd : op.guard = none) (ty : TypeId) (x y : Operand) (ho : op.op = .store ty x y)
    (b o : Nat) (cells : Array Value) (hx : a.eval x = .pointer (some ⟨b, o, none⟩)) (hy : a.eval y = .agg cells)
    (ht : w.there b o cells.size) (hi : (P.info? ty).map (·.size) = some cells.size) (h1 : cells.all (·.oneCell') = true)
    (h : ∀ w', w' = w.setCells b o cells.toList → wpList P ops Q rest (a.put op.dst undef) w') : wpList P ops Q (op :: rest) a w :=
  wpList_store_mid hgd ty x y ho b o cells hx hy ht hi h1 (h _ rfl)
set_option maxHeartbeats 8000000 in
set_option maxRecDepth 100000 in
theorem bare_step (d : Nat) (ih : ∀ e, d = e + 1 → ∀ (F : Nat → Prop) (w : World) (n : Nd) (a : Option Addr) (c : Nat), NodeIn w F e n a → (∀ b, F b → b < w.heap.size) → n.parts ≤ 1000000 →
      Calls Try.prog 94 #[.agg (n.row a c).toArray] w fun e' w' => ∃ (a' : Option Addr) (c' : Nat), e' = .returned (.agg ((bareN n).row a' c').toArray) ∧ NodeIn w' (fun b => w.heap.size ≤ b) e (bareN n) a' ∧ Below w.heap.size w w')
    (F : Nat → Prop) (w : World) (n : Nd) (a : Option Addr) (c : Nat) (hn : NodeIn w F d n a) (hFw : ∀ b, F b → b < w.heap.size) (hpt : n.parts ≤ 1000000) :
    Calls Try.prog 94 #[.agg (n.row a c).toArray] w fun e' w' => ∃ (a' : Option Addr) (c' : Nat), e' = .returned (.agg ((bareN n).row a' c').toArray) ∧ NodeIn w' (fun b => w.heap.size ≤ b) d (bareN n) a' ∧ Below w.heap.size w w' := by
  have Ih := Lib.hid ih
  clear ih
  have Hn := Lib.hid hn
  have hn41 := Lib.hid (row_len (a := a) (c := c) hn.vwf)
  have hnsz := Lib.hid (show (n.row a c).toArray.size = 41 by rw [List.size_toArray]; exact row_len hn.vwf)
  have Hpt := Lib.hid hpt
  clear hn hpt
  go_enter Try.func94, Try.ntmps94
  have hrow : ∀ o : Obj, ((w.alloc (.cells (n.row a c).toArray 30)).alloc o).rangeAt w.heap.size 0 (n.row a c) := fun o => rangeAt_row ((Below.heap_alloc (w.alloc (.cells (n.row a c).toArray 30)) o w.heap.size (by simp)).trans (heap_alloc_new w _))
  have Hrow := Lib.hid hrow
  clear hrow
  go_wp2_with (refine wpList_load_midg (by rfl) 30 (.tmp 1) rfl w.heap.size 0 rfl (n.row a c) _ (Hrow.out _) Try.underlying30 rfl (by rw [hn41.out]; kernel_rfl) ?_)
  have hblk := (Below.heap_alloc (w.alloc (.cells (n.row a c).toArray 30)) (.cells #[.string ⟨#[]⟩, .int .i64 0, .int .i64 0, .int .i64 0, .int .u8 0, .int .u8 0, .int .u8 0, .int .u8 0, .int .u8 0, .int .u8 0, .int .u8 0, .int .u8 0, .int .u8 0, .int .u8 0, .int .u8 0, .int .u8 0, .int .u8 0, .int .u8 0, .int .u8 0, .int .u8 0, .int .u8 0, .int .u8 0, .int .u8 0, .int .u8 0, .int .u8 0, .int .u8 0, .int .u8 0, .int .u8 0, .int .u8 0, .int .u8 0, .int .u8 0, .int .u8 0, .int .u8 0, .int .u8 0, .int .u8 0, .int .u8 0, .int .i64 0, .int .i64 0, .int .i64 0, .int .i64 0, .slice none 0 0] 30) w.heap.size (by simp)).trans (heap_alloc_new w (.cells (n.row a c).toArray 30))
  have hres := heap_alloc_new (w.alloc (.cells (n.row a c).toArray 30)) (.cells #[.string ⟨#[]⟩, .int .i64 0, .int .i64 0, .int .i64 0, .int .u8 0, .int .u8 0, .int .u8 0, .int .u8 0, .int .u8 0, .int .u8 0, .int .u8 0, .int .u8 0, .int .u8 0, .int .u8 0, .int .u8 0, .int .u8 0, .int .u8 0, .int .u8 0, .int .u8 0, .int .u8 0, .int .u8 0, .int .u8 0, .int .u8 0, .int .u8 0, .int .u8 0, .int .u8 0, .int .u8 0, .int .u8 0, .int .u8 0, .int .u8 0, .int .u8 0, .int .u8 0, .int .u8 0, .int .u8 0, .int .u8 0, .int .u8 0, .int .i64 0, .int .i64 0, .int .i64 0, .int .i64 0, .slice none 0 0] 30)
  rw [World.size_alloc] at hres
  have hbl := on_alloc (on_alloc (Below.refl _ w) (.cells (n.row a c).toArray 30)) (.cells #[.string ⟨#[]⟩, .int .i64 0, .int .i64 0, .int .i64 0, .int .u8 0, .int .u8 0, .int .u8 0, .int .u8 0, .int .u8 0, .int .u8 0, .int .u8 0, .int .u8 0, .int .u8 0, .int .u8 0, .int .u8 0, .int .u8 0, .int .u8 0, .int .u8 0, .int .u8 0, .int .u8 0, .int .u8 0, .int .u8 0, .int .u8 0, .int .u8 0, .int .u8 0, .int .u8 0, .int .u8 0, .int .u8 0, .int .u8 0, .int .u8 0, .int .u8 0, .int .u8 0, .int .u8 0, .int .u8 0, .int .u8 0, .int .u8 0, .int .i64 0, .int .i64 0, .int .i64 0, .int .i64 0, .slice none 0 0] 30)
  generalize (w.alloc (.cells (n.row a c).toArray 30)).alloc (.cells #[.string ⟨#[]⟩, .int .i64 0, .int .i64 0, .int .i64 0, .int .u8 0, .int .u8 0, .int .u8 0, .int .u8 0, .int .u8 0, .int .u8 0, .int .u8 0, .int .u8 0, .int .u8 0, .int .u8 0, .int .u8 0, .int .u8 0, .int .u8 0, .int .u8 0, .int .u8 0, .int .u8 0, .int .u8 0, .int .u8 0, .int .u8 0, .int .u8 0, .int .u8 0, .int .u8 0, .int .u8 0, .int .u8 0, .int .u8 0, .int .u8 0, .int .u8 0, .int .u8 0, .int .u8 0, .int .u8 0, .int .u8 0, .int .u8 0, .int .i64 0, .int .i64 0, .int .i64 0, .int .i64 0, .slice none 0 0] 30) = w2 at hblk hres hbl ⊢
  obtain ⟨Z, hZ⟩ : ∃ Z : Array Value, Z = #[.string ⟨#[]⟩, .int .i64 0, .int .i64 0, .int .i64 0, .int .u8 0, .int .u8 0, .int .u8 0, .int .u8 0, .int .u8 0, .int .u8 0, .int .u8 0, .int .u8 0, .int .u8 0, .int .u8 0, .int .u8 0, .int .u8 0, .int .u8 0, .int .u8 0, .int .u8 0, .int .u8 0, .int .u8 0, .int .u8 0, .int .u8 0, .int .u8 0, .int .u8 0, .int .u8 0, .int .u8 0, .int .u8 0, .int .u8 0, .int .u8 0, .int .u8 0, .int .u8 0, .int .u8 0, .int .u8 0, .int .u8 0, .int .u8 0, .int .i64 0, .int .i64 0, .int .i64 0, .int .i64 0, .slice none 0 0] := ⟨_, rfl⟩
  obtain ⟨B, hB⟩ : ∃ B, B = w.heap.size := ⟨_, rfl⟩
  obtain ⟨R, hR⟩ : ∃ R, R = w.heap.size + 1 := ⟨_, rfl⟩
  have hZs := Lib.hid (show Z.size = 41 by rw [hZ]; rfl)
  rw [← hZ, ← hR] at hres
  rw [← hB] at hblk
  rw [← hR, ← hB]
  have hBR : B ≠ R := by omega
  have hBw : w.heap.size ≤ B := by omega
  have hRw : w.heap.size ≤ R := by omega
  have hB2 : B < w2.heap.size := lt_heap hblk
  have hR2 : R < w2.heap.size := lt_heap hres
  have hw2 : w.heap.size ≤ w2.heap.size := hbl.size
  have Hblk := Lib.hid hblk
  have Hres := Lib.hid hres
  have Hbl := Lib.hid hbl
  clear hblk hres hbl hZ hB hR Hrow
  refine (copy_own F d w2 n a c (Hn.out.below Hbl.out) (fun b hb => Nat.lt_of_lt_of_le (hFw b hb) hw2) Hpt.out).mono ?_
  rintro e w3 ⟨a', c', rfl, hn3, hb3, al, hcs3⟩
  have Hn3 := Lib.hid hn3
  have Hb3 := Lib.hid hb3
  have Hcs3 := Lib.hid hcs3
  have Hbk3 := Lib.hid ((hb3.block B hB2).trans Hblk.out)
  have Hrs3 := Lib.hid ((hb3.block R hR2).trans Hres.out)
  have hw23 : w2.heap.size ≤ w3.heap.size := hb3.size
  have hm41 := Lib.hid (row_len (a := a') (c := c') hn3.vwf)
  have hm41s := Lib.hid (show (n.row a' c').toArray.size = 41 by rw [List.size_toArray]; exact hm41.out)
  have hfeq : bareN n = .mk n.name (n.v) (noMk) (n.kids.map bareN) := mapN_eq _ _ n
  have Hfv := Lib.hid (show (bareN n).v.wf by rw [hfeq]; exact Hn.out.vwf)
  have Hfm := Lib.hid (show mwf (bareN n).m ∧ (bareN n).name.size ≤ 9223372036854775807 by rw [hfeq]; exact ⟨noMk_wf, Hn.out.nsz⟩)
  have Hlen := Lib.hid (show (bareN n).kids.length = n.kids.length by rw [hfeq]; exact List.length_map ..)
  have Hkid := Lib.hid (show (bareN n).kids = n.kids.map bareN by rw [hfeq]; rfl)
  have hp41 := Lib.hid (row_len (n := bareN n) (a := a') (c := c') Hfv.out)
  have hp41s := Lib.hid (show ((bareN n).row a' c').toArray.size = 41 by rw [List.size_toArray]; exact hp41.out)
  clear hn3 hb3 hcs3 hfeq
  go_wp2_with (refine wpList_store_rowg rfl 30 (.tmp 1) (.tmp 5) rfl B (n.row a' c').toArray rfl rfl 30 (n.row a c).toArray Hbk3.out (by rw [hm41s.out]; kernel_rfl) (by rw [hm41s.out, hnsz.out]) (all_one (nrow_one _ _ _ _ _ _)) ?_)
  intro w4 hset3 hu3
  have hk36 := (nrow_at (o := 0) Hn3.out.vwf (rangeAt_row hset3)).2.2.1
  simp only [Nat.zero_add] at hk36
  obtain ⟨k36, k37, k38, k39⟩ := mk_at hk36
  simp only [Nat.reduceAdd] at k37 k38 k39
  have z36 := frozen_of_row w4 B 36 _ _ hset3
  have z37 := frozen_of_row w4 B 37 _ _ hset3
  have z38 := frozen_of_row w4 B 38 _ _ hset3
  have z39 := frozen_of_row w4 B 39 _ _ hset3
  have Hset3 := Lib.hid (And.intro hset3 hu3)
  clear hset3 hu3 hk36
  go_wp2_with fail
  have hs5 := row_bare w4 B n a' c' Hn3.out.vwf Hset3.out.1
  have hu5 : Upd (fun b => b = B) w3 (w4.setCells B 36 [.int .i64 0, .int .i64 0, .int .i64 0, .int .i64 0]) := Upd.setCells' (S := fun b => b = B) B (fun _ => rfl) _ _ _ Hset3.out.2
  clear k36 k37 k38 k39 z36 z37 z38 z39 Hset3
  generalize hw5 : (((w4.setCell ⟨B, 36, none⟩ (.int .i64 0)).setCell ⟨B, 37, none⟩ (.int .i64 0)).setCell ⟨B, 38, none⟩ (.int .i64 0)).setCell ⟨B, 39, none⟩ (.int .i64 0) = w5
  rw [show w4.setCells B 36 [.int .i64 0, .int .i64 0, .int .i64 0, .int .i64 0] = w5 from hw5] at hs5 hu5
  clear hw5
  have Hrow5 := Lib.hid hs5
  have Hrs5 := Lib.hid (hu5.at_ Hrs3.out (fun e => hBR e.symm))
  have hu5' : Upd (fun b => b < w2.heap.size) w3 w5 := hu5.mono (fun b _ hb => by have hb' : b = B := hb; omega)
  have Hcs5 := Lib.hid (Hcs3.out.done (Nat.le_refl _) hu5')
  have Hbl5 := Lib.hid ((Hbl.out.trans (Hb3.out.mono hw2)).upd (Nat.le_refl _) hu5 (fun b hb => by have hb' : b = B := hb; omega))
  have hw25 : w2.heap.size ≤ w5.heap.size := Nat.le_trans hw23 hu5.size
  clear hs5 hu5 hu5'
  have hHrow := Hrow5.out
  have hlenk := Hlen.out
  obtain ⟨m, hm⟩ : ∃ m, m = n.kids.length := ⟨_, rfl⟩
  have hmp := partsAll_len n.kids
  have hme : m ≤ 1000000 := by have := parts_eq n; have := Hpt.out; omega
  have Hm := Lib.hid hm
  have hcs5 := Hcs5.out
  rw [← hm] at hcs5
  have Hcs6 := Lib.hid hcs5
  clear hm hcs5 hHrow hlenk hmp
  go_wp2_with fail
  go_loopw [3] (fun i wr => ∃ (k : Nat) (al : List (Option Addr × Nat)), k ≤ m ∧ i = .int .i64 k ∧ wr.heap[B]? = some (.cells ((bareN n).row a' c').toArray 30 (0, 0)) ∧ wr.heap[R]? = some (.cells Z 30 (0, 0)) ∧ CopySt w2 wr (d - 1) m a' c' ((n.kids.take k).map bareN ++ n.kids.drop k) al ∧ Below w.heap.size w wr ∧ w2.heap.size ≤ wr.heap.size) (fun i _ => m - (intOf i).toNat)
  case atStart => exact ⟨0, al, Nat.zero_le _, rfl, Hrow5.out, Hrs5.out, Hcs6.out, Hbl5.out, hw25⟩
  case round =>
    obtain ⟨k, bl, hk, rfl, hbk, hrs, hst, hbe, hsz⟩ := hrel
    have Hbk := Lib.hid hbk
    have Hrs := Lib.hid hrs
    have Hst := Lib.hid hst
    have Hbe := Lib.hid hbe
    obtain ⟨_, _, _, f40⟩ := nrow_at (o := 0) Hfv.out (rangeAt_row hbk)
    simp only [Nat.zero_add] at f40
    rw [Hlen.out, ← Hm.out] at f40
    clear hbk hrs hst hbe
    by_cases hlt : k < m
    · have hd : ∃ e, d = e + 1 := by
        cases d with
        | zero => exfalso; have h0 : n.kids = [] := Hn.out.kids; have := Hm.out; rw [h0] at this; simp at this; omega
        | succ e => exact ⟨e, rfl⟩
      obtain ⟨d', hd⟩ := hd
      have Ihe := Lib.hid (Ih.out d' hd)
      have Hd := Lib.hid (show d - 1 = d' by omega)
      have hk1 : k < n.kids.length := by rw [← Hm.out]; exact hlt
      have hlen := Hst.out.len
      have hkb : k < bl.length := by rw [← Hst.out.nodes.1, hlen]; exact hlt
      obtain ⟨⟨ax, cx⟩, hax⟩ : ∃ y, bl[k]? = some y := ⟨_, List.getElem?_eq_getElem hkb⟩
      obtain ⟨g, off, rfl, _, _⟩ := Hst.out.out.sl.open_ (by have := Hst.out.out.1; omega)
      have hhere := map_here bareN n.kids k hk1
      have hstep := map_step bareN n.kids k hk1
      obtain ⟨x, hx⟩ : ∃ x, x = n.kids[k] := ⟨_, rfl⟩
      rw [← hx] at hhere hstep
      obtain ⟨q1, q2, q3⟩ := Hst.out.kid hhere hax
      have hxp : x.parts ≤ 1000000 := by rw [hx]; have := parts_eq n; have := Hpt.out; exact Nat.le_trans (partsAll_get _) (by omega)
      have Hhs := Lib.hid (And.intro hstep hlen)
      have Hq := Lib.hid (And.intro q2 q3)
      have HL := Lib.hid (row_len (a := ax) (c := cx) q2.vwf)
      have i1 : (0 : Int) ≤ (k : Int) := by omega
      have i2 : (k : Int) < (m : Int) := by omega
      have hBg : B ≠ g := fun e => by have := Hst.out.n3 g (by simp [Value.ownBlock]); omega
      have Hrg := Lib.hid (show wr.drew.rangeAt g (off + k * 41) (x.row ax cx) from q1)
      have HS := Lib.hid (show wr.drew.cell? ⟨B, 40, none⟩ = some (.slice (some ⟨g, off, none⟩) m c') from f40)
      have hbw : B < wr.heap.size := lt_heap Hbk.out
      have hnd := NodeIn.mono (G := fun b => b < wr.heap.size) (Hq.out.1.kept ((Upd.refl (fun _ => False) wr).drew) (fun _ _ => id)) (fun b _ hl => hl)
      rw [Hd.out] at hnd
      have Hcall := Lib.hid (Ihe.out (fun b => b < wr.heap.size) wr.drew x ax cx hnd (fun b hb => hb) hxp)
      clear q1 q2 q3 hhere hstep hx hlen hax hkb hk1 hnd hd Ihe
      go_wp2_with fail
      refine wp_region_noPanic ?_
      refine wp_region_held_drew (S := (fun w' => w'.cell? ⟨B, 40, none⟩ = some (.slice (some ⟨g, off, none⟩) m c'))) (by kernel_rfl) HS.out (fun hHeld => ?_)
      refine wpAnyH_take (i := 0) (v := ?_) rfl (by kernel_rfl) (by kernel_rfl) (by kernel_rfl) (fun _ _ _ h => h) (Or.inl ⟨by rfl, ?_⟩) (by assumption) ?_
      rotate_left
      · intro w hSw; (try dsimp only at hSw); go_simp; (try with_reducible rfl)
      (try simp only [List.getElem_toArray, List.getElem_cons_succ, List.getElem_cons_zero, Act.put, List.setIfInBounds_toArray, List.set_cons_zero, List.set_cons_succ])
      refine wpAnyH_take (i := 1) (v := ?_) rfl (by kernel_rfl) (by kernel_rfl) (by kernel_rfl) (fun _ _ _ h => h) (Or.inl ⟨by rfl, ?_⟩) (by assumption) ?_
      rotate_left
      · intro w hSw; (try dsimp only at hSw); go_simp; (try with_reducible rfl)
      (try simp only [List.getElem_toArray, List.getElem_cons_succ, List.getElem_cons_zero, Act.put, List.setIfInBounds_toArray, List.set_cons_zero, List.set_cons_succ])
      refine wpAnyH_take (i := 2) (v := ?_) rfl (by kernel_rfl) (by kernel_rfl) (by kernel_rfl) (fun _ _ _ h => h) (Or.inl ⟨by rfl, ?_⟩) (by assumption) ?_
      rotate_left
      · intro w hSw; (try dsimp only at hSw); go_simp; (try with_reducible rfl)
      (try simp only [List.getElem_toArray, List.getElem_cons_succ, List.getElem_cons_zero, Act.put, List.setIfInBounds_toArray, List.set_cons_zero, List.set_cons_succ])
      refine wpAnyH_take (i := 3) (v := ?_) rfl (by kernel_rfl) (by kernel_rfl) (by kernel_rfl) (fun _ _ _ h => h) (Or.inl ⟨by rfl, ?_⟩) (by assumption) ?_
      rotate_left
      · intro w hSw; (try dsimp only at hSw); go_simp; (try with_reducible rfl)
      (try simp only [List.getElem_toArray, List.getElem_cons_succ, List.getElem_cons_zero, Act.put, List.setIfInBounds_toArray, List.set_cons_zero, List.set_cons_succ])
      refine wpAnyH_take (i := 4) (v := ?_) rfl (by kernel_rfl) (by kernel_rfl) (by kernel_rfl) (fun _ _ _ h => h) (Or.inl ⟨by rfl, ?_⟩) (by assumption) ?_
      rotate_left
      · intro w hSw; (try dsimp only at hSw); go_simp; (try with_reducible rfl)
      (try simp only [List.getElem_toArray, List.getElem_cons_succ, List.getElem_cons_zero, Act.put, List.setIfInBounds_toArray, List.set_cons_zero, List.set_cons_succ])
      refine wpAnyH_take (i := 5) (v := ?_) rfl (by kernel_rfl) (by kernel_rfl) (by kernel_rfl) (fun _ _ _ h => h) (Or.inl ⟨by rfl, ?_⟩) (by assumption) ?_
      rotate_left
      · intro w hSw; (try dsimp only at hSw); go_simp; (try with_reducible rfl)
      (try simp only [List.getElem_toArray, List.getElem_cons_succ, List.getElem_cons_zero, Act.put, List.setIfInBounds_toArray, List.set_cons_zero, List.set_cons_succ])
      refine wpAnyH_take (i := 6) (v := ?_) rfl (by kernel_rfl) (by kernel_rfl) (by kernel_rfl) (fun _ _ _ h => h) (Or.inl ⟨by rfl, ?_⟩) (by assumption) ?_
      rotate_left
      · intro w hSw; (try dsimp only at hSw); go_simp; (try with_reducible rfl)
      (try simp only [List.getElem_toArray, List.getElem_cons_succ, List.getElem_cons_zero, Act.put, List.setIfInBounds_toArray, List.set_cons_zero, List.set_cons_succ])
      refine wpAnyH_ready (rs := [7]) (by kernel_rfl) (by simp) ?_
      refine AllReadyH.cons rfl (fun K hK => ?_) AllReadyH.nil
      rw [if_pos (by rfl)]
      refine wp_load_mid 30 (.tmp 21) rfl g (off + k * 41) rfl (x.row ax cx) _ Hrg.out Try.underlying30 rfl (by rw [HL.out]; kernel_rfl) ?_
      refine hK.out _ _ HS.out (fun hHeld => ?_)
      clear hK K
      (try simp only [List.getElem_toArray, List.getElem_cons_succ, List.getElem_cons_zero, Act.put, List.setIfInBounds_toArray, List.set_cons_zero, List.set_cons_succ])
      refine wpAnyH_ready (rs := [8]) (by kernel_rfl) (by simp) ?_
      refine AllReadyH.cons rfl (fun K hK => ?_) AllReadyH.nil
      go_simp
      refine Hcall.out.mono ?_
      rintro e5 w8 ⟨ay, cy, rfl, hyn, hb8⟩
      have hb8' : Below wr.heap.size wr w8 := below_on (on_drew (Below.refl wr.heap.size wr)) hb8
      have Hput := Lib.hid (Hst.out.put (w5 := w8) hsz hb8' (i := k) (by rw [Hhs.out.2]; exact hlt) cy (by rw [Hd.out]; exact hyn))
      have f48 : w8.cell? ⟨B, 40, none⟩ = some (.slice (some ⟨g, off, none⟩) m c') := (hb8'.cell hbw).trans f40
      have HS8 := Lib.hid f48
      have Ht8 := Lib.hid (show w8.there g (off + k * 41) 41 from fun j hj => by
          obtain ⟨t1, t2⟩ := Hq.out.2 j hj
          have hgw : g < wr.heap.size := Hput.out.2.2.1
          refine ⟨by rw [hb8'.cell hgw]; exact t1, ?_⟩
          have hf : w8.frozen? ⟨g, off + k * 41 + j, none⟩ = wr.frozen? ⟨g, off + k * 41 + j, none⟩ := by unfold World.frozen?; rw [hb8'.block g hgw]
          rw [hf]; exact t2)
      have hys := Lib.hid (show ((bareN x).row ay cy).toArray.size = 41 by rw [List.size_toArray]; exact row_len hyn.vwf)
      obtain ⟨w9, hw9⟩ : ∃ w9, w9 = w8.setCells g (off + k * 41) ((bareN x).row ay cy).toArray.toList := ⟨_, rfl⟩
      have hP := Hput.out
      rw [show w8.setCells g (off + k * 41) ((bareN x).row ay cy) = w9 from hw9.symm, Hhs.out.1] at hP
      have HP := Lib.hid hP
      have HS9 := Lib.hid (show w9.cell? ⟨B, 40, none⟩ = some (.slice (some ⟨g, off, none⟩) m c') from hP.2.1.cell f48 hBg)
      have Hw9 := Lib.hid hw9
      have Hb8 := Lib.hid hb8'
      clear hP hw9 Hput hb8 hb8' Hcall
      (try go_wp2_with fail)
      refine hK.out _ _ HS8.out (fun hHeld => ?_)
      clear hK K
      (try simp only [List.getElem_toArray, List.getElem_cons_succ, List.getElem_cons_zero, Act.put, List.setIfInBounds_toArray, List.set_cons_zero, List.set_cons_succ])
      refine wpAnyH_take (i := 9) (v := ?_) rfl (by kernel_rfl) (by kernel_rfl) (by kernel_rfl) (fun _ _ _ h => h) (Or.inl ⟨by rfl, ?_⟩) (by assumption) ?_
      rotate_left
      · intro w hSw; (try dsimp only at hSw); go_simp; (try with_reducible rfl)
      (try simp only [List.getElem_toArray, List.getElem_cons_succ, List.getElem_cons_zero, Act.put, List.setIfInBounds_toArray, List.set_cons_zero, List.set_cons_succ])
      refine wpAnyH_ready (rs := [10]) (by kernel_rfl) (by simp) ?_
      refine AllReadyH.cons rfl (fun K hK => ?_) AllReadyH.nil
      rw [if_pos (by rfl)]
      refine wp_store_mid 30 (.tmp 24) (.tmp 23) rfl g (off + k * 41) ((bareN x).row ay cy).toArray rfl rfl (by rw [hys.out]; exact Ht8.out) (by rw [hys.out]; kernel_rfl) (all_one (nrow_one _ _ _ _ _ _)) ?_
      rw [← Hw9.out]
      refine hK.out _ _ HS9.out (fun hHeld => ?_)
      clear hK K
      (try simp only [List.getElem_toArray, List.getElem_cons_succ, List.getElem_cons_zero, Act.put, List.setIfInBounds_toArray, List.set_cons_zero, List.set_cons_succ])
      refine wpAnyH_done (by kernel_rfl) ?_ _
      refine NoPanic.normal ?_
      have hu9 : Upd (fun b => b = g) wr w9 := (Upd.below Hb8.out (fun b => b = g)).trans HP.out.2.1
      have hz9 : w.heap.size ≤ g := Nat.le_trans hw2 HP.out.2.2.2
      have Hbk9 := Lib.hid (hu9.at_ Hbk.out hBg)
      have Hrs9 := Lib.hid (hu9.at_ Hrs.out (fun e => by have e' : R = g := e; have := HP.out.2.2.2; omega))
      have Hbe9 := Lib.hid (Hbe.out.upd (Nat.le_refl _) hu9 (fun b hb => by have hb' : b = g := hb; omega))
      have hsz9 : w2.heap.size ≤ w9.heap.size := Nat.le_trans hsz hu9.size
      clear f40 f48 hHeld hu9
      go_wp2_with fail
      go_roundw
      case rel => exact ⟨k + 1, bl.set k (ay, cy), hlt, by go_num, Hbk9.out, Hrs9.out, HP.out.1, Hbe9.out, hsz9⟩
      case measure => simp [intOf]; omega
    · obtain rfl : k = m := by omega
      clear hlt
      have hke : (n.kids.take k).map bareN ++ n.kids.drop k = n.kids.map bareN := by rw [Hm.out, List.take_of_length_le (Nat.le_refl _), List.drop_eq_nil_of_le (Nat.le_refl _), List.append_nil]
      have hs := Hst.out
      rw [hke] at hs
      have Hs := Lib.hid hs
      have Hrow := Lib.hid (rangeAt_row Hbk.out)
      clear hke hs
      go_wp2_with (first | (refine wpList_load_midg (by rfl) 30 (.tmp 1) rfl B 0 rfl ((bareN n).row a' c') _ Hrow.out Try.underlying30 rfl (by rw [hp41.out]; kernel_rfl) ?_) | (refine wpList_store_row rfl 30 (.tmp 2) (.tmp 25) rfl R ((bareN n).row a' c').toArray rfl rfl 30 Z Hrs.out (by rw [hp41s.out]; kernel_rfl) (by rw [hp41s.out, hZs.out]) (all_one (nrow_one _ _ _ _ _ _)) ?_))
      have hset := setRow_heap _ R Z ((bareN n).row a' c').toArray 30 (0, 0) Hrs.out
      refine bodyPost_ret (results_cell_row (P := Try.prog) Try.results94 _ _ R 30 ((bareN n).row a' c').toArray (0, 0) _ rfl hset Try.underlying30 rfl (by rw [hp41s.out]; kernel_rfl)) rfl ⟨a', c', rfl, ⟨Hfv.out, Hfm.out.1, Hfm.out.2, by rw [Hlen.out]; exact Hn.out.ksz, ?_⟩, ?_⟩
      · rw [Hkid.out]
        exact Hs.out.kids hw2 ((Upd.refl (fun b => b < w2.heap.size) wr).setRow R _ hR2) (fun e => by subst e; have h0 : n.kids = [] := Hn.out.kids; rw [h0]; rfl)
      · exact below_setRow Hbe.out hRw _
theorem bare_ok : ∀ (d : Nat) (F : Nat → Prop) (w : World) (n : Nd) (a : Option Addr) (c : Nat), NodeIn w F d n a → (∀ b, F b → b < w.heap.size) → n.parts ≤ 1000000 →
      Calls Try.prog 94 #[.agg (n.row a c).toArray] w fun e' w' => ∃ (a' : Option Addr) (c' : Nat), e' = .returned (.agg ((bareN n).row a' c').toArray) ∧ NodeIn w' (fun b => w.heap.size ≤ b) d (bareN n) a' ∧ Below w.heap.size w w'
  | 0, F, w, n, a, c, hn, hF, hp => bare_step 0 (fun e he => by omega) F w n a c hn hF hp
  | d + 1, F, w, n, a, c, hn, hF, hp => bare_step (d + 1) (fun e he => by
      obtain rfl : d = e := Nat.succ.inj he
      exact bare_ok d) F w n a c hn hF hp
end Go.Proofs.Ythnbinlllmkabaa
