/- The reference's Put and Drop. (Written by gen_refops.py.) -/
import Derived.Test.YthnbinlllmkabaaRefPut
import Derived.Test.YthnbinlllmkabaaPut
import Derived.Test.YthnbinlllmkabaaDepth
namespace Go.Proofs.Ythnbinlllmkabaa
open Go.RowKit
set_option linter.unusedVariables false
set_option linter.unusedSimpArgs false

/-- Between the steps of the reference's Put, Set, Drop. -/
structure OpSt (F : Nat → Prop) (d e : Nat) (w wr : World) (n s : Nd) (a sa : Option Addr) (c : Nat) (BN B2 B3 R : Nat) (O2 O3 : Obj) (Z : Array Value) : Prop where
  bn : wr.heap[BN]? = some (.cells (n.row a c).toArray 30 (0, 0))
  o2 : wr.heap[B2]? = some O2
  o3 : wr.heap[B3]? = some O3
  room : wr.heap[R]? = some (.cells Z 30 (0, 0))
  hn : NodeIn wr F d n a
  hs : NodeIn wr F e s sa
  low : Below w.heap.size w wr
theorem OpSt.below {F : Nat → Prop} {d e : Nat} {w wr w5 : World} {n s : Nd} {a sa : Option Addr} {c BN B2 B3 R : Nat} {O2 O3 : Obj} {Z : Array Value} (h : OpSt F d e w wr n s a sa c BN B2 B3 R O2 O3 Z) (hb : Below wr.heap.size wr w5) : OpSt F d e w w5 n s a sa c BN B2 B3 R O2 O3 Z :=
  ⟨(hb.block BN (lt_heap h.bn)).trans h.bn, (hb.block B2 (lt_heap h.o2)).trans h.o2, (hb.block B3 (lt_heap h.o3)).trans h.o3, (hb.block R (lt_heap h.room)).trans h.room, h.hn.below hb, h.hs.below hb, below_on h.low hb⟩
/-- What the reference's Put answers; its Drop. -/
def putRes (n : Nd) (p : ByteArray) (s : Nd) : Nd := if putErr n p s = 0 then (putR n (pieces p) s).named ⟨#[]⟩ else noNd
def dropRes (n : Nd) (p : ByteArray) : Nd := if dropErr n p = 0 then (putR n (pieces p) noNd).named ⟨#[]⟩ else noNd
theorem pieces_255 {p : ByteArray} (h : splitErr p 64 = 0) : ∀ x ∈ pieces p, x.size ≤ 255 := fun x hx => okName_size (by unfold nameErr; rw [(splitErr_zero h).2 x hx]; rfl)
set_option maxHeartbeats 8000000 in
set_option maxRecDepth 100000 in
theorem refPut_ok (F : Nat → Prop) (d e : Nat) (w : World) (n s : Nd) (p : ByteArray) (a sa : Option Addr) (c sc : Nat) (hn : NodeIn w F d n a) (hs : NodeIn w F e s sa) (hF : ∀ b, F b → b < w.heap.size) (hpt : n.parts ≤ 1000000) (hsp : s.parts ≤ 1000000) (hp : p.size ≤ 1000000000) (hq : (putR n (pieces p) s).parts ≤ 1000000) :
    Calls Try.prog 36 #[.agg (n.row a c).toArray, .string p, .agg (s.row sa sc).toArray] w fun e' w' => ∃ (a' : Option Addr) (c' : Nat), e' = .returned (.tuple #[.agg ((putRes n p s).row a' c').toArray, .int .i64 (putErr n p s)]) ∧ NodeIn w' (fun b => w.heap.size ≤ b) (d + 64 + e) (putRes n p s) a' ∧ Below w.heap.size w w' := by
  have h41 := Lib.hid (row_len (a := a) (c := c) hn.vwf)
  have s41 := Lib.hid (row_len (a := sa) (c := sc) hs.vwf)
  go_enter Try.func36, Try.ntmps36
  go_upto_region 1 with fail
  obtain ⟨hb3, hb5, hres, hbl, hsz⟩ := made3 w (.cells (n.row a c).toArray 30) (.cells (s.row sa sc).toArray 30) (.cells #[.string ⟨#[]⟩, .int .i64 0, .int .i64 0, .int .i64 0, .int .u8 0, .int .u8 0, .int .u8 0, .int .u8 0, .int .u8 0, .int .u8 0, .int .u8 0, .int .u8 0, .int .u8 0, .int .u8 0, .int .u8 0, .int .u8 0, .int .u8 0, .int .u8 0, .int .u8 0, .int .u8 0, .int .u8 0, .int .u8 0, .int .u8 0, .int .u8 0, .int .u8 0, .int .u8 0, .int .u8 0, .int .u8 0, .int .u8 0, .int .u8 0, .int .u8 0, .int .u8 0, .int .u8 0, .int .u8 0, .int .u8 0, .int .u8 0, .int .i64 0, .int .i64 0, .int .i64 0, .int .i64 0, .slice none 0 0] 30)
  generalize ((w.alloc (.cells (n.row a c).toArray 30)).alloc (.cells (s.row sa sc).toArray 30)).alloc (.cells #[.string ⟨#[]⟩, .int .i64 0, .int .i64 0, .int .i64 0, .int .u8 0, .int .u8 0, .int .u8 0, .int .u8 0, .int .u8 0, .int .u8 0, .int .u8 0, .int .u8 0, .int .u8 0, .int .u8 0, .int .u8 0, .int .u8 0, .int .u8 0, .int .u8 0, .int .u8 0, .int .u8 0, .int .u8 0, .int .u8 0, .int .u8 0, .int .u8 0, .int .u8 0, .int .u8 0, .int .u8 0, .int .u8 0, .int .u8 0, .int .u8 0, .int .u8 0, .int .u8 0, .int .u8 0, .int .u8 0, .int .u8 0, .int .u8 0, .int .i64 0, .int .i64 0, .int .i64 0, .int .i64 0, .slice none 0 0] 30) = w2 at hb3 hb5 hres hbl hsz ⊢
  obtain ⟨Z, hZ⟩ : ∃ Z : Array Value, Z = #[.string ⟨#[]⟩, .int .i64 0, .int .i64 0, .int .i64 0, .int .u8 0, .int .u8 0, .int .u8 0, .int .u8 0, .int .u8 0, .int .u8 0, .int .u8 0, .int .u8 0, .int .u8 0, .int .u8 0, .int .u8 0, .int .u8 0, .int .u8 0, .int .u8 0, .int .u8 0, .int .u8 0, .int .u8 0, .int .u8 0, .int .u8 0, .int .u8 0, .int .u8 0, .int .u8 0, .int .u8 0, .int .u8 0, .int .u8 0, .int .u8 0, .int .u8 0, .int .u8 0, .int .u8 0, .int .u8 0, .int .u8 0, .int .u8 0, .int .i64 0, .int .i64 0, .int .i64 0, .int .i64 0, .slice none 0 0] := ⟨_, rfl⟩
  obtain ⟨BN, hB3⟩ : ∃ B, B = w.heap.size := ⟨_, rfl⟩
  obtain ⟨B5, hB5⟩ : ∃ B, B = w.heap.size + 1 := ⟨_, rfl⟩
  obtain ⟨R, hR⟩ : ∃ B, B = w.heap.size + 1 + 1 := ⟨_, rfl⟩
  have hZs := Lib.hid (show Z.size = 41 by rw [hZ]; rfl)
  rw [← hZ, ← hR] at hres
  rw [← hB5] at hb5
  rw [← hB3] at hb3
  (try rw [World.size_alloc])
  (try rw [World.size_alloc])
  rw [← hR, ← hB5, ← hB3]
  have hwR : w.heap.size ≤ R := by omega
  have hww : w.heap.size ≤ w2.heap.size := by omega
  have St2 := Lib.hid (show OpSt F d e w w2 n s a sa c BN B5 B5 R (.cells (s.row sa sc).toArray 30 (0, 0)) (.cells (s.row sa sc).toArray 30 (0, 0)) Z from ⟨hb3, hb5, hb5, hres, hn.below hbl, hs.below hbl, hbl⟩)
  clear hb3 hb5 hres hbl hsz hZ hB3 hB5 hR hn hs
  obtain ⟨D, hD⟩ : ∃ D : Array Value, D = (noNd.row none 0).toArray := ⟨_, rfl⟩
  have Ds := Lib.hid (show D.size = 41 by rw [hD]; rfl)
  have Do := Lib.hid (show D.all (·.oneCell') = true by rw [hD]; exact all_one (nrow_one _ _ _ _ _ _))
  have Hbd := Lib.hid (fun w => bld_noNd w)
  rw [← hD] at Hbd
  have HD := Lib.hid hD
  clear hD
  by_cases h0 : splitErr p 64 = 0
  rotate_left
  · have hc := refSplit_bad w2 p 64 (by decide) hp h0
    have hE : (splitErr p 64 != 0) = true := by rw [bne_iff_ne]; exact h0
    have hpe : putErr n p s = splitErr p 64 := by unfold putErr; rw [if_pos h0]
    obtain ⟨E, hEe⟩ : ∃ E, E = splitErr p 64 := ⟨_, rfl⟩
    rw [← hEe] at hc hE hpe h0
    have Hc := Lib.hid hc
    have hpr : putRes n p s = noNd := by unfold putRes; rw [hpe, if_neg h0]
    clear hc hEe h0
    go_wp2_with fail
    refine Hc.out.mono ?_
    rintro e3 w3 ⟨rfl, hb3⟩
    have St3 := Lib.hid (St2.out.below hb3)
    clear hb3 Hc
    have He := Lib.hid (And.intro (hpe) (hpr))
    go_wp2_with (first | (refine wpList_build_eq (by rfl) 30 #[] rfl #[] (by kernel_rfl) (.agg D) (Hbd.out _) ?_) | (refine wpList_store_rowg rfl 30 (.tmp 6) (.tmp 17) rfl R D rfl rfl 30 Z St3.out.room (by rw [Ds.out]; kernel_rfl) (by rw [Ds.out, hZs.out]) Do.out ?_))
    intro wz hrz huz
    go_wp2
    refine bodyPost_ret (results_row_tmp (P := Try.prog) Try.results36 _ _ R 30 D (0, 0) _ rfl hrz Try.underlying30 rfl (by rw [Ds.out]; kernel_rfl) (.int .i64 E) rfl) rfl ⟨none, 0, by rw [HD.out, He.out.1, He.out.2], by rw [He.out.2]; exact noNd_in _ _, St3.out.low.upd (Nat.le_refl _) huz (fun b hb => by omega)⟩
  · have hc := refSplit_ok w2 p 64 (by decide) hp h0
    have Hc := Lib.hid hc
    have hl64 := (splitErr_zero h0).1
    have Hx := Lib.hid (pieces_255 h0)
    clear hc
    go_wp2_with fail
    refine Hc.out.mono ?_
    rintro e3 w3 ⟨nl, al, cl, rfl, hnl, hown, hb3, hfr⟩
    obtain ⟨L, hL⟩ : ∃ L, L = pieces p := ⟨_, rfl⟩
    have HL := Lib.hid hL
    rw [← hL] at hnl hown hl64 Hx
    have hcap := hown.cap_le
    have Hown := Lib.hid hown
    have hnl64 : nl ≤ 64 := by omega
    have St3 := Lib.hid (St2.out.below hb3)
    have hw3 : w.heap.size ≤ w3.heap.size := Nat.le_trans hww hb3.size
    have Habove := Lib.hid (refAbove_ok F d w3 n a c L al nl cl St3.out.hn (fun b hb => Nat.lt_of_lt_of_le (hF b hb) hw3) hpt hown.sl hnl (by omega))
    have Hnl := Lib.hid hnl
    clear hown hfr hb3 hL Hc hnl
    go_wp2_with (refine wpList_load_midg (by rfl) 30 (.tmp 3) rfl BN 0 rfl (n.row a c) _ (rangeAt_row St3.out.bn) Try.underlying30 rfl (by rw [h41.out]; kernel_rfl) ?_)
    refine Habove.out.mono ?_
    rintro e4 w4 ⟨rfl, hb4⟩
    have St4 := Lib.hid (St3.out.below hb4)
    have Hown4 := Lib.hid (Hown.out.kept (Upd.below hb4 (fun _ => False)) (fun _ _ => id))
    have hw4 : w.heap.size ≤ w4.heap.size := Nat.le_trans hw3 hb4.size
    clear hb4 Habove Hown
    cases hw : wayOf n L with
    | false =>
      have hpe : putErr n p s = 44 := by unfold putErr; rw [if_neg (by simp [h0]), ← HL.out, hw]; rfl
      have hpr : putRes n p s = noNd := by unfold putRes; rw [hpe]; rfl
      clear hw h0
      have He := Lib.hid (And.intro (hpe) (hpr))
      go_wp2_with (first | (refine wpList_build_eq (by rfl) 30 #[] rfl #[] (by kernel_rfl) (.agg D) (Hbd.out _) ?_) | (refine wpList_store_rowg rfl 30 (.tmp 6) (.tmp 23) rfl R D rfl rfl 30 Z St4.out.room (by rw [Ds.out]; kernel_rfl) (by rw [Ds.out, hZs.out]) Do.out ?_))
      intro wz hrz huz
      go_wp2
      refine bodyPost_ret (results_row_tmp (P := Try.prog) Try.results36 _ _ R 30 D (0, 0) _ rfl hrz Try.underlying30 rfl (by rw [Ds.out]; kernel_rfl) (.int .i64 44) rfl) rfl ⟨none, 0, by rw [HD.out, He.out.1, He.out.2], by rw [He.out.2]; exact noNd_in _ _, St4.out.low.upd (Nat.le_refl _) huz (fun b hb => by omega)⟩
    | true =>
      have Hdp := Lib.hid (refDepth_ok F e w4 s sa sc St4.out.hs hsp)
      obtain ⟨ds, hds⟩ : ∃ ds, ds = s.dep := ⟨_, rfl⟩
      rw [← hds] at Hdp
      have hdl : ds ≤ 1000000 := by rw [hds]; exact Nat.le_trans (Nat.le_trans (Nat.le_of_succ_le (dep_le_cnt s)) (cnt_le_parts s)) hsp
      have z1 : IntKind.i64.wrap ((nl : Int) + (ds : Int)) = (nl : Int) + (ds : Int) := IntWalk.i64_in _ (by omega)
      go_wp2_with (refine wpList_load_midg (by rfl) 30 (.tmp 5) rfl B5 0 rfl (s.row sa sc) _ (rangeAt_row St4.out.o2) Try.underlying30 rfl (by rw [s41.out]; kernel_rfl) ?_)
      refine Hdp.out.mono ?_
      rintro e5 w5 ⟨rfl, hb5⟩
      have St5 := Lib.hid (St4.out.below hb5)
      have Hown5 := Lib.hid (Hown4.out.kept (Upd.below hb5 (fun _ => False)) (fun _ _ => id))
      have hw5 : w.heap.size ≤ w5.heap.size := Nat.le_trans hw4 hb5.size
      clear hb5 Hdp Hown4
      by_cases h43 : 64 < nl + ds
      · have z2 : (64 : Int) < (nl : Int) + (ds : Int) := by omega
        have z3 : decide ((64 : Int) < (nl : Int) + (ds : Int)) = true := decide_eq_true z2
        have hpe : putErr n p s = 43 := by unfold putErr; rw [if_neg (by simp [h0]), ← HL.out, hw, if_neg (by simp), if_pos (by rw [Hnl.out, ← hds]; exact h43)]
        have hpr : putRes n p s = noNd := by unfold putRes; rw [hpe]; rfl
        clear hw h0 hds
        have He := Lib.hid (And.intro (hpe) (hpr))
        go_wp2_with (first | (refine wpList_build_eq (by rfl) 30 #[] rfl #[] (by kernel_rfl) (.agg D) (Hbd.out _) ?_) | (refine wpList_store_rowg rfl 30 (.tmp 6) (.tmp 30) rfl R D rfl rfl 30 Z St5.out.room (by rw [Ds.out]; kernel_rfl) (by rw [Ds.out, hZs.out]) Do.out ?_))
        intro wz hrz huz
        go_wp2
        refine bodyPost_ret (results_row_tmp (P := Try.prog) Try.results36 _ _ R 30 D (0, 0) _ rfl hrz Try.underlying30 rfl (by rw [Ds.out]; kernel_rfl) (.int .i64 43) rfl) rfl ⟨none, 0, by rw [HD.out, He.out.1, He.out.2], by rw [He.out.2]; exact noNd_in _ _, St5.out.low.upd (Nat.le_refl _) huz (fun b hb => by omega)⟩
      · have z2 : ¬ ((64 : Int) < (nl : Int) + (ds : Int)) := by omega
        have z3 : decide ((64 : Int) < (nl : Int) + (ds : Int)) = false := decide_eq_false z2
        have hpe : putErr n p s = 0 := by unfold putErr; rw [if_neg (by simp [h0]), ← HL.out, hw, if_neg (by simp), if_neg (by rw [Hnl.out, ← hds]; exact h43)]
        have hpr : putRes n p s = (putR n L s).named ⟨#[]⟩ := by unfold putRes; rw [hpe, if_pos rfl, HL.out]
        have Hres := Lib.hid (And.intro hpe hpr)
        have hq2 : (putR n L s).parts ≤ 1000000 := by rw [HL.out]; exact hq
        clear hw h0 hds hpe hpr
        have Hput := Lib.hid (putR_ok L F d e w5 n s a sa al c sc nl cl St5.out.hn St5.out.hs (fun b hb => Nat.lt_of_lt_of_le (hF b hb) hw5) hpt hsp Hown5.out.sl Hnl.out hcap (by omega) Hx.out)
        go_wp2_with (first | (refine wpList_load_midg (by rfl) 30 (.tmp 3) rfl BN 0 rfl (n.row a c) _ (rangeAt_row St5.out.bn) Try.underlying30 rfl (by rw [h41.out]; kernel_rfl) ?_) | (refine wpList_load_midg (by rfl) 30 (.tmp 5) rfl B5 0 rfl (s.row sa sc) _ (rangeAt_row St5.out.o2) Try.underlying30 rfl (by rw [s41.out]; kernel_rfl) ?_))
        refine Hput.out.mono ?_
        rintro e8 w8 ⟨a8, c8, rfl, hn8, hb8⟩
        have St8 := Lib.hid (St5.out.below hb8)
        have hw8 : w.heap.size ≤ w8.heap.size := Nat.le_trans hw5 hb8.size
        have Hpl := Lib.hid (plain_ok (fun b => b < w8.heap.size) _ w8 (putR n L s) a8 c8 (hn8.mono (fun b _ hl => hl)) (fun b hb => hb) hq2)
        clear hn8 hb8 Hput
        go_wp2_with fail
        refine Hpl.out.mono ?_
        rintro e9 w9 ⟨a9, c9, rfl, hn9, hb9⟩
        have St9 := Lib.hid (St8.out.below hb9)
        obtain ⟨E, hE⟩ : ∃ E : Array Value, E = (((putR n L s).named ⟨#[]⟩).row a9 c9).toArray := ⟨_, rfl⟩
        have Es := Lib.hid (show E.size = 41 by rw [hE, List.size_toArray]; exact row_len hn9.vwf)
        have Eo := Lib.hid (show E.all (·.oneCell') = true by rw [hE]; exact all_one (nrow_one _ _ _ _ _ _))
        have HE := Lib.hid hE
        rw [← hE]
        have Hn9 := Lib.hid (hn9.mono (G := fun b => w8.heap.size ≤ b) (fun b hb _ => hb))
        have hR8 : R < w8.heap.size := lt_heap St8.out.room
        clear hE hn9 hb9 Hpl
        go_wp2_with (refine wpList_store_rowg rfl 30 (.tmp 6) (.tmp 35) rfl R E rfl rfl 30 Z St9.out.room (by rw [Es.out]; kernel_rfl) (by rw [Es.out, hZs.out]) Eo.out ?_)
        intro wz hrz huz
        go_wp2
        refine bodyPost_ret (results_row_tmp (P := Try.prog) Try.results36 _ _ R 30 E (0, 0) _ rfl hrz Try.underlying30 rfl (by rw [Es.out]; kernel_rfl) (.int .i64 0) rfl) rfl ⟨a9, c9, by rw [HE.out, Hres.out.1, Hres.out.2], ?_, St9.out.low.upd (Nat.le_refl _) huz (fun b hb => by omega)⟩
        rw [Hres.out.2]
        exact ((Hn9.out.kept huz (fun b hb e => by have e' : b = R := e; have hb' : w8.heap.size ≤ b := hb; omega)).mono (fun b hb _ => by have hb' : w8.heap.size ≤ b := hb; omega)).deeper (by have := Hnl.out; omega)
set_option maxHeartbeats 8000000 in
set_option maxRecDepth 100000 in
theorem refDrop_ok (F : Nat → Prop) (d : Nat) (w : World) (n : Nd) (p : ByteArray) (a : Option Addr) (c : Nat) (hn : NodeIn w F d n a) (hF : ∀ b, F b → b < w.heap.size) (hpt : n.parts ≤ 1000000) (hkd : n.kinded) (hp : p.size ≤ 1000000000) (hq : (putR n (pieces p) noNd).parts ≤ 1000000) :
    Calls Try.prog 40 #[.agg (n.row a c).toArray, .string p] w fun e' w' => ∃ (a' : Option Addr) (c' : Nat), e' = .returned (.tuple #[.agg ((dropRes n p).row a' c').toArray, .int .i64 (dropErr n p)]) ∧ NodeIn w' (fun b => w.heap.size ≤ b) (d + 64) (dropRes n p) a' ∧ Below w.heap.size w w' := by
  have h41 := Lib.hid (row_len (a := a) (c := c) hn.vwf)
  go_enter Try.func40, Try.ntmps40
  go_upto_region 1 with fail
  have hbx := (Below.heap_alloc (w.alloc (.cells (n.row a c).toArray 30)) (.cells #[.string ⟨#[]⟩, .int .i64 0, .int .i64 0, .int .i64 0, .int .u8 0, .int .u8 0, .int .u8 0, .int .u8 0, .int .u8 0, .int .u8 0, .int .u8 0, .int .u8 0, .int .u8 0, .int .u8 0, .int .u8 0, .int .u8 0, .int .u8 0, .int .u8 0, .int .u8 0, .int .u8 0, .int .u8 0, .int .u8 0, .int .u8 0, .int .u8 0, .int .u8 0, .int .u8 0, .int .u8 0, .int .u8 0, .int .u8 0, .int .u8 0, .int .u8 0, .int .u8 0, .int .u8 0, .int .u8 0, .int .u8 0, .int .u8 0, .int .i64 0, .int .i64 0, .int .i64 0, .int .i64 0, .slice none 0 0] 30) w.heap.size (by simp)).trans (heap_alloc_new w (.cells (n.row a c).toArray 30))
  have hres := heap_alloc_new (w.alloc (.cells (n.row a c).toArray 30)) (.cells #[.string ⟨#[]⟩, .int .i64 0, .int .i64 0, .int .i64 0, .int .u8 0, .int .u8 0, .int .u8 0, .int .u8 0, .int .u8 0, .int .u8 0, .int .u8 0, .int .u8 0, .int .u8 0, .int .u8 0, .int .u8 0, .int .u8 0, .int .u8 0, .int .u8 0, .int .u8 0, .int .u8 0, .int .u8 0, .int .u8 0, .int .u8 0, .int .u8 0, .int .u8 0, .int .u8 0, .int .u8 0, .int .u8 0, .int .u8 0, .int .u8 0, .int .u8 0, .int .u8 0, .int .u8 0, .int .u8 0, .int .u8 0, .int .u8 0, .int .i64 0, .int .i64 0, .int .i64 0, .int .i64 0, .slice none 0 0] 30)
  have hbl := on_alloc (on_alloc (Below.refl _ w) (.cells (n.row a c).toArray 30)) (.cells #[.string ⟨#[]⟩, .int .i64 0, .int .i64 0, .int .i64 0, .int .u8 0, .int .u8 0, .int .u8 0, .int .u8 0, .int .u8 0, .int .u8 0, .int .u8 0, .int .u8 0, .int .u8 0, .int .u8 0, .int .u8 0, .int .u8 0, .int .u8 0, .int .u8 0, .int .u8 0, .int .u8 0, .int .u8 0, .int .u8 0, .int .u8 0, .int .u8 0, .int .u8 0, .int .u8 0, .int .u8 0, .int .u8 0, .int .u8 0, .int .u8 0, .int .u8 0, .int .u8 0, .int .u8 0, .int .u8 0, .int .u8 0, .int .u8 0, .int .i64 0, .int .i64 0, .int .i64 0, .int .i64 0, .slice none 0 0] 30)
  rw [World.size_alloc] at hres
  generalize (w.alloc (.cells (n.row a c).toArray 30)).alloc (.cells #[.string ⟨#[]⟩, .int .i64 0, .int .i64 0, .int .i64 0, .int .u8 0, .int .u8 0, .int .u8 0, .int .u8 0, .int .u8 0, .int .u8 0, .int .u8 0, .int .u8 0, .int .u8 0, .int .u8 0, .int .u8 0, .int .u8 0, .int .u8 0, .int .u8 0, .int .u8 0, .int .u8 0, .int .u8 0, .int .u8 0, .int .u8 0, .int .u8 0, .int .u8 0, .int .u8 0, .int .u8 0, .int .u8 0, .int .u8 0, .int .u8 0, .int .u8 0, .int .u8 0, .int .u8 0, .int .u8 0, .int .u8 0, .int .u8 0, .int .i64 0, .int .i64 0, .int .i64 0, .int .i64 0, .slice none 0 0] 30) = w2 at hbx hres hbl ⊢
  obtain ⟨Z, hZ⟩ : ∃ Z : Array Value, Z = #[.string ⟨#[]⟩, .int .i64 0, .int .i64 0, .int .i64 0, .int .u8 0, .int .u8 0, .int .u8 0, .int .u8 0, .int .u8 0, .int .u8 0, .int .u8 0, .int .u8 0, .int .u8 0, .int .u8 0, .int .u8 0, .int .u8 0, .int .u8 0, .int .u8 0, .int .u8 0, .int .u8 0, .int .u8 0, .int .u8 0, .int .u8 0, .int .u8 0, .int .u8 0, .int .u8 0, .int .u8 0, .int .u8 0, .int .u8 0, .int .u8 0, .int .u8 0, .int .u8 0, .int .u8 0, .int .u8 0, .int .u8 0, .int .u8 0, .int .i64 0, .int .i64 0, .int .i64 0, .int .i64 0, .slice none 0 0] := ⟨_, rfl⟩
  obtain ⟨BN, hB⟩ : ∃ B, B = w.heap.size := ⟨_, rfl⟩
  obtain ⟨R, hR⟩ : ∃ R, R = w.heap.size + 1 := ⟨_, rfl⟩
  have hZs := Lib.hid (show Z.size = 41 by rw [hZ]; rfl)
  rw [← hZ, ← hR] at hres
  rw [← hB] at hbx
  (try rw [World.size_alloc])
  rw [← hR, ← hB]
  have hwR : w.heap.size ≤ R := by omega
  have hww := hbl.size
  have St2 := Lib.hid (show OpSt F d 0 w w2 n noNd a none c BN BN BN R (.cells (n.row a c).toArray 30 (0, 0)) (.cells (n.row a c).toArray 30 (0, 0)) Z from ⟨hbx, hbx, hbx, hres, hn.below hbl, noNd_in _ _, hbl⟩)
  clear hbx hres hbl hZ hB hR hn
  obtain ⟨D, hD⟩ : ∃ D : Array Value, D = (noNd.row none 0).toArray := ⟨_, rfl⟩
  have Ds := Lib.hid (show D.size = 41 by rw [hD]; rfl)
  have Do := Lib.hid (show D.all (·.oneCell') = true by rw [hD]; exact all_one (nrow_one _ _ _ _ _ _))
  have Hbd := Lib.hid (fun w => bld_noNd w)
  rw [← hD] at Hbd
  have HD := Lib.hid hD
  clear hD
  by_cases h0 : splitErr p 64 = 0
  rotate_left
  · have hc := refSplit_bad w2 p 64 (by decide) hp h0
    have hE : (splitErr p 64 != 0) = true := by rw [bne_iff_ne]; exact h0
    have hpe : dropErr n p = splitErr p 64 := by unfold dropErr; rw [if_pos h0]
    obtain ⟨E, hEe⟩ : ∃ E, E = splitErr p 64 := ⟨_, rfl⟩
    rw [← hEe] at hc hE hpe h0
    have Hc := Lib.hid hc
    have hpr : dropRes n p = noNd := by unfold dropRes; rw [hpe, if_neg h0]
    clear hc hEe h0
    go_wp2_with fail
    refine Hc.out.mono ?_
    rintro e3 w3 ⟨rfl, hb3⟩
    have St3 := Lib.hid (St2.out.below hb3)
    clear hb3 Hc
    have He := Lib.hid (And.intro (hpe) (hpr))
    go_wp2_with (first | (refine wpList_build_eq (by rfl) 30 #[] rfl #[] (by kernel_rfl) (.agg D) (Hbd.out _) ?_) | (refine wpList_store_rowg rfl 30 (.tmp 4) (.tmp 17) rfl R D rfl rfl 30 Z St3.out.room (by rw [Ds.out]; kernel_rfl) (by rw [Ds.out, hZs.out]) Do.out ?_))
    intro wz hrz huz
    go_wp2
    refine bodyPost_ret (results_row_tmp (P := Try.prog) Try.results40 _ _ R 30 D (0, 0) _ rfl hrz Try.underlying30 rfl (by rw [Ds.out]; kernel_rfl) (.int .i64 E) rfl) rfl ⟨none, 0, by rw [HD.out, He.out.1, He.out.2], by rw [He.out.2]; exact noNd_in _ _, St3.out.low.upd (Nat.le_refl _) huz (fun b hb => by omega)⟩
  · have hc := refSplit_ok w2 p 64 (by decide) hp h0
    have Hc := Lib.hid hc
    have hl64 := (splitErr_zero h0).1
    have Hx := Lib.hid (pieces_255 h0)
    clear hc
    go_wp2_with fail
    refine Hc.out.mono ?_
    rintro e3 w3 ⟨nl, al, cl, rfl, hnl, hown, hb3, hfr⟩
    obtain ⟨L, hL⟩ : ∃ L, L = pieces p := ⟨_, rfl⟩
    have HL := Lib.hid hL
    rw [← hL] at hnl hown hl64 Hx
    have hcap := hown.cap_le
    have Hown := Lib.hid hown
    have hnl64 : nl ≤ 64 := by omega
    have St3 := Lib.hid (St2.out.below hb3)
    have hw3 : w.heap.size ≤ w3.heap.size := Nat.le_trans hww hb3.size
    have Habove := Lib.hid (refAbove_ok F d w3 n a c L al nl cl St3.out.hn (fun b hb => Nat.lt_of_lt_of_le (hF b hb) hw3) hpt hown.sl hnl (by omega))
    have Hnl := Lib.hid hnl
    clear hown hfr hb3 hL Hc hnl
    by_cases hnil : L = []
    · have hnl0 : nl = 0 := by rw [← Hnl.out, hnil]; rfl
      subst hnl0
      have hpe : dropErr n p = 46 := by unfold dropErr; rw [if_neg (by simp [h0]), ← HL.out, if_pos hnil]
      have hpr : dropRes n p = noNd := by unfold dropRes; rw [hpe]; rfl
      clear h0 hnil Habove
      have He := Lib.hid (And.intro (hpe) (hpr))
      go_wp2_with (first | (refine wpList_build_eq (by rfl) 30 #[] rfl #[] (by kernel_rfl) (.agg D) (Hbd.out _) ?_) | (refine wpList_store_rowg rfl 30 (.tmp 4) (.tmp 22) rfl R D rfl rfl 30 Z St3.out.room (by rw [Ds.out]; kernel_rfl) (by rw [Ds.out, hZs.out]) Do.out ?_))
      intro wz hrz huz
      go_wp2
      refine bodyPost_ret (results_row_tmp (P := Try.prog) Try.results40 _ _ R 30 D (0, 0) _ rfl hrz Try.underlying30 rfl (by rw [Ds.out]; kernel_rfl) (.int .i64 46) rfl) rfl ⟨none, 0, by rw [HD.out, He.out.1, He.out.2], by rw [He.out.2]; exact noNd_in _ _, St3.out.low.upd (Nat.le_refl _) huz (fun b hb => by omega)⟩
    have hnl1 : 0 < nl := by rw [← Hnl.out]; exact List.length_pos_iff.2 hnil
    have hnl2 : ((nl : Int) == 0) = false := beq_f (by omega)
    have Hnil := Lib.hid hnil
    clear hnil
    go_wp2_with (refine wpList_load_midg (by rfl) 30 (.tmp 2) rfl BN 0 rfl (n.row a c) _ (rangeAt_row St3.out.bn) Try.underlying30 rfl (by rw [h41.out]; kernel_rfl) ?_)
    refine Habove.out.mono ?_
    rintro e4 w4 ⟨rfl, hb4⟩
    have St4 := Lib.hid (St3.out.below hb4)
    have Hown4 := Lib.hid (Hown.out.kept (Upd.below hb4 (fun _ => False)) (fun _ _ => id))
    have hw4 : w.heap.size ≤ w4.heap.size := Nat.le_trans hw3 hb4.size
    clear hb4 Habove Hown
    cases hw : wayOf n L with
    | false =>
      have hpe : dropErr n p = 44 := by unfold dropErr; rw [if_neg (by simp [h0]), ← HL.out, if_neg Hnil.out, hw]; rfl
      have hpr : dropRes n p = noNd := by unfold dropRes; rw [hpe]; rfl
      clear hw h0
      have He := Lib.hid (And.intro (hpe) (hpr))
      go_wp2_with (first | (refine wpList_build_eq (by rfl) 30 #[] rfl #[] (by kernel_rfl) (.agg D) (Hbd.out _) ?_) | (refine wpList_store_rowg rfl 30 (.tmp 4) (.tmp 27) rfl R D rfl rfl 30 Z St4.out.room (by rw [Ds.out]; kernel_rfl) (by rw [Ds.out, hZs.out]) Do.out ?_))
      intro wz hrz huz
      go_wp2
      refine bodyPost_ret (results_row_tmp (P := Try.prog) Try.results40 _ _ R 30 D (0, 0) _ rfl hrz Try.underlying30 rfl (by rw [Ds.out]; kernel_rfl) (.int .i64 44) rfl) rfl ⟨none, 0, by rw [HD.out, He.out.1, He.out.2], by rw [He.out.2]; exact noNd_in _ _, St4.out.low.upd (Nat.le_refl _) huz (fun b hb => by omega)⟩
    | true =>
      have Hsub := Lib.hid (refSub_ok F d w4 n p a c St4.out.hn (fun b hb => Nat.lt_of_lt_of_le (hF b hb) hw4) hpt hkd hp)
      have Hsa := Lib.hid (show subAt n p = subOf n L by unfold subAt; rw [if_pos h0, HL.out])
      go_wp2_with (refine wpList_load_midg (by rfl) 30 (.tmp 2) rfl BN 0 rfl (n.row a c) _ (rangeAt_row St4.out.bn) Try.underlying30 rfl (by rw [h41.out]; kernel_rfl) ?_)
      refine Hsub.out.mono ?_
      rintro e5 w5 ⟨a5, c5, rfl, hn5, hb5⟩
      have St5 := Lib.hid (St4.out.below hb5)
      have Hown5 := Lib.hid (Hown4.out.kept (Upd.below hb5 (fun _ => False)) (fun _ _ => id))
      have hw5 : w.heap.size ≤ w5.heap.size := Nat.le_trans hw4 hb5.size
      have Hn5 := Lib.hid hn5
      obtain ⟨so, hso⟩ : ∃ so, so = (subAt n p).isSome := ⟨_, rfl⟩
      obtain ⟨sN, hsN⟩ : ∃ sN, sN = subN n p := ⟨_, rfl⟩
      rw [← hsN] at Hn5
      rw [← hso, ← hsN]
      obtain ⟨A, hA⟩ : ∃ A : Array Value, A = (sN.row a5 c5).toArray := ⟨_, rfl⟩
      have As := Lib.hid (show A.size = 41 by rw [hA, List.size_toArray]; exact row_len Hn5.out.vwf)
      have Ao := Lib.hid (show A.all (·.oneCell') = true by rw [hA]; exact all_one (nrow_one _ _ _ _ _ _))
      have HA := Lib.hid hA
      rw [← hA]
      have Hso := Lib.hid hso
      have HsN := Lib.hid hsN
      clear hA hn5 hb5 Hsub Hown4 hso hsN
      cases hsb : subOf n L with
      | none =>
        have hpe : dropErr n p = 45 := by unfold dropErr; rw [if_neg (by simp [h0]), ← HL.out, if_neg Hnil.out, hw, hsb]; rfl
        have hpr : dropRes n p = noNd := by unfold dropRes; rw [hpe]; rfl
        have hso0 : so = false := by rw [Hso.out, Hsa.out, hsb]; rfl
        subst hso0
        clear hw h0 hsb
        go_wp2_with (refine wpList_store_fresh rfl 30 _ _ rfl A rfl rfl (by rw [As.out]; kernel_rfl) (by rw [As.out]; rfl) Ao.out ?_)
        intro w6 hs6 hr6 hb6
        have St6 := Lib.hid (St5.out.below hb6)
        clear hs6 hr6 hb6
        have He := Lib.hid (And.intro (hpe) (hpr))
        go_wp2_with (first | (refine wpList_build_eq (by rfl) 30 #[] rfl #[] (by kernel_rfl) (.agg D) (Hbd.out _) ?_) | (refine wpList_store_rowg rfl 30 (.tmp 4) (.tmp 36) rfl R D rfl rfl 30 Z St6.out.room (by rw [Ds.out]; kernel_rfl) (by rw [Ds.out, hZs.out]) Do.out ?_))
        intro wz hrz huz
        go_wp2
        refine bodyPost_ret (results_row_tmp (P := Try.prog) Try.results40 _ _ R 30 D (0, 0) _ rfl hrz Try.underlying30 rfl (by rw [Ds.out]; kernel_rfl) (.int .i64 45) rfl) rfl ⟨none, 0, by rw [HD.out, He.out.1, He.out.2], by rw [He.out.2]; exact noNd_in _ _, St6.out.low.upd (Nat.le_refl _) huz (fun b hb => by omega)⟩
      | some k =>
        have hpe : dropErr n p = 0 := by unfold dropErr; rw [if_neg (by simp [h0]), ← HL.out, if_neg Hnil.out, hw, hsb]; rfl
        have hpr : dropRes n p = (putR n L noNd).named ⟨#[]⟩ := by unfold dropRes; rw [hpe, if_pos rfl, HL.out]
        have hso0 : so = true := by rw [Hso.out, Hsa.out, hsb]; rfl
        have Hres := Lib.hid (And.intro hpe hpr)
        have hq2 : (putR n L noNd).parts ≤ 1000000 := by rw [HL.out]; exact hq
        subst hso0
        clear hw h0 hsb hpe hpr
        go_wp2_with (refine wpList_store_fresh rfl 30 _ _ rfl A rfl rfl (by rw [As.out]; kernel_rfl) (by rw [As.out]; rfl) Ao.out ?_)
        intro w6 hs6 hr6 hb6
        have St6 := Lib.hid (St5.out.below hb6)
        have Hown6 := Lib.hid (Hown5.out.kept (Upd.below hb6 (fun _ => False)) (fun _ _ => id))
        have hw6 : w.heap.size ≤ w6.heap.size := Nat.le_trans hw5 hb6.size
        have hsp : noNd.parts ≤ 1000000 := by decide
        clear hs6 hr6 hb6 Hown5
        have Hput := Lib.hid (putR_ok L F d 0 w6 n noNd a none al c 0 nl cl St6.out.hn St6.out.hs (fun b hb => Nat.lt_of_lt_of_le (hF b hb) hw6) hpt hsp Hown6.out.sl Hnl.out hcap (by omega) Hx.out)
        have hputE := Hput.out
        rw [← HD.out] at hputE
        replace Hput := Lib.hid hputE
        clear hputE
        go_wp2_with (first | (refine wpList_build_eq (by rfl) 30 #[] rfl #[] (by kernel_rfl) (.agg D) (Hbd.out _) ?_) | (refine wpList_load_midg (by rfl) 30 (.tmp 2) rfl BN 0 rfl (n.row a c) _ (rangeAt_row St6.out.bn) Try.underlying30 rfl (by rw [h41.out]; kernel_rfl) ?_))
        refine Hput.out.mono ?_
        rintro e8 w8 ⟨a8, c8, rfl, hn8, hb8⟩
        have St8 := Lib.hid (St6.out.below hb8)
        have hw8 : w.heap.size ≤ w8.heap.size := Nat.le_trans hw6 hb8.size
        have Hpl := Lib.hid (plain_ok (fun b => b < w8.heap.size) _ w8 (putR n L noNd) a8 c8 (hn8.mono (fun b _ hl => hl)) (fun b hb => hb) hq2)
        clear hn8 hb8 Hput
        go_wp2_with fail
        refine Hpl.out.mono ?_
        rintro e9 w9 ⟨a9, c9, rfl, hn9, hb9⟩
        have St9 := Lib.hid (St8.out.below hb9)
        obtain ⟨E, hE⟩ : ∃ E : Array Value, E = (((putR n L noNd).named ⟨#[]⟩).row a9 c9).toArray := ⟨_, rfl⟩
        have Es := Lib.hid (show E.size = 41 by rw [hE, List.size_toArray]; exact row_len hn9.vwf)
        have Eo := Lib.hid (show E.all (·.oneCell') = true by rw [hE]; exact all_one (nrow_one _ _ _ _ _ _))
        have HE := Lib.hid hE
        rw [← hE]
        have Hn9 := Lib.hid (hn9.mono (G := fun b => w8.heap.size ≤ b) (fun b hb _ => hb))
        have hR8 : R < w8.heap.size := lt_heap St8.out.room
        clear hE hn9 hb9 Hpl
        go_wp2_with (refine wpList_store_rowg rfl 30 (.tmp 4) (.tmp 41) rfl R E rfl rfl 30 Z St9.out.room (by rw [Es.out]; kernel_rfl) (by rw [Es.out, hZs.out]) Eo.out ?_)
        intro wz hrz huz
        go_wp2
        refine bodyPost_ret (results_row_tmp (P := Try.prog) Try.results40 _ _ R 30 E (0, 0) _ rfl hrz Try.underlying30 rfl (by rw [Es.out]; kernel_rfl) (.int .i64 0) rfl) rfl ⟨a9, c9, by rw [HE.out, Hres.out.1, Hres.out.2], ?_, St9.out.low.upd (Nat.le_refl _) huz (fun b hb => by omega)⟩
        rw [Hres.out.2]
        exact ((Hn9.out.kept huz (fun b hb e => by have e' : b = R := e; have hb' : w8.heap.size ≤ b := hb; omega)).mono (fun b hb _ => by have hb' : w8.heap.size ≤ b := hb; omega)).deeper (by have := Hnl.out; omega)
end Go.Proofs.Ythnbinlllmkabaa
