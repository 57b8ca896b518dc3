/- The reference's Set. (Written by gen_refops.py.) -/
import Derived.Test.YthnbinlllmkabaaRefOps
import Derived.Test.YthnbinlllmkabaaPut
import Derived.Test.YthnbinlllmkabaaDepth
namespace Go.Proofs.Ythnbinlllmkabaa
open Go.RowKit
set_option linter.unusedVariables false
set_option linter.unusedSimpArgs false

/-- The error of the reference's Set; its answer. -/
def setErr (n : Nd) (p : ByteArray) (v : Vl) (mm : Mk × Mk) : Int := if splitErr p 64 ≠ 0 then splitErr p 64 else if wayOf n (pieces p) = false then 44 else match subOf n (pieces p) with | none => 45 | some k => ownErr v mm k.kids.length
def setNd (v : Vl) (mm : Mk × Mk) (k : Nd) : Nd := .mk ⟨#[]⟩ v mm k.kids
def setRes (n : Nd) (p : ByteArray) (v : Vl) (mm : Mk × Mk) : Nd := if setErr n p v mm = 0 then (match subOf n (pieces p) with | none => noNd | some k => (putR n (pieces p) (setNd v mm k)).named ⟨#[]⟩) else noNd
theorem made4 (w : World) (A B C E : Obj) : ((((w.alloc A).alloc B).alloc C).alloc E).heap[w.heap.size]? = some A ∧ ((((w.alloc A).alloc B).alloc C).alloc E).heap[w.heap.size + 1]? = some B ∧
    ((((w.alloc A).alloc B).alloc C).alloc E).heap[w.heap.size + 1 + 1]? = some C ∧ ((((w.alloc A).alloc B).alloc C).alloc E).heap[w.heap.size + 1 + 1 + 1]? = some E ∧ Below w.heap.size w ((((w.alloc A).alloc B).alloc C).alloc E) ∧ ((((w.alloc A).alloc B).alloc C).alloc E).heap.size = w.heap.size + 4 := by
  obtain ⟨h1, h2, h3, h4, h5⟩ := made3 w A B C
  have hn := heap_alloc_new (((w.alloc A).alloc B).alloc C) E
  rw [h5] at hn
  refine ⟨(Below.heap_alloc _ E _ (by omega)).trans h1, (Below.heap_alloc _ E _ (by omega)).trans h2, (Below.heap_alloc _ E _ (by omega)).trans h3, hn, on_alloc h4 E, by simp⟩
theorem store_midS {P : Program} {ops : Array Oper} {rest : List Oper} {op : Oper} {a : Act} {w : World} {Q : Exit → Act → World → Prop} (hgd : op.guard = none) (ty : TypeId) (x y : Operand) (ho : op.op = .store ty x y)
    (b o : Nat) (cells : Array Value) (hx : a.eval x = .pointer (some ⟨b, o, none⟩)) (hy : a.eval y = .agg cells)
    (ht : w.there b o cells.size) (hi : (P.info? ty).map (·.size) = some cells.size) (h1 : cells.all (·.oneCell') = true)
    (h : ∀ w', w' = w.setCells b o cells.toList → wpList P ops Q rest (a.put op.dst undef) w') : wpList P ops Q (op :: rest) a w :=
  wpList_store_mid hgd ty x y ho b o cells hx hy ht hi h1 (h _ rfl)
theorem row_newv (w : World) (O : Nat) (s : ByteArray) (u v : Vl) (mm : Mk × Mk) (k : Value) (hu : u.wf) (hv : v.wf) (h : w.heap[O]? = some (.cells (nrow s u mm k).toArray 30 (0, 0))) :
    (w.setCells O 1 v.cells).heap[O]? = some (.cells (nrow s v mm k).toArray 30 (0, 0)) := by
  have h1 := heap_setCells_at v.cells w O 1 (nrow s u mm k) _ h (by rw [nrow_length hu, v.cells_length hv]; omega)
  have e : (nrow s u mm k).take 1 ++ (v.cells ++ (nrow s u mm k).drop (1 + v.cells.length)) = nrow s v mm k := by
    rw [v.cells_length hv]
    show [Value.string s] ++ (v.cells ++ (u.cells ++ (mcells mm ++ [k])).drop 35) = _
    rw [List.drop_left' (u.cells_length hu)]
    rfl
  rw [e] at h1
  exact h1
theorem row_newm (w : World) (O : Nat) (s : ByteArray) (v : Vl) (mm m2 : Mk × Mk) (k : Value) (hv : v.wf) (h : w.heap[O]? = some (.cells (nrow s v mm k).toArray 30 (0, 0))) :
    (w.setCells O 36 (mcells m2)).heap[O]? = some (.cells (nrow s v m2 k).toArray 30 (0, 0)) := by
  have h1 := heap_setCells_at (mcells m2) w O 36 (nrow s v mm k) _ h (by rw [nrow_length hv]; show 36 + 4 ≤ 41; omega)
  have e : (nrow s v mm k).take 36 ++ (mcells m2 ++ (nrow s v mm k).drop (36 + (mcells m2).length)) = nrow s v m2 k := by
    show (Value.string s :: (v.cells ++ (mcells mm ++ [k]))).take (35 + 1) ++ (mcells m2 ++ (Value.string s :: (v.cells ++ (mcells mm ++ [k]))).drop (39 + 1)) = _
    rw [List.take_succ_cons, List.drop_succ_cons, List.take_left' (v.cells_length hv), List.drop_append, v.cells_length hv, List.drop_of_length_le (by rw [v.cells_length hv]; omega)]
    rfl
  rw [e] at h1
  exact h1
theorem OpSt.upd {F : Nat → Prop} {d e : Nat} {w wr w5 : World} {n s : Nd} {a sa : Option Addr} {c BN B2 B3 R O : Nat} {O2 O3 : Obj} {Z : Array Value} (h : OpSt F d e w wr n s a sa c BN B2 B3 R O2 O3 Z) (hu : Upd (fun b => b = O) wr w5) (h1 : BN ≠ O) (h2 : B2 ≠ O) (h3 : B3 ≠ O) (h4 : R ≠ O) (hO : w.heap.size ≤ O) (hF : ∀ b, F b → b ≠ O) : OpSt F d e w w5 n s a sa c BN B2 B3 R O2 O3 Z :=
  ⟨hu.at_ h.bn h1, hu.at_ h.o2 h2, hu.at_ h.o3 h3, hu.at_ h.room h4, h.hn.kept hu hF, h.hs.kept hu hF, h.low.upd (Nat.le_refl _) hu (fun b hb => by have hb' : b = O := hb; omega)⟩
set_option maxHeartbeats 8000000 in
set_option maxRecDepth 100000 in
theorem refSet_ok (F : Nat → Prop) (d : Nat) (w : World) (n : Nd) (p : ByteArray) (v : Vl) (mm : Mk × Mk) (a : Option Addr) (c : Nat) (hn : NodeIn w F d n a) (hv : v.wf) (hmm : mwf mm) (hF : ∀ b, F b → b < w.heap.size) (hpt : n.parts ≤ 1000000) (hkd : n.kinded) (hp : p.size ≤ 1000000000) (hq : ∀ k, subOf n (pieces p) = some k → (putR n (pieces p) (setNd v mm k)).parts ≤ 1000000) (hsp0 : ∀ k, subOf n (pieces p) = some k → (setNd v mm k).parts ≤ 1000000) :
    Calls Try.prog 38 #[.agg (n.row a c).toArray, .string p, .agg v.cells.toArray, .agg (mcells mm).toArray] w fun e' w' => ∃ (a' : Option Addr) (c' : Nat), e' = .returned (.tuple #[.agg ((setRes n p v mm).row a' c').toArray, .int .i64 (setErr n p v mm)]) ∧ NodeIn w' (fun b => w.heap.size ≤ b) (d + 64 + d) (setRes n p v mm) a' ∧ Below w.heap.size w w' := by
  have h41 := Lib.hid (row_len (a := a) (c := c) hn.vwf)
  have v35 := Lib.hid (v.cells_length hv)
  go_enter Try.func38, Try.ntmps38
  go_upto_region 1 with fail
  obtain ⟨hb3, hb5, hb6, hres, hbl, hsz⟩ := made4 w (.cells (n.row a c).toArray 30) (.cells v.cells.toArray 24) (.cells (mcells mm).toArray 27) (.cells #[.string ⟨#[]⟩, .int .i64 0, .int .i64 0, .int .i64 0, .int .u8 0, .int .u8 0, .int .u8 0, .int .u8 0, .int .u8 0, .int .u8 0, .int .u8 0, .int .u8 0, .int .u8 0, .int .u8 0, .int .u8 0, .int .u8 0, .int .u8 0, .int .u8 0, .int .u8 0, .int .u8 0, .int .u8 0, .int .u8 0, .int .u8 0, .int .u8 0, .int .u8 0, .int .u8 0, .int .u8 0, .int .u8 0, .int .u8 0, .int .u8 0, .int .u8 0, .int .u8 0, .int .u8 0, .int .u8 0, .int .u8 0, .int .u8 0, .int .i64 0, .int .i64 0, .int .i64 0, .int .i64 0, .slice none 0 0] 30)
  generalize (((w.alloc (.cells (n.row a c).toArray 30)).alloc (.cells v.cells.toArray 24)).alloc (.cells (mcells mm).toArray 27)).alloc (.cells #[.string ⟨#[]⟩, .int .i64 0, .int .i64 0, .int .i64 0, .int .u8 0, .int .u8 0, .int .u8 0, .int .u8 0, .int .u8 0, .int .u8 0, .int .u8 0, .int .u8 0, .int .u8 0, .int .u8 0, .int .u8 0, .int .u8 0, .int .u8 0, .int .u8 0, .int .u8 0, .int .u8 0, .int .u8 0, .int .u8 0, .int .u8 0, .int .u8 0, .int .u8 0, .int .u8 0, .int .u8 0, .int .u8 0, .int .u8 0, .int .u8 0, .int .u8 0, .int .u8 0, .int .u8 0, .int .u8 0, .int .u8 0, .int .u8 0, .int .i64 0, .int .i64 0, .int .i64 0, .int .i64 0, .slice none 0 0] 30) = w2 at hb3 hb5 hb6 hres hbl hsz ⊢
  obtain ⟨Z, hZ⟩ : ∃ Z : Array Value, Z = #[.string ⟨#[]⟩, .int .i64 0, .int .i64 0, .int .i64 0, .int .u8 0, .int .u8 0, .int .u8 0, .int .u8 0, .int .u8 0, .int .u8 0, .int .u8 0, .int .u8 0, .int .u8 0, .int .u8 0, .int .u8 0, .int .u8 0, .int .u8 0, .int .u8 0, .int .u8 0, .int .u8 0, .int .u8 0, .int .u8 0, .int .u8 0, .int .u8 0, .int .u8 0, .int .u8 0, .int .u8 0, .int .u8 0, .int .u8 0, .int .u8 0, .int .u8 0, .int .u8 0, .int .u8 0, .int .u8 0, .int .u8 0, .int .u8 0, .int .i64 0, .int .i64 0, .int .i64 0, .int .i64 0, .slice none 0 0] := ⟨_, rfl⟩
  obtain ⟨BN, hB3⟩ : ∃ B, B = w.heap.size := ⟨_, rfl⟩
  obtain ⟨BV, hB5⟩ : ∃ B, B = w.heap.size + 1 := ⟨_, rfl⟩
  obtain ⟨BM, hB6⟩ : ∃ B, B = w.heap.size + 1 + 1 := ⟨_, rfl⟩
  obtain ⟨R, hR⟩ : ∃ B, B = w.heap.size + 1 + 1 + 1 := ⟨_, rfl⟩
  have hZs := Lib.hid (show Z.size = 41 by rw [hZ]; rfl)
  rw [← hZ, ← hR] at hres
  rw [← hB6] at hb6
  rw [← hB5] at hb5
  rw [← hB3] at hb3
  (try rw [World.size_alloc])
  (try rw [World.size_alloc])
  (try rw [World.size_alloc])
  rw [← hR, ← hB6, ← hB5, ← hB3]
  have hwR : w.heap.size ≤ R := by omega
  have hww : w.heap.size ≤ w2.heap.size := by omega
  have hvR : BV ≠ R := by omega
  have St2 := Lib.hid (show OpSt F d 0 w w2 n noNd a none c BN BV BM R (.cells v.cells.toArray 24 (0, 0)) (.cells (mcells mm).toArray 27 (0, 0)) Z from ⟨hb3, hb5, hb6, hres, hn.below hbl, noNd_in _ _, hbl⟩)
  clear hb3 hb5 hb6 hres hbl hsz hZ hB3 hB5 hB6 hR hn
  obtain ⟨D, hD⟩ : ∃ D : Array Value, D = (noNd.row none 0).toArray := ⟨_, rfl⟩
  have Ds := Lib.hid (show D.size = 41 by rw [hD]; rfl)
  have Do := Lib.hid (show D.all (·.oneCell') = true by rw [hD]; exact all_one (nrow_one _ _ _ _ _ _))
  have Hbd := Lib.hid (fun w => bld_noNd w)
  rw [← hD] at Hbd
  have HD := Lib.hid hD
  clear hD
  by_cases h0 : splitErr p 64 = 0
  rotate_left
  · have hc := refSplit_bad w2 p 64 (by decide) hp h0
    have hE : (splitErr p 64 != 0) = true := by rw [bne_iff_ne]; exact h0
    have hpe : setErr n p v mm = splitErr p 64 := by unfold setErr; rw [if_pos h0]
    obtain ⟨E, hEe⟩ : ∃ E, E = splitErr p 64 := ⟨_, rfl⟩
    rw [← hEe] at hc hE hpe h0
    have Hc := Lib.hid hc
    have hpr : setRes n p v mm = noNd := by unfold setRes; rw [hpe, if_neg h0]
    clear hc hEe h0
    go_wp2_with fail
    refine Hc.out.mono ?_
    rintro e3 w3 ⟨rfl, hb3⟩
    have St3 := Lib.hid (St2.out.below hb3)
    clear hb3 Hc
    have He := Lib.hid (And.intro (hpe) (hpr))
    go_wp2_with (first | (refine wpList_build_eq (by rfl) 30 #[] rfl #[] (by kernel_rfl) (.agg D) (Hbd.out _) ?_) | (refine wpList_store_rowg rfl 30 (.tmp 8) (.tmp 21) rfl R D rfl rfl 30 Z St3.out.room (by rw [Ds.out]; kernel_rfl) (by rw [Ds.out, hZs.out]) Do.out ?_))
    intro wz hrz huz
    go_wp2
    refine bodyPost_ret (results_row_tmp (P := Try.prog) Try.results38 _ _ R 30 D (0, 0) _ rfl hrz Try.underlying30 rfl (by rw [Ds.out]; kernel_rfl) (.int .i64 E) rfl) rfl ⟨none, 0, by rw [HD.out, He.out.1, He.out.2], by rw [He.out.2]; exact noNd_in _ _, St3.out.low.upd (Nat.le_refl _) huz (fun b hb => by omega)⟩
  · have hc := refSplit_ok w2 p 64 (by decide) hp h0
    have Hc := Lib.hid hc
    have hl64 := (splitErr_zero h0).1
    have Hx := Lib.hid (pieces_255 h0)
    clear hc
    go_wp2_with fail
    refine Hc.out.mono ?_
    rintro e3 w3 ⟨nl, al, cl, rfl, hnl, hown, hb3, hfr⟩
    obtain ⟨L, hL⟩ : ∃ L, L = pieces p := ⟨_, rfl⟩
    have HL := Lib.hid hL
    rw [← hL] at hnl hown hl64 Hx
    have hcap := hown.cap_le
    have Hown := Lib.hid hown
    have hnl64 : nl ≤ 64 := by omega
    have St3 := Lib.hid (St2.out.below hb3)
    have hw3 : w.heap.size ≤ w3.heap.size := Nat.le_trans hww hb3.size
    have Habove := Lib.hid (refAbove_ok F d w3 n a c L al nl cl St3.out.hn (fun b hb => Nat.lt_of_lt_of_le (hF b hb) hw3) hpt hown.sl hnl (by omega))
    have Hnl := Lib.hid hnl
    clear hown hfr hb3 hL Hc hnl
    go_wp2_with (refine wpList_load_midg (by rfl) 30 (.tmp 4) rfl BN 0 rfl (n.row a c) _ (rangeAt_row St3.out.bn) Try.underlying30 rfl (by rw [h41.out]; kernel_rfl) ?_)
    refine Habove.out.mono ?_
    rintro e4 w4 ⟨rfl, hb4⟩
    have St4 := Lib.hid (St3.out.below hb4)
    have Hown4 := Lib.hid (Hown.out.kept (Upd.below hb4 (fun _ => False)) (fun _ _ => id))
    have hw4 : w.heap.size ≤ w4.heap.size := Nat.le_trans hw3 hb4.size
    clear hb4 Habove Hown
    cases hw : wayOf n L with
    | false =>
      have hpe : setErr n p v mm = 44 := by unfold setErr; rw [if_neg (by simp [h0]), ← HL.out, hw]; rfl
      have hpr : setRes n p v mm = noNd := by unfold setRes; rw [hpe]; rfl
      clear hw h0
      have He := Lib.hid (And.intro (hpe) (hpr))
      go_wp2_with (first | (refine wpList_build_eq (by rfl) 30 #[] rfl #[] (by kernel_rfl) (.agg D) (Hbd.out _) ?_) | (refine wpList_store_rowg rfl 30 (.tmp 8) (.tmp 27) rfl R D rfl rfl 30 Z St4.out.room (by rw [Ds.out]; kernel_rfl) (by rw [Ds.out, hZs.out]) Do.out ?_))
      intro wz hrz huz
      go_wp2
      refine bodyPost_ret (results_row_tmp (P := Try.prog) Try.results38 _ _ R 30 D (0, 0) _ rfl hrz Try.underlying30 rfl (by rw [Ds.out]; kernel_rfl) (.int .i64 44) rfl) rfl ⟨none, 0, by rw [HD.out, He.out.1, He.out.2], by rw [He.out.2]; exact noNd_in _ _, St4.out.low.upd (Nat.le_refl _) huz (fun b hb => by omega)⟩
    | true =>
      have Hsub := Lib.hid (refSub_ok F d w4 n p a c St4.out.hn (fun b hb => Nat.lt_of_lt_of_le (hF b hb) hw4) hpt hkd hp)
      have Hsa := Lib.hid (show subAt n p = subOf n L by unfold subAt; rw [if_pos h0, HL.out])
      go_wp2_with (refine wpList_load_midg (by rfl) 30 (.tmp 4) rfl BN 0 rfl (n.row a c) _ (rangeAt_row St4.out.bn) Try.underlying30 rfl (by rw [h41.out]; kernel_rfl) ?_)
      refine Hsub.out.mono ?_
      rintro e5 w5 ⟨a5, c5, rfl, hn5, hb5⟩
      have St5 := Lib.hid (St4.out.below hb5)
      have Hown5 := Lib.hid (Hown4.out.kept (Upd.below hb5 (fun _ => False)) (fun _ _ => id))
      have hw5 : w.heap.size ≤ w5.heap.size := Nat.le_trans hw4 hb5.size
      have Hn5 := Lib.hid hn5
      obtain ⟨so, hso⟩ : ∃ so, so = (subAt n p).isSome := ⟨_, rfl⟩
      obtain ⟨sN, hsN⟩ : ∃ sN, sN = subN n p := ⟨_, rfl⟩
      rw [← hsN] at Hn5
      rw [← hso, ← hsN]
      obtain ⟨A, hA⟩ : ∃ A : Array Value, A = (sN.row a5 c5).toArray := ⟨_, rfl⟩
      have As := Lib.hid (show A.size = 41 by rw [hA, List.size_toArray]; exact row_len Hn5.out.vwf)
      have Ao := Lib.hid (show A.all (·.oneCell') = true by rw [hA]; exact all_one (nrow_one _ _ _ _ _ _))
      have HA := Lib.hid hA
      rw [← hA]
      have Hso := Lib.hid hso
      have HsN := Lib.hid hsN
      clear hA hn5 hb5 Hsub Hown4 hso hsN
      cases hsb : subOf n L with
      | none =>
        have hpe : setErr n p v mm = 45 := by unfold setErr; rw [if_neg (by simp [h0]), ← HL.out, hw, hsb]; rfl
        have hpr : setRes n p v mm = noNd := by unfold setRes; rw [hpe]; rfl
        have hso0 : so = false := by rw [Hso.out, Hsa.out, hsb]; rfl
        subst hso0
        clear hw h0 hsb
        go_wp2_with (refine wpList_store_fresh rfl 30 _ _ rfl A rfl rfl (by rw [As.out]; kernel_rfl) (by rw [As.out]; rfl) Ao.out ?_)
        intro w6 hs6 hr6 hb6
        have St6 := Lib.hid (St5.out.below hb6)
        clear hs6 hr6 hb6
        have He := Lib.hid (And.intro (hpe) (hpr))
        go_wp2_with (first | (refine wpList_build_eq (by rfl) 30 #[] rfl #[] (by kernel_rfl) (.agg D) (Hbd.out _) ?_) | (refine wpList_store_rowg rfl 30 (.tmp 8) (.tmp 36) rfl R D rfl rfl 30 Z St6.out.room (by rw [Ds.out]; kernel_rfl) (by rw [Ds.out, hZs.out]) Do.out ?_))
        intro wz hrz huz
        go_wp2
        refine bodyPost_ret (results_row_tmp (P := Try.prog) Try.results38 _ _ R 30 D (0, 0) _ rfl hrz Try.underlying30 rfl (by rw [Ds.out]; kernel_rfl) (.int .i64 45) rfl) rfl ⟨none, 0, by rw [HD.out, He.out.1, He.out.2], by rw [He.out.2]; exact noNd_in _ _, St6.out.low.upd (Nat.le_refl _) huz (fun b hb => by omega)⟩
      | some k =>
        have hsk : sN = k.named ⟨#[]⟩ := by rw [HsN.out]; unfold subN; rw [Hsa.out, hsb]; rfl
        have hpe0 : setErr n p v mm = ownErr v mm k.kids.length := by unfold setErr; rw [if_neg (by simp [h0]), ← HL.out, hw, hsb]; rfl
        have Hsb := Lib.hid hsb
        have hso0 : so = true := by rw [Hso.out, Hsa.out, hsb]; rfl
        subst hso0
        subst hsk
        clear hw h0 hsb
        go_wp2_with (refine wpList_store_fresh rfl 30 _ _ rfl A rfl rfl (by rw [As.out]; kernel_rfl) (by rw [As.out]; rfl) Ao.out ?_)
        intro w6 hs6 hr6 hb6
        obtain ⟨O, hO⟩ : ∃ O, O = w5.heap.size := ⟨_, rfl⟩
        rw [← hO, HA.out] at hr6
        rw [← hO]
        have hOw : w5.heap.size ≤ O := by omega
        have St6 := Lib.hid (St5.out.below hb6)
        have Hown6 := Lib.hid (Hown5.out.kept (Upd.below hb6 (fun _ => False)) (fun _ _ => id))
        have hw6 : w.heap.size ≤ w6.heap.size := Nat.le_trans hw5 hb6.size
        have HO6 := Lib.hid hr6
        have hO6 : O < w6.heap.size := lt_heap hr6
        have Hs6 := Lib.hid ((Hn5.out.mono (G := fun b => b < w5.heap.size) (fun b _ hl => hl)).below hb6)
        obtain ⟨kl, hkl⟩ : ∃ kl, kl = k.kids.length := ⟨_, rfl⟩
        have hkz : kl ≤ 9223372036854775807 := by rw [hkl]; exact Hn5.out.ksz
        have f40 : w6.cell? ⟨O, 40, none⟩ = some (.slice a5 kl c5) := by
          have h := (nrow_at (o := 0) (show (k.named ⟨#[]⟩).v.wf from Hn5.out.vwf) (rangeAt_row hr6)).2.2.2
          simp only [Nat.zero_add] at h
          rw [h, hkl]; rfl
        have Hownc := Lib.hid (own_any w6 v mm kl hv.1 hkz)
        obtain ⟨oe, hoe⟩ : ∃ oe, oe = ownErr v mm kl := ⟨_, rfl⟩
        rw [← hoe] at Hownc
        rw [← hkl, ← hoe] at hpe0
        have Hkl := Lib.hid hkl
        have hOB : BV ≠ O ∧ BM ≠ O := by have h1 := lt_heap St5.out.o2; have h2 := lt_heap St5.out.o3; omega
        have hOR : R ≠ O := by have h1 := lt_heap St5.out.room; omega
        have hON : BN ≠ O := by have h1 := lt_heap St5.out.bn; omega
        have hOw0 : w.heap.size ≤ O := by omega
        have hown5lt : ∀ b, (Value.slice al nl cl).ownBlock = some b → b < w5.heap.size := fun b hb => Hown5.out.lt hb
        clear hs6 hr6 hb6 hO Hown5 hoe hkl Ao As HA
        go_wp2_with (first | (refine wpList_load_midg (by rfl) 24 (.tmp 6) rfl BV 0 rfl v.cells _ (rangeAt_row St6.out.o2) Try.underlying24 rfl (by rw [v35.out]; kernel_rfl) ?_) | (refine wpList_load_midg (by rfl) 27 (.tmp 7) rfl BM 0 rfl (mcells mm) _ (rangeAt_row St6.out.o3) Try.underlying27 rfl (by kernel_rfl) ?_))
        refine Hownc.out.mono ?_
        rintro e7 w7 ⟨rfl, hb7⟩
        have St7 := Lib.hid (St6.out.below hb7)
        have HO7 := Lib.hid ((hb7.block O hO6).trans HO6.out)
        have Hown7 := Lib.hid (Hown6.out.kept (Upd.below hb7 (fun _ => False)) (fun _ _ => id))
        have Hs7 := Lib.hid (Hs6.out.below hb7)
        have hw7 : w.heap.size ≤ w7.heap.size := Nat.le_trans hw6 hb7.size
        clear hb7 f40 HO6 Hown6 Hs6 Hownc
        by_cases hoe0 : oe = 0
        rotate_left
        · have hE : (oe != 0) = true := by rw [bne_iff_ne]; exact hoe0
          have hpr : setRes n p v mm = noNd := by unfold setRes; rw [hpe0, if_neg hoe0]
          have He := Lib.hid (And.intro (hpe0) (hpr))
          go_wp2_with (first | (refine wpList_build_eq (by rfl) 30 #[] rfl #[] (by kernel_rfl) (.agg D) (Hbd.out _) ?_) | (refine wpList_store_rowg rfl 30 (.tmp 8) (.tmp 45) rfl R D rfl rfl 30 Z St7.out.room (by rw [Ds.out]; kernel_rfl) (by rw [Ds.out, hZs.out]) Do.out ?_))
          intro wz hrz huz
          go_wp2
          refine bodyPost_ret (results_row_tmp (P := Try.prog) Try.results38 _ _ R 30 D (0, 0) _ rfl hrz Try.underlying30 rfl (by rw [Ds.out]; kernel_rfl) (.int .i64 oe) rfl) rfl ⟨none, 0, by rw [HD.out, He.out.1, He.out.2], by rw [He.out.2]; exact noNd_in _ _, St7.out.low.upd (Nat.le_refl _) huz (fun b hb => by omega)⟩
        · subst hoe0
          have hpr : setRes n p v mm = (putR n L (setNd v mm k)).named ⟨#[]⟩ := by unfold setRes; rw [hpe0, if_pos rfl, ← HL.out, Hsb.out]
          have Hres := Lib.hid (And.intro hpe0 hpr)
          have hq2 : (putR n L (setNd v mm k)).parts ≤ 1000000 := by rw [HL.out]; exact hq k (by rw [← HL.out]; exact Hsb.out)
          have hsp : (setNd v mm k).parts ≤ 1000000 := hsp0 k (by rw [← HL.out]; exact Hsb.out)
          have hkv : (k.named ⟨#[]⟩).v.wf := Hn5.out.vwf
          obtain ⟨w8, hw8⟩ : ∃ w8, w8 = w7.setCells O 1 v.cells.toArray.toList := ⟨_, rfl⟩
          have hrow8 := row_newv w7 O ⟨#[]⟩ (k.named ⟨#[]⟩).v v (k.named ⟨#[]⟩).m (.slice a5 (k.named ⟨#[]⟩).kids.length c5) hkv hv HO7.out
          have hu8 := upd_setCells w7 O 1 v.cells
          rw [show w7.setCells O 1 v.cells = w8 from hw8.symm] at hrow8 hu8
          obtain ⟨w9, hw9⟩ : ∃ w9, w9 = w8.setCells O 36 (mcells mm).toArray.toList := ⟨_, rfl⟩
          have hrow9 := row_newm w8 O ⟨#[]⟩ v (k.named ⟨#[]⟩).m mm (.slice a5 (k.named ⟨#[]⟩).kids.length c5) hv hrow8
          have hu9 := upd_setCells w8 O 36 (mcells mm)
          rw [show w8.setCells O 36 (mcells mm) = w9 from hw9.symm] at hrow9 hu9
          have hth7 : w7.there O 1 35 := there_rowR HO7.out 1 35 (by rw [List.size_toArray, row_len hkv]; omega)
          have hth8 : w8.there O 36 4 := there_rowR hrow8 36 4 (by rw [List.size_toArray, nrow_length hv]; omega)
          have v35s := Lib.hid (show v.cells.toArray.size = 35 by rw [List.size_toArray]; exact v35.out)
          have Hth7 := Lib.hid hth7
          have Hth8 := Lib.hid hth8
          obtain ⟨VA, hVA⟩ : ∃ V : Array Value, V = v.cells.toArray := ⟨_, rfl⟩
          obtain ⟨MA, hMA⟩ : ∃ V : Array Value, V = (mcells mm).toArray := ⟨_, rfl⟩
          have VAo := Lib.hid (show VA.all (·.oneCell') = true by rw [hVA]; exact all_one v.cells_one)
          have MAo := Lib.hid (show MA.all (·.oneCell') = true by rw [hMA]; exact all_one (mcells_one mm))
          rw [← hVA] at hw8 v35s
          rw [← hMA] at hw9
          have MAs := Lib.hid (show MA.size = 4 by rw [hMA]; rfl)
          have HVA := Lib.hid hVA
          have HMA := Lib.hid hMA
          have Hw8 := Lib.hid hw8
          have Hw9 := Lib.hid hw9
          have St8 := Lib.hid (St7.out.upd hu8 (fun e => hON e) (fun e => hOB.1 e) (fun e => hOB.2 e) (fun e => hOR e) hOw0 (fun b hb => by have := hF b hb; omega))
          have St9 := Lib.hid (St8.out.upd hu9 (fun e => hON e) (fun e => hOB.1 e) (fun e => hOB.2 e) (fun e => hOR e) hOw0 (fun b hb => by have := hF b hb; omega))
          have Hrow9 := Lib.hid hrow9
          have hu79 := hu8.trans hu9
          have Hs9 := Lib.hid (show NodeIn w9 (fun b => b < w9.heap.size) d (setNd v mm k) a5 from ⟨hv, hmm, by show (0 : Nat) ≤ _; omega, Hs7.out.ksz, KidsIn.mono (fun b _ hl => hl) _ _ _ (KidsIn.kept hu79 (fun b hb e => by have e' : b = O := e; have hb' : b < w5.heap.size := hb; omega) _ _ _ Hs7.out.kids)⟩)
          have Hown9 := Lib.hid (Hown7.out.kept hu79 (fun b hb e => by have e' : b = O := e; have := hown5lt b hb; omega))
          have hw9' : w.heap.size ≤ w9.heap.size := Nat.le_trans hw7 hu79.size
          have s41 := Lib.hid (show ((setNd v mm k).row a5 c5).length = 41 from row_len hv)
          clear hVA hMA hw8 hw9 hrow8 hu8 hrow9 hu9 hth7 hth8 hu79 hkv hpr
          go_upto_region 13 with (first | (refine wpList_load_midg (by rfl) 24 (.tmp 6) rfl BV 0 rfl v.cells _ (rangeAt_row St7.out.o2) Try.underlying24 rfl (by rw [v35.out]; kernel_rfl) ?_; rw [← HVA.out]) | (refine store_midS rfl 24 (.tmp 48) (.tmp 47) rfl O 1 VA rfl rfl (by rw [v35s.out]; exact Hth7.out) (by rw [v35s.out]; kernel_rfl) VAo.out ?_))
          rw [← Hw8.out]
          go_upto_region 14 with (first | (refine wpList_load_midg (by rfl) 27 (.tmp 7) rfl BM 0 rfl (mcells mm) _ (rangeAt_row St8.out.o3) Try.underlying27 rfl (by kernel_rfl) ?_; rw [← HMA.out]) | (refine store_midS rfl 27 (.tmp 50) (.tmp 49) rfl O 36 MA rfl rfl (by rw [MAs.out]; exact Hth8.out) (by rw [MAs.out]; kernel_rfl) MAo.out ?_))
          rw [← Hw9.out]
          have hw9 := hw9'
          have Hput := Lib.hid (putR_ok L (fun b => b < w9.heap.size) d d w9 n (setNd v mm k) a a5 al c c5 nl cl (St9.out.hn.mono (fun b _ hl => hl)) Hs9.out (fun b hb => hb) hpt hsp Hown9.out.sl Hnl.out hcap (by omega) Hx.out)
          go_wp2_with (first | (refine wpList_load_midg (by rfl) 30 (.tmp 12) rfl O 0 rfl ((setNd v mm k).row a5 c5) _ (rangeAt_row Hrow9.out) Try.underlying30 rfl (by rw [s41.out]; kernel_rfl) ?_) | (refine wpList_load_midg (by rfl) 30 (.tmp 4) rfl BN 0 rfl (n.row a c) _ (rangeAt_row St9.out.bn) Try.underlying30 rfl (by rw [h41.out]; kernel_rfl) ?_))
          refine Hput.out.mono ?_
          rintro e8 w8 ⟨a8, c8, rfl, hn8, hb8⟩
          have St8 := Lib.hid (St9.out.below hb8)
          have hw8 : w.heap.size ≤ w8.heap.size := Nat.le_trans hw9 hb8.size
          have Hpl := Lib.hid (plain_ok (fun b => b < w8.heap.size) _ w8 (putR n L (setNd v mm k)) a8 c8 (hn8.mono (fun b _ hl => hl)) (fun b hb => hb) hq2)
          clear hn8 hb8 Hput
          go_wp2_with fail
          refine Hpl.out.mono ?_
          rintro e9 w9 ⟨a9, c9, rfl, hn9, hb9⟩
          have St9 := Lib.hid (St8.out.below hb9)
          obtain ⟨E, hE⟩ : ∃ E : Array Value, E = (((putR n L (setNd v mm k)).named ⟨#[]⟩).row a9 c9).toArray := ⟨_, rfl⟩
          have Es := Lib.hid (show E.size = 41 by rw [hE, List.size_toArray]; exact row_len hn9.vwf)
          have Eo := Lib.hid (show E.all (·.oneCell') = true by rw [hE]; exact all_one (nrow_one _ _ _ _ _ _))
          have HE := Lib.hid hE
          rw [← hE]
          have Hn9 := Lib.hid (hn9.mono (G := fun b => w8.heap.size ≤ b) (fun b hb _ => hb))
          have hR8 : R < w8.heap.size := lt_heap St8.out.room
          clear hE hn9 hb9 Hpl
          go_wp2_with (refine wpList_store_rowg rfl 30 (.tmp 8) (.tmp 55) rfl R E rfl rfl 30 Z St9.out.room (by rw [Es.out]; kernel_rfl) (by rw [Es.out, hZs.out]) Eo.out ?_)
          intro wz hrz huz
          go_wp2
          refine bodyPost_ret (results_row_tmp (P := Try.prog) Try.results38 _ _ R 30 E (0, 0) _ rfl hrz Try.underlying30 rfl (by rw [Es.out]; kernel_rfl) (.int .i64 0) rfl) rfl ⟨a9, c9, by rw [HE.out, Hres.out.1, Hres.out.2], ?_, St9.out.low.upd (Nat.le_refl _) huz (fun b hb => by omega)⟩
          rw [Hres.out.2]
          exact ((Hn9.out.kept huz (fun b hb e => by have e' : b = R := e; have hb' : w8.heap.size ≤ b := hb; omega)).mono (fun b hb _ => by have hb' : w8.heap.size ≤ b := hb; omega)).deeper (by have := Hnl.out; omega)
end Go.Proofs.Ythnbinlllmkabaa
