/- The room's Node and Hold. -/
import Derived.Test.YthnbinlllmkabaaLayN
import Derived.Test.YthnbinlllmkabaaHolds
namespace Go.Proofs.Ythnbinlllmkabaa
open Go.RowKit
set_option linter.unusedVariables false
set_option linter.unusedSimpArgs false

theorem roomNode_ok (d : Nat) (w : World) (lo p : Nat) (ab aa : Option Addr) (cb ca k : Nat) (xb xa : List Value) (hl : LogN w lo p ab aa cb ca k xb xa) (x : Nd) (a : Option Addr) (c : Nat) (hx : NodeIn w (fun b => b < lo) d x a) (hp : partsAll x.kids ≤ 1000000) (hkp : k + partsAll x.kids ≤ 2000000) :
    Calls Try.prog 10 #[.pointer (some ⟨p, 0, none⟩), .agg (x.row a c).toArray] w fun e' w' => ∃ (a' : Option Addr) (c' : Nat), e' = .returned (.agg (x.row a' c').toArray) ∧ Laid w (w.heap.size + 2) w' lo p ab aa xb xa d x.kids a' := by
  have hlt : ∀ b, LogS p ab aa b → b < w.heap.size := fun b hb => hl.lt hb
  refine roomNode_of p (fun b => b < lo) d w x a c (fun w3 a' _ => Laid w (w.heap.size + 2) w3 lo p ab aa xb xa d x.kids a') hx (fun w2 hb hsz => ?_) (fun w3 w4 a' c' h3 hu => ?_)
  · refine (nodes_of p w2 x.kids.length a c (fun w3 a' _ => (∀ b, w.heap.size ≤ b → b < w2.heap.size → w3.heap[b]? = w2.heap[b]?) ∧ Laid w (w.heap.size + 2) w3 lo p ab aa xb xa d x.kids a') ?_)
    refine (lay_ok d w2 lo p ab aa cb ca k xb xa x.kids x.kids.length a c 40 (hl.kept (Upd.below hb fun _ => False) (fun _ _ => id)) (hx.below hb).kids rfl hp hkp (by omega) (by omega)).mono ?_
    rintro e w3 ⟨af, rfl, h⟩
    refine ⟨af, _, rfl, fun b h1 h2 => ?_, by rw [← hsz]; exact h.from hb⟩
    obtain ⟨_, _, _, _, _, _, _, _, _, _, _, _, hu⟩ := h
    exact hu.block b h2 (fun hS => by have := hlt b hS; omega)
  · exact h3.kept hu (fun b hb => by rcases hb with rfl | rfl <;> omega) hlt
theorem Held.below {X : Nat → Prop} {w w' : World} {nb na : List Value} (h : Held w X nb na) (hb : Below w.heap.size w w') : Held w' X nb na := h.kept (Upd.below hb fun _ => False) (fun _ _ _ => id)
theorem LogN.below {w w' : World} {lo p : Nat} {ab aa : Option Addr} {cb ca k : Nat} {xb xa : List Value} (h : LogN w lo p ab aa cb ca k xb xa) (hb : Below w.heap.size w w') : LogN w' lo p ab aa cb ca k xb xa := h.kept (Upd.below hb fun _ => False) (fun _ _ => id)
theorem LogN.alen {w : World} {lo p : Nat} {ab aa : Option Addr} {cb ca k : Nat} {xb xa : List Value} (h : LogN w lo p ab aa cb ca k xb xa) : xa.length = k := by have := h.a.1; omega
/-- One list of the log, as the round reads it. -/
structure HeldAt (w : World) (p : Nat) (ab aa : Option Addr) (cb ca k i : Nat) (g off c n L : Nat) : Prop where
  f22 : w.cell? ⟨p, 22, none⟩ = some (.slice ab k cb)
  f23 : w.cell? ⟨p, 23, none⟩ = some (.slice aa k ca)
  b : ∃ gb o, ab = some ⟨gb, o, none⟩ ∧ w.cell? ⟨gb, o + i, none⟩ = some (.slice (some ⟨g, off, none⟩) L c)
  a : ∃ ga o, aa = some ⟨ga, o, none⟩ ∧ w.cell? ⟨ga, o + i, none⟩ = some (.int .i64 (n : Nat))
  rows : ∀ q, n ≤ q → q < L → w.rangeAt g (off + q * 41) ((plainNd (wordOf (q - n))).row none 0)
theorem HeldAt.of {w : World} {lo p : Nat} {ab aa : Option Addr} {cb ca k : Nat} {xb xa : List Value} {X : Nat → Prop} (h : LogN w lo p ab aa cb ca k xb xa) (hh : Held w X xb xa) (i : Nat) (hi : i < k) :
    ∃ (g off c n L : Nat), n ≤ L ∧ L ≤ 1000040 ∧ HeldAt w p ab aa cb ca k i g off c n L := by
  have hb := h.len
  have ha := h.alen
  have e1 : xb[i]? = some xb[i] := List.getElem?_eq_getElem (by omega)
  have e2 : xa[i]? = some xa[i] := List.getElem?_eq_getElem (by omega)
  obtain ⟨g, off, c, n, r, h1, h2, _, _, h5, h6, h7⟩ := hh.2 i _ _ e1 e2
  rw [h1] at e1
  rw [h2] at e2
  have f0 := cell_of_row w p 22 _ _ _ h.room
  have f1 := cell_of_row w p 23 _ _ _ h.room
  simp at f0 f1
  obtain ⟨gb, ob, rfl, _, hcb⟩ := h.b.sl.open_ (by omega)
  obtain ⟨ga, oa, rfl, _, hca⟩ := h.a.sl.open_ (by omega)
  refine ⟨g, off, c, n, n + r, by omega, by omega, f0, f1, ⟨gb, ob, rfl, hcb i _ e1⟩, ⟨ga, oa, rfl, hca i _ e2⟩, fun q hq hq2 => ?_⟩
  have := h7 (q - n) (by omega)
  rwa [show n + (q - n) = q by omega] at this
theorem HeldAt.below {w w' : World} {p : Nat} {ab aa : Option Addr} {cb ca k i g off c n L : Nat} (h : HeldAt w p ab aa cb ca k i g off c n L) (hb : Below w.heap.size w w') : HeldAt w' p ab aa cb ca k i g off c n L := by
  have hu := Upd.below hb (fun _ => False)
  obtain ⟨f22, f23, ⟨gb, o, h1, h2⟩, ⟨ga, o', h3, h4⟩, h5⟩ := h
  exact ⟨hu.cell f22 id, hu.cell f23 id, ⟨gb, o, h1, hu.cell h2 id⟩, ⟨ga, o', h3, hu.cell h4 id⟩, fun q h1 h2 => rangeAt_kept (h5 q h1 h2) hu id⟩
set_option maxHeartbeats 4000000 in
set_option maxRecDepth 100000 in
theorem holdNodes_ok (w : World) (lo p : Nat) (ab aa : Option Addr) (cb ca k : Nat) (xb xa : List Value) (X : Nat → Prop) (hl : LogN w lo p ab aa cb ca k xb xa) (hh : Held w X xb xa) (hk : k ≤ 4000000) :
    Calls Try.prog 76 #[.pointer (some ⟨p, 0, none⟩)] w fun e w' => e = .returned (.bool true) ∧ Below w.heap.size w w' := by
  have Hl := Lib.hid hl
  have Hh := Lib.hid hh
  clear hl hh
  go_enter Try.func76, Try.ntmps76
  go_wp2_with fail
  go_loopw [3] (fun i wr => ∃ j : Nat, j ≤ k ∧ i = .int .i64 j ∧ Below w.heap.size w wr) (fun i _ => k - (intOf i).toNat)
  case atStart => exact ⟨0, Nat.zero_le _, rfl, Below.refl _ _⟩
  case round =>
    obtain ⟨j, hj, rfl, hbr⟩ := hrel
    have Hbr := Lib.hid hbr
    clear hbr
    by_cases hlt : j < k
    · obtain ⟨g, off, c, n, L, hnL, hL, hat⟩ := HeldAt.of Hl.out Hh.out j hlt
      have Hat := Lib.hid hat
      have hat' := hat.below Hbr.out
      obtain ⟨f0, f1, ⟨gb, ob, rfl, c0⟩, ⟨ga, oa, rfl, c1⟩, _⟩ := hat'
      have i0 : (0 : Int) ≤ (j : Int) := by omega
      have i1 : (j : Int) < (k : Int) := by omega
      clear hat
      go_wp2_with fail
      go_loopw [5] (fun i wq => ∃ q : Nat, n ≤ q ∧ q ≤ L ∧ i = .int .i64 q ∧ Below w.heap.size w wq) (fun i _ => L - (intOf i).toNat)
      case atStart => exact ⟨n, Nat.le_refl _, hnL, rfl, Hbr.out⟩
      case round =>
        rename World => wq
        clear f0 f1 c0 c1
        obtain ⟨q, hnq, hqL, rfl, hbq⟩ := hrel
        have hat' := Hat.out.below hbq
        obtain ⟨f0, f1, ⟨gb', ob', e1, c0⟩, _, hrow⟩ := hat'
        obtain ⟨rfl, rfl⟩ : gb = gb' ∧ ob = ob' := by injection e1 with e1; injection e1 with e1 e2; exact ⟨e1, e2⟩
        have Hbq := Lib.hid hbq
        clear e1 hbq
        by_cases hlt2 : q < L
        · have hr := hrow q hnq hlt2
          obtain ⟨d, hd⟩ : ∃ d, d = q - n := ⟨_, rfl⟩
          rw [← hd] at hr
          have e1 : (q : Int) - (n : Int) = (d : Int) := by omega
          have e2 : IntKind.i64.wrap ((q : Int) - (n : Int)) = (d : Int) := by rw [e1]; exact IntWalk.i64_in _ (by omega)
          have hd2 : d ≤ 2000000 := by omega
          obtain ⟨wd, hwd⟩ : ∃ wd, wd = wordOf d := ⟨_, rfl⟩
          obtain ⟨R, hR⟩ : ∃ R, R = (plainNd (wordOf d)).row none 0 := ⟨_, rfl⟩
          have hRl : R.length = 41 := by rw [hR]; exact row_len (plainNd_wf _)
          have hRA := nrow_at (w := w.alloc (.cells R.toArray 0)) (b := w.heap.size) (o := 0) (plainNd_wf (wordOf d)) (by
            have := rangeAt_row (heap_alloc_new w (.cells R.toArray 0))
            rw [hR] at this; rw [hR]; exact this)
          rw [← hR] at hr
          have Hr := Lib.hid hr
          have HRl := Lib.hid hRl
          have HRs := Lib.hid (show R.toArray.size = 41 by rw [List.size_toArray]; exact hRl)
          have Hone := Lib.hid (show R.toArray.all (·.oneCell') = true by rw [hR]; exact all_one (nrow_one _ _ _ _ _ _))
          have HR := Lib.hid (show ∀ (w : World) (b : Nat) (T : TypeId), w.heap[b]? = some (.cells R.toArray T (0, 0)) → w.cell? ⟨b, 0, none⟩ = some (.string wd) ∧ w.cell? ⟨b, 40, none⟩ = some (.slice none 0 0) from fun w b T hb => by
            have := nrow_at (o := 0) (plainNd_wf (wordOf d)) (s := wordOf d) (k := .slice none 0 0) (m := (plainNd (wordOf d)).m) (by rw [hR] at hb; exact rangeAt_row hb)
            rw [hwd]
            exact ⟨by simpa using this.1, by simpa using this.2.2.2⟩)
          have Hword := Lib.hid (show ∀ w, Calls Try.prog 107 #[.int .i64 (d : Nat)] w fun e w' => e = .returned (.string wd) ∧ w' = w from fun w => by rw [hwd]; exact word_any w d (by omega))
          have i2 : (0 : Int) ≤ (q : Int) := by omega
          have i3 : (q : Int) < (L : Int) := by omega
          clear hr hrow hR hRl hRA hd hwd
          go_wp2_with (first | (refine wpList_load_midg (by rfl) 30 (.tmp 44) rfl g (off + q * 41) rfl R _ Hr.out Try.underlying30 rfl (by rw [HRl.out]; kernel_rfl) ?_) | (refine wpList_store_fresh rfl 30 (.tmp 6) (.tmp 45) rfl R.toArray rfl rfl (by rw [HRs.out]; kernel_rfl) (by rw [HRs.out]; rfl) Hone.out ?_))
          intro w2 hsz2 hrow2 hb2
          obtain ⟨g0, g40⟩ := HR.out w2 _ _ hrow2
          have Hbw := Lib.hid ((Hbq.out.trans (hb2.mono Hbq.out.size)))
          clear hrow2 hb2 f0 f1 c0
          go_wp2_with fail
          go_quiet (exact (Hword.out _).mono fun _ _ ⟨he, hw⟩ => ⟨he, _, hw⟩)
          generalize hw3 : w2.drewN nq = w3
          have Hb3 := Lib.hid (show Below w.heap.size w w3 by rw [← hw3]; exact Hbw.out.upd (Nat.le_refl _) ((Upd.refl (fun _ => False) w2).drewN nq) (fun _ h => h.elim))
          clear hw3 g0 g40
          go_wp2
          go_roundw
          case rel => exact ⟨q + 1, by omega, by omega, by go_num, Hb3.out⟩
          case measure => simp [intOf]; omega
        · go_wp2
          go_roundw
          case rel => exact ⟨j + 1, hlt, by go_num, Hbq.out⟩
          case measure => simp [intOf]; omega
    · have hlr := Hl.out.below Hbr.out
      have f0 := cell_of_row wr p 22 _ _ _ hlr.room
      simp at f0
      obtain rfl : j = k := by omega
      clear hlt hlr
      go_wp2
      go_ret
      exact ⟨rfl, Hbr.out⟩
set_option maxHeartbeats 4000000 in
set_option maxRecDepth 100000 in
theorem hold_ok (w : World) (lo p : Nat) (ab aa : Option Addr) (cb ca k : Nat) (xb xa : List Value) (X : Nat → Prop) (hl : LogN w lo p ab aa cb ca k xb xa) (hh : Held w X xb xa) (hk : k ≤ 4000000) :
    Calls Try.prog 16 #[.pointer (some ⟨p, 0, none⟩)] w fun e w' => e = .returned (.bool true) ∧ Below w.heap.size w w' := by
  have Hl := Lib.hid hl
  have Hr := Lib.hid hl.room
  have Hh := Lib.hid hh
  clear hl hh
  go_enter Try.func16, Try.ntmps16
  go_wp2_with fail
  refine (holdBytes_any w p _ _ Hr.out).mono ?_
  rintro e w' ⟨rfl, hw⟩
  obtain rfl := hw.symm
  go_wp2_with fail
  refine (holdInts_any w p _ _ Hr.out).mono ?_
  rintro e w' ⟨rfl, hw⟩
  obtain rfl := hw.symm
  go_wp2_with fail
  refine (holdTexts_any w p _ _ Hr.out).mono ?_
  rintro e w' ⟨rfl, hw⟩
  obtain rfl := hw.symm
  go_wp2_with fail
  refine (holdChanges_any w p _ _ Hr.out).mono ?_
  rintro e w' ⟨rfl, hw⟩
  obtain rfl := hw.symm
  go_wp2_with fail
  refine (holdCells_any w p _ _ Hr.out).mono ?_
  rintro e w' ⟨rfl, hw⟩
  obtain rfl := hw.symm
  go_wp2_with fail
  refine (holdItems_any w p _ _ Hr.out).mono ?_
  rintro e w' ⟨rfl, hw⟩
  obtain rfl := hw.symm
  go_wp2_with fail
  refine (holdPlaceds_any w p _ _ Hr.out).mono ?_
  rintro e w' ⟨rfl, hw⟩
  obtain rfl := hw.symm
  go_wp2_with fail
  refine (holdRules_any w p _ _ Hr.out).mono ?_
  rintro e w' ⟨rfl, hw⟩
  obtain rfl := hw.symm
  go_wp2_with fail
  refine (holdChunks_any w p _ _ Hr.out).mono ?_
  rintro e w' ⟨rfl, hw⟩
  obtain rfl := hw.symm
  go_wp2_with fail
  refine (holdThings_any w p _ _ Hr.out).mono ?_
  rintro e w' ⟨rfl, hw⟩
  obtain rfl := hw.symm
  go_wp2_with fail
  refine (holdDones_any w p _ _ Hr.out).mono ?_
  rintro e w' ⟨rfl, hw⟩
  obtain rfl := hw.symm
  go_wp2_with fail
  refine (holdNodes_ok w lo p ab aa cb ca k xb xa X Hl.out Hh.out hk).mono ?_
  rintro e w2 ⟨rfl, hb⟩
  have Hb := Lib.hid hb
  have Hr2 := Lib.hid (Hl.out.below hb).room
  clear hb
  go_wp2_with fail
  refine (holdSteps_any w2 p _ _ Hr2.out).mono ?_
  rintro e w' ⟨rfl, hw⟩
  obtain rfl := hw.symm
  go_wp2
  go_ret
  exact ⟨rfl, Hb.out⟩
end Go.Proofs.Ythnbinlllmkabaa
