/- The law TreeChecks answers true. -/
import Derived.Test.YthnbinlllmkabaaLaw1
namespace Go.Proofs.Ythnbinlllmkabaa
open Go.RowKit
set_option linter.unusedVariables false
set_option linter.unusedSimpArgs false

set_option maxHeartbeats 8000000 in
set_option maxRecDepth 100000 in
theorem checks_law (d : Nat) (w : World) (n : Nd) (a : Option Addr) (c : Nat) (hn : NodeIn w (fun b => b < w.heap.size) d n a) :
    Calls Try.prog 3 #[.agg (n.row a c).toArray] w fun e w' => e = .returned (.bool true) ∧ Below w.heap.size w w' := by
  have Hn := Lib.hid hn
  have h41 := Lib.hid (row_len (a := a) (c := c) hn.vwf)
  have h32 := Lib.hid hn.vwf.1
  clear hn
  go_enter Try.func3, Try.ntmps3
  have hbx := heap_alloc_new w (.cells (n.row a c).toArray 30)
  have Hr0 := Lib.hid (rangeAt_row hbx)
  have hb1 := on_alloc (Below.refl _ w) (.cells (n.row a c).toArray 30)
  go_wp2_with (first | (refine wpList_load_midg (by rfl) 30 (.tmp 1) rfl w.heap.size 0 rfl (n.row a c) _ Hr0.out Try.underlying30 rfl (by rw [h41.out]; kernel_rfl) ?_) | (refine wpList_buildSlice_eq (by rfl) 28 1 #[(0, .tmp 19)] rfl #[(0, .agg (n.row a c).toArray)] (by kernel_rfl) _ (build_node n a c h32.out _) ?_))
  clear Hr0
  have hs1 : (w.alloc (.cells (n.row a c).toArray 30)).heap.size = w.heap.size + 1 := World.size_alloc _ _
  generalize w.alloc (.cells (n.row a c).toArray 30) = w1 at hbx hb1 hs1 ⊢
  obtain ⟨b1, hb⟩ : ∃ b1, b1 = w.heap.size := ⟨_, rfl⟩
  rw [← hb] at hbx hs1
  rw [← hb]
  have Hb1 := Lib.hid hb1
  have Hbx := Lib.hid hbx
  have Hb := Lib.hid hb
  have hbl : b1 < w1.heap.size := lt_heap hbx
  clear hb1 hbx hb
  have hb2 := on_alloc (Below.refl _ w1) (.cells (n.row a c).toArray 30)
  have hsl := Sl.made w1 30 41 1 1 (n.row a c).toArray (0, 0) (n.row a c) (List.toList_toArray ..) (by rw [h41.out]) (by omega)
  generalize w1.alloc (.cells (n.row a c).toArray 30) = w2 at hb2 hsl ⊢
  have hn2 : NodeIn w2 (fun b => b < w2.heap.size) d n a := ((Hn.out.below Hb1.out).below hb2).mono (fun b _ hl => hl)
  have hks : KidsIn w2 (fun b => b < w2.heap.size) (d + 1) (some ⟨w1.heap.size, 0, none⟩) [n] := by
    refine KidsIn.ofRows (n := 1) (c := 1) (al := [(a, c)]) (by simpa [rowsOf] using hsl) ⟨rfl, fun i k a0 c0 h1 h2 => ?_⟩ (fun b hb _ => ?_)
    · cases i with
      | zero => simp at h1 h2; obtain ⟨rfl, rfl⟩ := h2; subst h1; exact hn2
      | succ i => simp at h1
    · obtain ⟨g, off, he, hg, _⟩ := hsl.open_ (by rw [h41.out]; omega)
      rw [he] at hb
      have : g = b := by simpa [Value.ownBlock] using hb
      omega
  have Hb2 := Lib.hid (below_on Hb1.out hb2)
  have Hb12 := Lib.hid hb2
  rw [hs1] at hks
  clear hn2 hsl hb2 hs1
  refine (few_any (fun b => b < w2.heap.size) (d + 1) w2 [n] 1 _ 1 hks (fun b hb => hb) rfl (by omega)).mono ?_
  clear hks
  rintro e w3 ⟨bf, rfl, hf, hb3⟩
  cases bf with
  | false =>
    have Hb3 := Lib.hid (below_on Hb2.out hb3)
    clear hf hb3
    go_wp2
    go_ret
    exact ⟨rfl, Hb3.out⟩
  | true =>
    have hp : n.parts ≤ 20000 := by have := hf rfl; simp [partsAll] at this; omega
    have Hp := Lib.hid hp
    have Hbx3 := Lib.hid ((hb3.block b1 (Nat.lt_of_lt_of_le hbl Hb12.out.size)).trans ((Hb12.out.block b1 hbl).trans Hbx.out))
    have Hr3 := Lib.hid (show ∀ o, (w3.alloc o).rangeAt b1 0 (n.row a c) from fun o => rangeAt_row ((Below.heap_alloc w3 o b1 (lt_heap Hbx3.out)).trans Hbx3.out))
    have Hn3 := Lib.hid ((Hn.out.below Hb2.out).below hb3)
    have Hw3 := Lib.hid (show w.heap.size < w3.heap.size by have h1 := Hb2.out.size; have h2 := hb3.size; have := Hb.out; have := Hb12.out.size; omega)
    have Hb3 := Lib.hid (below_on Hb2.out hb3)
    clear hf hb3 hp
    go_wp2_with (refine wpList_load_midg (by rfl) 30 (.tmp 1) rfl b1 0 rfl (n.row a c) _ (Hr3.out _) Try.underlying30 rfl (by rw [h41.out]; kernel_rfl) ?_)
    obtain ⟨p, hp⟩ : ∃ p, p = w3.heap.size := ⟨_, rfl⟩
    refine (roomNode_ok d _ w3.heap.size w3.heap.size none none 0 0 0 [] [] ⟨heap_alloc_new w3 _, Own.nil _ _ _, Own.nil _ _ _, fun g hg => by
      rcases hg with rfl | hg | hg
      · exact Nat.le_refl _
      · simp [ob] at hg
      · simp [ob] at hg⟩ n a c ((Hn3.out.mono (G := fun b => b < w3.heap.size) (fun b hb hl => hl)).below (on_alloc (Below.refl _ _) _)) (by have := Hp.out; have := parts_eq n; omega) (by have := Hp.out; have := parts_eq n; omega)).mono ?_
    rintro e w5 ⟨a', c', rfl, hld⟩
    have h41' := Lib.hid (row_len (a := a') (c := c') Hn.out.vwf)
    have h41s := Lib.hid (show (n.row a' c').toArray.size = 41 by rw [List.size_toArray]; exact row_len Hn.out.vwf)
    have Hld := Lib.hid hld
    clear hld
    go_wp2_with (refine wpList_store_fresh rfl 30 _ _ rfl (n.row a' c').toArray rfl rfl (by rw [h41s.out]; kernel_rfl) (by rw [h41s.out]; rfl) (all_one (nrow_one _ _ _ _ _ _)) ?_)
    intro w6 hs6 hr6 hb6
    obtain ⟨b4, hb4⟩ : ∃ b4, b4 = w5.heap.size := ⟨_, rfl⟩
    rw [← hb4] at hr6
    have hst : ChkSt w w6 b1 b4 p d n a a' c c' := by
      obtain ⟨ab, aa, cb, ca, k, nb, na, h1, h2, h3, h4, h5, h6⟩ := Hld.out
      have hb1p : b1 < p := by have := Hb.out; have := Hw3.out; omega
      have u56 := Upd.below hb6 (fun _ => False)
      have hL : ∀ b, b < p → ¬ LogS w3.heap.size none none b := by
        intro b hb hS
        rcases hS with rfl | hS | hS
        · omega
        · simp [ob] at hS
        · simp [ob] at hS
      subst hp
      refine ⟨u56.at_ (h6.at_ ((Below.heap_alloc w3 _ b1 hb1p).trans Hbx3.out) (hL b1 hb1p)) id, hr6, ?_, ⟨ab, aa, cb, ca, k, nb, na, fun b => w3.heap.size + 1 + 2 ≤ b, h1.kept u56 (fun _ _ => id), ?_, ?_⟩, ?_, ?_⟩
      · exact (((Hn3.out.mono (G := fun b => b < w3.heap.size) (fun b hb hl => hl)).below (on_alloc (Below.refl _ _) _)).kept h6 (fun b hb => hL b hb)).kept u56 (fun _ _ => id)
      · exact (h2.kept u56 (fun _ _ _ => id)).mono (fun b hb _ => by rw [World.size_alloc] at hb; exact hb)
      · have e1 := h1.len
        simp at e1
        have := Hp.out
        have := parts_eq n
        omega
      · refine KidsSep.kept u56 d _ a' _ (fun _ _ => id) (KidsSep.mono d _ _ a' _ (fun b hb => ?_) h5)
        have h1 := hb.1
        rw [World.size_alloc] at h1
        have := hb.2.lt
        omega
      · exact below_on ((on_alloc Hb3.out _).upd (Nat.le_refl _) h6 (fun b hb => by
          rcases hb with rfl | hb | hb
          · have := Hw3.out; omega
          · simp [ob] at hb
          · simp [ob] at hb)) hb6
    rw [← hb4, ← hp]
    have hb1p : b1 < p := by have := Hb.out; have := Hw3.out; omega
    have hp0 : w.heap.size ≤ p := by have := Hw3.out; omega
    have hpb4 : p ≤ b4 := by
      obtain ⟨_, _, _, _, _, _, _, _, _, _, _, _, h6⟩ := Hld.out
      have := h6.size
      rw [World.size_alloc] at this
      omega
    clear hs6 hr6 hb6 hb4 hp
    have hpt : n.parts ≤ 1000000 := Nat.le_trans Hp.out (by decide)
    obtain ⟨P, hP⟩ : ∃ P, P = (chk n ⟨#[]⟩ 0).1 := ⟨_, rfl⟩
    obtain ⟨E, hE⟩ : ∃ E, E = (chk n ⟨#[]⟩ 0).2 := ⟨_, rfl⟩
    have HRef := Lib.hid (show ∀ wx, ChkSt w wx b1 b4 p d n a a' c c' → Calls Try.prog 11 #[.agg (n.row a c).toArray] wx fun e w' => e = .returned (.tuple #[.string P, .int .i64 E]) ∧ Below wx.heap.size wx w' from fun wx h => by rw [hP, hE]; exact refChk_any wx _ d n a c h.src hpt)
    have HChk := Lib.hid (show ∀ wx, ChkSt w wx b1 b4 p d n a a' c c' → Calls Try.prog 12 #[.agg (n.row a' c').toArray] wx fun e w' => e = .returned (.tuple #[.string P, .int .i64 E]) ∧ Below wx.heap.size wx w' from fun wx h => by rw [hP, hE]; exact treeCheck_any wx _ d n a' c' h.node hpt)
    have HBad := Lib.hid (show E ≠ 0 → ∀ wx, ChkSt w wx b1 b4 p d n a a' c c' → Calls Try.prog 13 #[.agg (n.row a' c').toArray] wx fun e w' => e = .returned (.tuple #[.pointer none, .int .i64 E]) ∧ Below wx.heap.size wx w' from fun hz wx h => by
      have := of_bad wx _ d n a' c' h.node hpt (by rw [chkErr, ← hE]; exact hz)
      rw [chkErr, ← hE] at this
      exact this)
    have hb4lt : ∀ wx, ChkSt w wx b1 b4 p d n a a' c c' → ∀ b, (p < b ∧ b < b4) → b < wx.heap.size := fun wx h b hb => by have := lt_heap h.inn; omega
    have HGood := Lib.hid (show E = 0 → ∀ wx, ChkSt w wx b1 b4 p d n a a' c c' → Calls Try.prog 13 #[.agg (n.row a' c').toArray] wx fun e w' => ∃ q, e = .returned (.tuple #[.pointer (some ⟨q, 0, none⟩), .int .i64 0]) ∧ TreeAt w' (fun b => wx.heap.size ≤ b) (d + 1) q n ∧ Below wx.heap.size wx w' from fun hz wx h =>
      of_good wx _ d n a' c' h.node (hb4lt wx h) hpt (by rw [chkErr, ← hE]; exact hz))
    have HAl := Lib.hid (show ∀ (wx : World) (q : Nat) (FT : Nat → Prop) (dt : Nat), NodeIn wx (fun b => b < p) d n a → p ≤ wx.heap.size → TreeAt wx FT dt q n → Calls Try.prog 14 #[.pointer (some ⟨q, 0, none⟩), .agg (n.row a c).toArray] wx fun e w' => e = .returned (.bool true) ∧ Below wx.heap.size wx w' from fun wx q FT dt h1 h2 h3 =>
      alike_true _ FT d dt wx q n a c h1 (fun b hb => by omega) h3 hpt)
    have HSame := Lib.hid (show ∀ wx, ChkSt w wx b1 b4 p d n a a' c c' → Calls Try.prog 15 #[.agg (n.row a' c').toArray, .agg (n.row a c).toArray] wx fun e w' => e = .returned (.bool true) ∧ Below wx.heap.size wx w' from fun wx h => by
      have := sameNode_any d _ _ wx n n a' c' a c h.node h.src
      rw [alike_refl] at this
      exact this)
    have HHold := Lib.hid (show ∀ wx, ChkSt w wx b1 b4 p d n a a' c c' → Calls Try.prog 16 #[.pointer (some ⟨p, 0, none⟩)] wx fun e w' => e = .returned (.bool true) ∧ Below wx.heap.size wx w' from fun wx h => by
      obtain ⟨ab, aa, cb, ca, k, xb, xa, X, h1, h2, h3⟩ := h.log
      exact hold_ok wx p p ab aa cb ca k xb xa X h1 h2 h3)
    have HSpoil := Lib.hid (show ∀ wx, ChkSt w wx b1 b4 p d n a a' c c' → Calls Try.prog 17 #[.slice a' n.kids.length c'] wx fun e w' => e = .returned (.tuple #[]) ∧ Upd (fun b => p < b ∧ b < b4) wx w' ∧ SpoSt w w' b1 b4 p d n a a' c c' from fun wx h => (spoil_ok d _ wx n.kids n.kids.length a' c' h.sep rfl h.src.ksz).mono (by
      rintro e w' ⟨rfl, h1, h2⟩
      exact ⟨rfl, h1, h.spoil hb1p hp0 h1 h2⟩))
    have HOf := Lib.hid (show ∀ wx, ChkSt w wx b1 b4 p d n a a' c c' → Calls Try.prog 13 #[.agg (n.row a' c').toArray] wx fun e w' => ∃ V, e = .returned (.tuple #[V, .int .i64 E]) ∧ VT w' p b4 n V ∧ Below wx.heap.size wx w' from fun wx h => by
      by_cases hz : E = 0
      · refine (HGood.out hz wx h).mono ?_
        rintro e w' ⟨q, rfl, h1, h2⟩
        exact ⟨_, by rw [hz], .inr ⟨q, _, _, rfl, h1, fun b hb => by have := lt_heap h.inn; omega⟩, h2⟩
      · refine (HBad.out hz wx h).mono ?_
        rintro e w' ⟨rfl, h2⟩
        exact ⟨_, rfl, .inl rfl, h2⟩)
    have Hpp := Lib.hid (spoiled_parts n Hp.out)
    have Hpt := Lib.hid hpt
    have Hst := Lib.hid hst
    have Hrb := Lib.hid (rangeAt_row hst.box)
    clear hst hP hE hpt hb4lt
    go_wp2_with (refine wpList_load_midg (by rfl) 30 (.tmp 1) rfl b1 0 rfl (n.row a c) _ Hrb.out Try.underlying30 rfl (by rw [h41.out]; kernel_rfl) ?_)
    refine (HRef.out w6 Hst.out).mono ?_
    rintro e w7 ⟨rfl, hb7⟩
    have Hst7 := Lib.hid (Hst.out.below hb7)
    clear hb7 Hrb
    go_wp2_with fail
    go_loopw [7] (fun i wr => ∃ k : Nat, k ≤ 2 ∧ i = .int .i64 k ∧ ChkSt w wr b1 b4 p d n a a' c c') (fun i _ => 2 - (intOf i).toNat)
    case atStart => exact ⟨0, Nat.zero_le _, rfl, Hst7.out⟩
    case round =>
      obtain ⟨k, hk, rfl, hst⟩ := hrel
      have Hs := Lib.hid hst
      have Hri := Lib.hid (rangeAt_row hst.inn)
      clear hst Hst Hst7
      by_cases hlt : k < 2
      · have i1 : (k : Int) < 2 := by omega
        go_wp2_with (refine wpList_load_midg (by rfl) 30 (.tmp 4) rfl b4 0 rfl (n.row a' c') _ Hri.out Try.underlying30 rfl (by rw [h41'.out]; kernel_rfl) ?_)
        refine (HChk.out wr Hs.out).mono ?_
        rintro e w8 ⟨rfl, hb8⟩
        have Hs8 := Lib.hid (Hs.out.below hb8)
        have Hri8 := Lib.hid (rangeAt_row Hs8.out.inn)
        clear hb8
        go_wp2_with (refine wpList_load_midg (by rfl) 30 (.tmp 4) rfl b4 0 rfl (n.row a' c') _ Hri8.out Try.underlying30 rfl (by rw [h41'.out]; kernel_rfl) ?_)
        by_cases hE : E = 0
        · subst hE
          refine (HGood.out rfl w8 Hs8.out).mono ?_
          rintro e w9 ⟨q, rfl, ht, hb9⟩
          have Ht := Lib.hid ht
          have Hs9 := Lib.hid (Hs8.out.below hb9)
          have Hrb9 := Lib.hid (rangeAt_row Hs9.out.box)
          clear ht hb9
          go_wp2_with (refine wpList_load_midg (by rfl) 30 (.tmp 1) rfl b1 0 rfl (n.row a c) _ Hrb9.out Try.underlying30 rfl (by rw [h41.out]; kernel_rfl) ?_)
          refine (HAl.out w9 q _ _ Hs9.out.src (by have := lt_heap Hs9.out.box; have := lt_heap Hs9.out.log.choose_spec.choose_spec.choose_spec.choose_spec.choose_spec.choose_spec.choose_spec.choose_spec.1.room; omega) Ht.out).mono ?_
          rintro e w10 ⟨rfl, hb10⟩
          have Hs10 := Lib.hid (Hs9.out.below hb10)
          clear hb10
          go_wp2
          go_roundw
          case rel => exact ⟨k + 1, hlt, by go_num, Hs10.out⟩
          case measure => simp [intOf]; omega
        · have hE0 : (E == 0) = false := by rw [beq_eq_false_iff_ne]; exact hE
          refine (HBad.out hE w8 Hs8.out).mono ?_
          rintro e w9 ⟨rfl, hb9⟩
          have Hs9 := Lib.hid (Hs8.out.below hb9)
          clear hb9
          go_wp2
          go_roundw
          case rel => exact ⟨k + 1, hlt, by go_num, Hs9.out⟩
          case measure => simp [intOf]; omega
      · obtain rfl : k = 2 := by omega
        clear hlt
        go_wp2_with (refine wpList_load_midg (by rfl) 30 (.tmp 4) rfl b4 0 rfl (n.row a' c') _ Hri.out Try.underlying30 rfl (by rw [h41'.out]; kernel_rfl) ?_)
        refine (HOf.out wr Hs.out).mono ?_
        rintro e w9 ⟨V, rfl, hv, hb9⟩
        have Hv9 := Lib.hid hv
        have Hs9 := Lib.hid (Hs.out.below hb9)
        have Hri9 := Lib.hid (rangeAt_row Hs9.out.inn)
        have Hrb9 := Lib.hid (rangeAt_row Hs9.out.box)
        clear hv hb9 Hri
        go_wp2_with (first | (refine wpList_load_midg (by rfl) 30 (.tmp 4) rfl b4 0 rfl (n.row a' c') _ Hri9.out Try.underlying30 rfl (by rw [h41'.out]; kernel_rfl) ?_) | (refine wpList_load_midg (by rfl) 30 (.tmp 1) rfl b1 0 rfl (n.row a c) _ Hrb9.out Try.underlying30 rfl (by rw [h41.out]; kernel_rfl) ?_))
        refine (HSame.out w9 Hs9.out).mono ?_
        rintro e w10 ⟨rfl, hb10⟩
        have Hs10 := Lib.hid (Hs9.out.below hb10)
        have Hv10 := Lib.hid (Hv9.out.below hb10)
        clear hb10
        go_wp2_with fail
        refine (HHold.out w10 Hs10.out).mono ?_
        rintro e w11 ⟨rfl, hb11⟩
        have Hs11 := Lib.hid (Hs10.out.below hb11)
        have Hv11 := Lib.hid (Hv10.out.below hb11)
        have f40 : w11.cell? ⟨b4, 40, none⟩ = some (.slice a' n.kids.length c') := by
          have := (nrow_at (o := 0) Hs11.out.src.vwf (rangeAt_row Hs11.out.inn)).2.2.2
          simpa using this
        clear hb11
        go_wp2_with fail
        refine (HSpoil.out w11 Hs11.out).mono ?_
        rintro e w12 ⟨rfl, hu12, hs12⟩
        have Hv12 := Lib.hid (Hv11.out.kept hu12 (fun b hb => hb))
        have Hs12 := Lib.hid hs12
        have Hri12 := Lib.hid (rangeAt_row hs12.inn)
        have H41 := Lib.hid (row_len (a := a') (c := c') hs12.node.vwf)
        have hb4lt : b4 < w12.heap.size := lt_heap hs12.inn
        clear f40 hu12 hs12
        go_wp2_with (refine wpList_load_midg (by rfl) 30 (.tmp 4) rfl b4 0 rfl (n.spoiled.row a' c') _ Hri12.out Try.underlying30 rfl (by rw [H41.out]; kernel_rfl) ?_)
        refine (copy_ok 1 _ w12 n.spoiled a' c' Hs12.out.node (fun b hb => by omega) Hpp.out).mono ?_
        rintro e w13 ⟨a2, c2, rfl, hn13, hb13⟩
        have Hn13 := Lib.hid hn13
        have H412 := Lib.hid (row_len (a := a2) (c := c2) hn13.vwf)
        have H412s := Lib.hid (show (n.spoiled.row a2 c2).toArray.size = 41 by rw [List.size_toArray]; exact row_len hn13.vwf)
        have Hs13 := Lib.hid (Hs12.out.below hb13)
        have Hv13 := Lib.hid (Hv12.out.below hb13)
        clear hn13 hb13
        go_wp2_with (refine wpList_store_fresh rfl 30 _ _ rfl (n.spoiled.row a2 c2).toArray rfl rfl (by rw [H412s.out]; kernel_rfl) (by rw [H412s.out]; rfl) (all_one (nrow_one _ _ _ _ _ _)) ?_)
        intro w14 hs14 hr14 hb14
        obtain ⟨b5, hb5⟩ : ∃ b5, b5 = w13.heap.size := ⟨_, rfl⟩
        rw [← hb5] at hr14
        rw [← hb5]
        have Ht14 := Lib.hid (show CpSt w w14 b1 b4 b5 p d n a a' a2 c c' c2 from ⟨Hs13.out.below hb14, hr14, (Hn13.out.below hb14).mono (fun _ _ _ => trivial)⟩)
        have Hv14 := Lib.hid (Hv13.out.below hb14)
        have Hr14 := Lib.hid (rangeAt_row hr14)
        clear hs14 hr14 hb14 hb5
        obtain ⟨P2, hP2⟩ : ∃ P2, P2 = (chk n.spoiled ⟨#[]⟩ 0).1 := ⟨_, rfl⟩
        obtain ⟨E2, hE2⟩ : ∃ E2, E2 = (chk n.spoiled ⟨#[]⟩ 0).2 := ⟨_, rfl⟩
        have HRef2 := Lib.hid (show ∀ wx, CpSt w wx b1 b4 b5 p d n a a' a2 c c' c2 → Calls Try.prog 11 #[.agg (n.spoiled.row a2 c2).toArray] wx fun e w' => e = .returned (.tuple #[.string P2, .int .i64 E2]) ∧ Below wx.heap.size wx w' from fun wx h => by rw [hP2, hE2]; exact refChk_any wx _ 1 n.spoiled a2 c2 h.cp Hpp.out)
        have HChk2 := Lib.hid (show ∀ wx, CpSt w wx b1 b4 b5 p d n a a' a2 c c' c2 → Calls Try.prog 12 #[.agg (n.spoiled.row a' c').toArray] wx fun e w' => e = .returned (.tuple #[.string P2, .int .i64 E2]) ∧ Below wx.heap.size wx w' from fun wx h => by rw [hP2, hE2]; exact treeCheck_any wx _ 1 n.spoiled a' c' h.sp.node Hpp.out)
        have HBad2 := Lib.hid (show E2 ≠ 0 → ∀ wx, CpSt w wx b1 b4 b5 p d n a a' a2 c c' c2 → Calls Try.prog 13 #[.agg (n.spoiled.row a' c').toArray] wx fun e w' => e = .returned (.tuple #[.pointer none, .int .i64 E2]) ∧ Below wx.heap.size wx w' from fun hz wx h => by
          have := of_bad wx _ 1 n.spoiled a' c' h.sp.node Hpp.out (by rw [chkErr, ← hE2]; exact hz)
          rw [chkErr, ← hE2] at this
          exact this)
        have HGood2 := Lib.hid (show E2 = 0 → ∀ wx, CpSt w wx b1 b4 b5 p d n a a' a2 c c' c2 → Calls Try.prog 13 #[.agg (n.spoiled.row a' c').toArray] wx fun e w' => ∃ q, e = .returned (.tuple #[.pointer (some ⟨q, 0, none⟩), .int .i64 0]) ∧ Below wx.heap.size wx w' from fun hz wx h =>
          (of_good wx _ 1 n.spoiled a' c' h.sp.node (fun b hb => by have := lt_heap h.sp.inn; omega) Hpp.out (by rw [chkErr, ← hE2]; exact hz)).mono (by
            rintro e w' ⟨q, rfl, _, h2⟩
            exact ⟨q, rfl, h2⟩))
        have HSame2 := Lib.hid (show ∀ wx, CpSt w wx b1 b4 b5 p d n a a' a2 c c' c2 → Calls Try.prog 15 #[.agg (n.spoiled.row a' c').toArray, .agg (n.spoiled.row a2 c2).toArray] wx fun e w' => e = .returned (.bool true) ∧ Below wx.heap.size wx w' from fun wx h => by
          have := sameNode_any 1 _ _ wx n.spoiled n.spoiled a' c' a2 c2 h.sp.node h.cp
          rw [alike_refl] at this
          exact this)
        clear hP2 hE2
        go_wp2_with (refine wpList_load_midg (by rfl) 30 (.tmp 14) rfl b5 0 rfl (n.spoiled.row a2 c2) _ Hr14.out Try.underlying30 rfl (by rw [H412.out]; kernel_rfl) ?_)
        refine (HRef2.out w14 Ht14.out).mono ?_
        rintro e w15 ⟨rfl, hb15⟩
        have Ht15 := Lib.hid (Ht14.out.below hb15)
        have Hv15 := Lib.hid (Hv14.out.below hb15)
        have Hri15 := Lib.hid (rangeAt_row Ht15.out.sp.inn)
        clear hb15 Hr14
        go_wp2_with (refine wpList_load_midg (by rfl) 30 (.tmp 4) rfl b4 0 rfl (n.spoiled.row a' c') _ Hri15.out Try.underlying30 rfl (by rw [H41.out]; kernel_rfl) ?_)
        refine (HChk2.out w15 Ht15.out).mono ?_
        rintro e w16 ⟨rfl, hb16⟩
        have Ht16 := Lib.hid (Ht15.out.below hb16)
        have Hv16 := Lib.hid (Hv15.out.below hb16)
        have Hri16 := Lib.hid (rangeAt_row Ht16.out.sp.inn)
        clear hb16 Hri15
        go_wp2_with (refine wpList_load_midg (by rfl) 30 (.tmp 4) rfl b4 0 rfl (n.spoiled.row a' c') _ Hri16.out Try.underlying30 rfl (by rw [H41.out]; kernel_rfl) ?_)
        by_cases hE2 : E2 = 0
        · subst hE2
          refine (HGood2.out rfl w16 Ht16.out).mono ?_
          rintro e w17 ⟨q2, rfl, hb17⟩
          have Ht17 := Lib.hid (Ht16.out.below hb17)
          have Hv17 := Lib.hid (Hv16.out.below hb17)
          have Hri17 := Lib.hid (rangeAt_row Ht17.out.sp.inn)
          have Hrc17 := Lib.hid (rangeAt_row Ht17.out.cpr)
          clear hb17 Hri16
          go_wp2_with (first | (refine wpList_load_midg (by rfl) 30 (.tmp 4) rfl b4 0 rfl (n.spoiled.row a' c') _ Hri17.out Try.underlying30 rfl (by rw [H41.out]; kernel_rfl) ?_) | (refine wpList_load_midg (by rfl) 30 (.tmp 14) rfl b5 0 rfl (n.spoiled.row a2 c2) _ Hrc17.out Try.underlying30 rfl (by rw [H412.out]; kernel_rfl) ?_))
          refine (HSame2.out w17 Ht17.out).mono ?_
          rintro e w18 ⟨rfl, hb18⟩
          have Ht18 := Lib.hid (Ht17.out.below hb18)
          have hv18 := Hv17.out.below hb18
          have Hrb18 := Lib.hid (rangeAt_row Ht18.out.sp.box)
          clear hb18
          rcases hv18 with rfl | ⟨q, FT, dt, rfl, ht, _⟩
          · go_wp2
            go_ret
            exact ⟨rfl, Ht18.out.sp.low⟩
          · have Ht := Lib.hid ht
            clear ht
            go_wp2_with (refine wpList_load_midg (by rfl) 30 (.tmp 1) rfl b1 0 rfl (n.row a c) _ Hrb18.out Try.underlying30 rfl (by rw [h41.out]; kernel_rfl) ?_)
            refine (HAl.out w18 q FT dt Ht18.out.sp.src (by have := lt_heap Ht18.out.sp.inn; omega) Ht.out).mono ?_
            rintro e w19 ⟨rfl, hb19⟩
            have Hb19 := Lib.hid (below_on Ht18.out.sp.low hb19)
            clear hb19
            go_wp2
            go_ret
            exact ⟨rfl, Hb19.out⟩
        · have hE0 : (E2 == 0) = false := by rw [beq_eq_false_iff_ne]; exact hE2
          refine (HBad2.out hE2 w16 Ht16.out).mono ?_
          rintro e w17 ⟨rfl, hb17⟩
          have Ht17 := Lib.hid (Ht16.out.below hb17)
          have Hv17 := Lib.hid (Hv16.out.below hb17)
          have Hri17 := Lib.hid (rangeAt_row Ht17.out.sp.inn)
          have Hrc17 := Lib.hid (rangeAt_row Ht17.out.cpr)
          clear hb17 Hri16
          go_wp2_with (first | (refine wpList_load_midg (by rfl) 30 (.tmp 4) rfl b4 0 rfl (n.spoiled.row a' c') _ Hri17.out Try.underlying30 rfl (by rw [H41.out]; kernel_rfl) ?_) | (refine wpList_load_midg (by rfl) 30 (.tmp 14) rfl b5 0 rfl (n.spoiled.row a2 c2) _ Hrc17.out Try.underlying30 rfl (by rw [H412.out]; kernel_rfl) ?_))
          refine (HSame2.out w17 Ht17.out).mono ?_
          rintro e w18 ⟨rfl, hb18⟩
          have Ht18 := Lib.hid (Ht17.out.below hb18)
          have hv18 := Hv17.out.below hb18
          have Hrb18 := Lib.hid (rangeAt_row Ht18.out.sp.box)
          clear hb18
          rcases hv18 with rfl | ⟨q, FT, dt, rfl, ht, _⟩
          · go_wp2
            go_ret
            exact ⟨rfl, Ht18.out.sp.low⟩
          · have Ht := Lib.hid ht
            clear ht
            go_wp2_with (refine wpList_load_midg (by rfl) 30 (.tmp 1) rfl b1 0 rfl (n.row a c) _ Hrb18.out Try.underlying30 rfl (by rw [h41.out]; kernel_rfl) ?_)
            refine (HAl.out w18 q FT dt Ht18.out.sp.src (by have := lt_heap Ht18.out.sp.inn; omega) Ht.out).mono ?_
            rintro e w19 ⟨rfl, hb19⟩
            have Hb19 := Lib.hid (below_on Ht18.out.sp.low hb19)
            clear hb19
            go_wp2
            go_ret
            exact ⟨rfl, Hb19.out⟩
end Go.Proofs.Ythnbinlllmkabaa
