/- The tree's Set. (Written by gen_treeset.py.) -/
import Derived.Test.YthnbinlllmkabaaRefSet
import Derived.Test.YthnbinlllmkabaaPut
import Derived.Test.YthnbinlllmkabaaChk
import Derived.Deep.RegionHeld3
namespace Go.Proofs.Ythnbinlllmkabaa
open Go.RowKit
set_option linter.unusedVariables false
set_option linter.unusedSimpArgs false

/-- Between Set's steps. -/
structure SetSt (w wr : World) (BV BM : Nat) (v : Vl) (mm : Mk × Mk) : Prop where
  bv : wr.heap[BV]? = some (.cells v.cells.toArray 24 (0, 0))
  bm : wr.heap[BM]? = some (.cells (mcells mm).toArray 27 (0, 0))
  low : Below w.heap.size w wr
theorem SetSt.below {w wr w5 : World} {BV BM : Nat} {v : Vl} {mm : Mk × Mk} (h : SetSt w wr BV BM v mm) (hb : Below wr.heap.size wr w5) : SetSt w w5 BV BM v mm :=
  ⟨(hb.block BV (lt_heap h.bv)).trans h.bv, (hb.block BM (lt_heap h.bm)).trans h.bm, below_on h.low hb⟩
theorem setNd_cnt (v : Vl) (mm : Mk × Mk) (k : Nd) : (setNd v mm k).cnt = k.cnt := by
  rw [cnt_eq k]
  rfl
theorem own_pos (v : Vl) (mm : Mk × Mk) (kl : Nat) : ownErr v mm kl = if v.kind ≠ 1 ∧ 0 < kl then 40 else posErr v mm := by
  unfold ownErr
  by_cases h1 : v.kind ≠ 1 ∧ 0 < kl
  · rw [if_pos (.inr (.inr h1)), if_pos h1]
  · rw [if_neg h1]
    by_cases h2 : v.kind < 1 ∨ 3 < v.kind ∨ (v.kind ≠ 1 ∧ 0 < kl)
    · rw [if_pos h2, pos_0 (by omega)]
    · rw [if_neg h2]
set_option maxHeartbeats 8000000 in
set_option maxRecDepth 100000 in
/-- The tree's Set: the right one, and the wrong ones. -/
theorem treeSet_any (F : Nat → Prop) (d : Nat) (w : World) (p : Nat) (n : Nd) (s : ByteArray) (v : Vl) (mm : Mk × Mk) (hv : v.wf) (hmm : mwf mm) (ht : TreeAt w F d p n) (hr : n.ris) (hc : n.cnt ≤ 500000000) (hs : s.size ≤ 1000000000) :
    Calls Try.prog 37 #[.pointer (some ⟨p, 0, none⟩), .string s, .agg v.cells.toArray, .agg (mcells mm).toArray] w fun e' w' => ((setErr n s v mm ≠ 0 ∧ e' = .returned (.tuple #[.pointer none, .int .i64 (setErr n s v mm)])) ∨ (setErr n s v mm = 0 ∧ ∃ (k r : Nd) (p' : Nat), subOf n (pieces s) = some k ∧ withOf n (pieces s) (some (setNd v mm k)) = some r ∧ e' = .returned (.tuple #[.pointer (some ⟨p', 0, none⟩), .int .i64 0]) ∧ TreeAt w' (fun b => F b ∨ w.heap.size ≤ b) (d + d) p' r)) ∧ Below w.heap.size w w' := by
  by_cases h0 : splitErr s 64 = 0
  rotate_left
  · have hpe : setErr n s v mm = splitErr s 64 := by unfold setErr; rw [if_pos h0]
    have hc2 := split_bad
    obtain ⟨E, hE⟩ : ∃ E, E = splitErr s 64 := ⟨_, rfl⟩
    have hEn : (E != 0) = true := by rw [bne_iff_ne, hE]; exact h0
    have v35 := Lib.hid (v.cells_length hv)
    have Ht := Lib.hid (And.intro ht hr)
    clear ht hr
    go_enter Try.func37, Try.ntmps37
    go_upto_region 1 with fail
    have hbv := (Below.heap_alloc (w.alloc (.cells v.cells.toArray 24)) (.cells (mcells mm).toArray 27) w.heap.size (by simp)).trans (heap_alloc_new w (.cells v.cells.toArray 24))
    have hbm := heap_alloc_new (w.alloc (.cells v.cells.toArray 24)) (.cells (mcells mm).toArray 27)
    have hbl := on_alloc (on_alloc (Below.refl _ w) (.cells v.cells.toArray 24)) (.cells (mcells mm).toArray 27)
    rw [World.size_alloc] at hbm
    generalize (w.alloc (.cells v.cells.toArray 24)).alloc (.cells (mcells mm).toArray 27) = w2 at hbv hbm hbl ⊢
    obtain ⟨BV, hB⟩ : ∃ B, B = w.heap.size := ⟨_, rfl⟩
    obtain ⟨BM, hR⟩ : ∃ R, R = w.heap.size + 1 := ⟨_, rfl⟩
    rw [← hR] at hbm
    rw [← hB] at hbv
    (try rw [World.size_alloc])
    rw [← hR, ← hB]
    have St2 := Lib.hid (show SetSt w w2 BV BM v mm from ⟨hbv, hbm, hbl⟩)
    have hw2 := hbl.size
    clear hbv hbm hbl hB hR
    have hc3 := split_bad w2 s 64 (by decide) hs h0
    rw [← hE] at hc3 hpe h0
    have Hc := Lib.hid hc3
    have Hpe := Lib.hid (And.intro hpe h0)
    clear hc3 hE hpe h0 hc2
    go_wp2_with fail
    refine Hc.out.mono ?_
    rintro e3 w3 ⟨rfl, hb3⟩
    have St3 := Lib.hid (St2.out.below hb3)
    clear hb3 Hc
    go_wp2
    go_ret2
    exact ⟨.inl ⟨by rw [Hpe.out.1]; exact Hpe.out.2, by rw [Hpe.out.1]; rfl⟩, St3.out.low⟩
  have v35 := Lib.hid (v.cells_length hv)
  have Ht := Lib.hid (And.intro ht hr)
  clear ht hr
  go_enter Try.func37, Try.ntmps37
  go_upto_region 1 with fail
  have hbv := (Below.heap_alloc (w.alloc (.cells v.cells.toArray 24)) (.cells (mcells mm).toArray 27) w.heap.size (by simp)).trans (heap_alloc_new w (.cells v.cells.toArray 24))
  have hbm := heap_alloc_new (w.alloc (.cells v.cells.toArray 24)) (.cells (mcells mm).toArray 27)
  have hbl := on_alloc (on_alloc (Below.refl _ w) (.cells v.cells.toArray 24)) (.cells (mcells mm).toArray 27)
  rw [World.size_alloc] at hbm
  generalize (w.alloc (.cells v.cells.toArray 24)).alloc (.cells (mcells mm).toArray 27) = w2 at hbv hbm hbl ⊢
  obtain ⟨BV, hB⟩ : ∃ B, B = w.heap.size := ⟨_, rfl⟩
  obtain ⟨BM, hR⟩ : ∃ R, R = w.heap.size + 1 := ⟨_, rfl⟩
  rw [← hR] at hbm
  rw [← hB] at hbv
  (try rw [World.size_alloc])
  rw [← hR, ← hB]
  have St2 := Lib.hid (show SetSt w w2 BV BM v mm from ⟨hbv, hbm, hbl⟩)
  have hw2 := hbl.size
  clear hbv hbm hbl hB hR
  have Hc := Lib.hid (split_ok w2 s 64 (by decide) hs h0)
  go_wp2_with fail
  refine Hc.out.mono ?_
  rintro e1 w3 ⟨nl, a, c, rfl, hnl, hown, hb3, hfr⟩
  obtain ⟨L, hL⟩ : ∃ L, L = pieces s := ⟨_, rfl⟩
  have HL := Lib.hid hL
  rw [← hL] at hnl hown
  have Hnl := Lib.hid hnl
  have hnc := hown.cap_le
  have hl63 := hown.2.1
  have hn64 : nl ≤ 64 := by rw [← hnl, hL]; exact (splitErr_zero h0).1
  have St3 := Lib.hid (St2.out.below hb3)
  have hw3 : w.heap.size ≤ w3.heap.size := Nat.le_trans hw2 hb3.size
  have Hown := Lib.hid hown
  have Hway := Lib.hid (way_any F d w3 p n L a nl c hown.sl hnl hnc (Ht.out.1.below St3.out.low) Ht.out.2 (by omega) (by omega))
  clear hnl hown hb3 hfr hL Hc
  go_wp2_with fail
  refine Hway.out.mono ?_
  rintro e2 w4 ⟨rfl, hb4⟩
  have St4 := Lib.hid (St3.out.below hb4)
  have Hown4 := Lib.hid (Hown.out.kept (Upd.below hb4 (fun _ => False)) (fun _ _ => id))
  have hw4 : w.heap.size ≤ w4.heap.size := Nat.le_trans hw3 hb4.size
  clear hb4 Hway Hown
  cases hw : wayOf n L with
  | false =>
    have hpe : setErr n s v mm = 44 := by unfold setErr; rw [if_neg (by simp [h0]), ← HL.out, hw]; rfl
    have Hpe := Lib.hid hpe
    clear hpe hw h0
    go_wp2
    go_ret2
    exact ⟨.inl ⟨by rw [Hpe.out]; decide, by rw [Hpe.out]; rfl⟩, St4.out.low⟩
  | true =>
    have Hsub := Lib.hid (sub_any F d w4 p n s (Ht.out.1.below St4.out.low) Ht.out.2 (by omega) hs h0)
    go_wp2_with fail
    refine Hsub.out.mono ?_
    rintro e5 w5 ⟨hcase, hb5⟩
    have St5 := Lib.hid (St4.out.below hb5)
    have Hown5 := Lib.hid (Hown4.out.kept (Upd.below hb5 (fun _ => False)) (fun _ _ => id))
    have hw5 : w.heap.size ≤ w5.heap.size := Nat.le_trans hw4 hb5.size
    clear hb5 Hsub Hown4
    rcases hcase with ⟨hsn, rfl⟩ | ⟨k, q, hsk, rfl, htq, hkr, hkc⟩
    · have hpe : setErr n s v mm = 45 := by unfold setErr; rw [if_neg (by simp [h0]), ← HL.out, hw, HL.out, hsn]; rfl
      have Hpe := Lib.hid hpe
      clear hpe hw h0 hsn
      go_wp2
      go_ret2
      exact ⟨.inl ⟨by rw [Hpe.out]; decide, by rw [Hpe.out]; rfl⟩, St5.out.low⟩
    · obtain ⟨kl, hkl⟩ : ∃ kl, kl = k.kids.length := ⟨_, rfl⟩
      have hpe : setErr n s v mm = ownErr v mm kl := by unfold setErr; rw [if_neg (by simp [h0]), ← HL.out, hw, HL.out, hsk, hkl]; rfl
      rw [own_pos] at hpe
      obtain ⟨d', rfl⟩ : ∃ d', d = d' + 1 := by
        cases d with
        | zero => exact htq.elim
        | succ d => exact ⟨d, rfl⟩
      have Htq := Lib.hid htq
      have Hsk := Lib.hid hsk
      have hkl9 : kl ≤ 1000000000 := by rw [hkl]; have h1 := len_le_cnt k.kids; have h2 := cnt_eq k; omega
      obtain ⟨pe, hpp⟩ : ∃ pe, pe = posErr v mm := ⟨_, rfl⟩
      have Hpos := possible_any w5 v mm hv.1
      rw [← hpp] at hpe Hpos
      have Hposs := Lib.hid Hpos
      have Hkl := Lib.hid hkl
      obtain ⟨_, hvk, hmk, an, ak, cn, ck, ps, h4, h5, h6, h7, h8, h9, h10, h11, h12⟩ := htq
      obtain ⟨_, _, c39, c40, _, _⟩ := trow_at (o := 0) hvk (rangeAt_row h4)
      simp only [Nat.zero_add] at c39 c40
      rw [← hkl] at c39 c40
      have fk : w5.cell? ⟨BV, 0, none⟩ = some (.int .i64 v.kind) := by have h := (vl_at (rangeAt_row St5.out.bv)).1; simpa using h
      have Hq := Lib.hid (And.intro h5 (And.intro h6 (And.intro h7 (And.intro h8 (And.intro h9 (And.intro h10 (And.intro h11 h12)))))))
      have Hqc := Lib.hid (And.intro c39 c40)
      have hqw : q < w5.heap.size := lt_heap h4
      clear hpp hkl hw hsk Hpos h4 h5 h6 h7 h8 h9 h10 h11 h12 c39 c40
      go_wp2_with (first | (refine wpList_load_midg (by rfl) 24 (.tmp 6) rfl BV 0 rfl v.cells _ (rangeAt_row St5.out.bv) Try.underlying24 rfl (by rw [v35.out]; kernel_rfl) ?_) | (refine wpList_load_midg (by rfl) 27 (.tmp 7) rfl BM 0 rfl (mcells mm) _ (rangeAt_row St5.out.bm) Try.underlying27 rfl (by kernel_rfl) ?_))
      refine Hposs.out.mono ?_
      rintro e6 w6 ⟨rfl, hb6⟩
      have St6 := Lib.hid (St5.out.below hb6)
      have Hb56 := Lib.hid hb6
      have hw6 : w.heap.size ≤ w6.heap.size := Nat.le_trans hw5 hb6.size
      have fk6 : w6.cell? ⟨BV, 0, none⟩ = some (.int .i64 v.kind) := (hb6.cell (lt_heap St5.out.bv)).trans fk
      have c39 : w6.cell? ⟨q, 39, none⟩ = some (.slice an kl cn) := (hb6.cell hqw).trans Hqc.out.1
      have c40 : w6.cell? ⟨q, 40, none⟩ = some (.slice ak kl ck) := (hb6.cell hqw).trans Hqc.out.2
      clear hb6 Hposs fk
      by_cases hbad : v.kind ≠ 1 ∧ 0 < kl
      · rw [if_pos hbad] at hpe
        have q1 : (v.kind != 1) = true := by rw [bne_iff_ne]; exact hbad.1
        have q2 : (0 : Int) < (kl : Int) := by omega
        have Hpe := Lib.hid hpe
        clear hpe hbad
        go_wp2
        go_ret2
        exact ⟨.inl ⟨by rw [Hpe.out]; decide, by rw [Hpe.out]; rfl⟩, St6.out.low⟩
      · rw [if_neg hbad] at hpe
        have Hpe := Lib.hid hpe
        have hdis : v.kind = 1 ∨ (v.kind ≠ 1 ∧ kl = 0) := by omega
        clear hpe hbad
        by_cases hpe0 : pe = 0
        rotate_left
        · have q3 : (pe != 0) = true := by rw [bne_iff_ne]; exact hpe0
          rcases hdis with h1 | ⟨h1, h2⟩
          · have q1 : (v.kind != 1) = false := by rw [h1]; rfl
            go_wp2
            go_ret2
            exact ⟨.inl ⟨by rw [Hpe.out]; exact hpe0, by rw [Hpe.out]; rfl⟩, St6.out.low⟩
          · have q1 : (v.kind != 1) = true := by rw [bne_iff_ne]; exact h1
            have q2 : ¬ (0 : Int) < (kl : Int) := by omega
            go_wp2
            go_ret2
            exact ⟨.inl ⟨by rw [Hpe.out]; exact hpe0, by rw [Hpe.out]; rfl⟩, St6.out.low⟩
        · subst hpe0
          have Hkm := Lib.hid (And.intro hkr hkc)
          have Hmade := Lib.hid (made_any w6.drew F d' v mm hv hmm k.kids ps ⟨Hq.out.2.2.2.2.1, fun i q' k' hi hk' => ⟨(Hq.out.2.2.2.2.2.2.2 i q' k' hi hk').1, ((Hq.out.2.2.2.2.2.2.2 i q' k' hi hk').2.below Hb56.out).below (on_drew (Below.refl _ _))⟩⟩ kl Hkl.out.symm an ak cn ck (by rw [Hkl.out]; exact Hq.out.2.2.2.2.2.1) (by rw [Hkl.out]; exact Hq.out.2.2.2.2.2.2.1) (by rw [Hkl.out]; exact ((Hq.out.1.kept (Upd.below Hb56.out (fun _ => False)) (fun _ _ _ => id)).kept ((Upd.refl (fun _ => False) w6).drew) (fun _ _ _ => id))) (by rw [Hkl.out]; exact ((Hq.out.2.1.kept (Upd.below Hb56.out (fun _ => False)) (fun _ _ _ => id)).kept ((Upd.refl (fun _ => False) w6).drew) (fun _ _ _ => id))) (by have h1 := cnt_eq k; omega) ⟨#[]⟩ Hq.out.2.2.1 Hq.out.2.2.2.1)
          have hccm : c ≤ 9223372036854775807 := by
            rcases Hown5.out.2.2 with ⟨hv', _⟩ | ⟨g', off', cap', cur', hv', hg', hnc', hcm', _⟩
            · injection hv' with _ _ h; omega
            · injection hv' with _ _ h; omega
          have Hwith := Lib.hid (fun (w8 : World) (pp : Nat) (hb : Below w6.heap.size w6 w8) (hx : TreeAt w8 (fun b => F b ∨ b = pp) (d' + 1) pp (setNd v mm k)) (hpw : w.heap.size ≤ pp) => with_ok (d' + 1) (fun b => F b ∨ w.heap.size ≤ b) w8 p n L a nl c (some (pp, setNd v mm k)) (d' + 1) (TreeAt.mono (fun b hb _ => .inl hb) _ _ _ ((Ht.out.1.below St6.out.low).below hb)) Ht.out.2 ((Hown5.out.kept (Upd.below Hb56.out (fun _ => False)) (fun _ _ => id)).kept (Upd.below hb (fun _ => False)) (fun _ _ => id)).sl Hnl.out hnc hccm (by rw [HL.out]; exact strs_sizes hs) (fun q' x' h => by obtain ⟨rfl, rfl⟩ : pp = q' ∧ setNd v mm k = x' := (by simpa using h); exact TreeAt.mono (fun b hb _ => by rcases hb with hb | hb; exact .inl hb; exact .inr (by rw [hb]; exact hpw)) _ _ _ hx) (fun h => by cases h) (show n.cnt + (setNd v mm k).cnt ≤ 1000000000 by rw [setNd_cnt]; have := Hkm.out.2; omega))
          have had : ∀ x, adO (some x) = .pointer (some ⟨x.1, 0, none⟩) := fun x => rfl
          have hKS : ∀ w', Below w6.heap.size w6 w' → w'.rangeAt BV 0 v.cells ∧ w'.rangeAt BM 0 (mcells mm) ∧ w'.cell? ⟨q, 39, none⟩ = some (.slice an kl cn) ∧ w'.cell? ⟨q, 40, none⟩ = some (.slice ak kl ck) := fun w' hb =>
            ⟨rangeAt_row ((hb.block BV (lt_heap St6.out.bv)).trans St6.out.bv), rangeAt_row ((hb.block BM (lt_heap St6.out.bm)).trans St6.out.bm), (hb.cell (Nat.lt_of_lt_of_le hqw Hb56.out.size)).trans c39, (hb.cell (Nat.lt_of_lt_of_le hqw Hb56.out.size)).trans c40⟩
          have HKS := Lib.hid hKS
          have infv : (Try.prog.info? 24).map (·.size) = some v.cells.length := by rw [v35.out]; kernel_rfl
          have infm : (Try.prog.info? 27).map (·.size) = some (mcells mm).length := by kernel_rfl
          have undv := Try.underlying24
          have undm := Try.underlying27
          have hdk : (v.kind != 1) = false ∨ ((v.kind != 1) = true ∧ ¬ (0 : Int) < (kl : Int)) := by
            rcases hdis with h1 | ⟨h1, h2⟩
            · exact .inl (by rw [h1]; rfl)
            · exact .inr ⟨by rw [bne_iff_ne]; exact h1, by omega⟩
          clear hdis hKS had
          rcases hdk with q1 | ⟨q1, q2⟩
          · skip
            go_wp2_with fail
            refine wp_region_noPanic ?_
            refine wp_region_held_drew (S := (fun w' => w'.rangeAt BV 0 v.cells ∧ w'.rangeAt BM 0 (mcells mm) ∧ w'.cell? ⟨q, 39, none⟩ = some (.slice an kl cn) ∧ w'.cell? ⟨q, 40, none⟩ = some (.slice ak kl ck))) (by kernel_rfl) ?_ (fun hHeld => ?_)
            · (try dsimp only); (first | assumption | exact HKS.out _ (on_drew (Below.refl _ _)) | exact HKS.out _ Hk1.out | exact HKS.out _ Hk2.out)
            refine wpAnyH_take (i := 0) (v := ?_) rfl (by kernel_rfl) (by kernel_rfl) (by kernel_rfl) (fun _ _ _ h => h) (Or.inl ⟨by rfl, ?_⟩) (by assumption) ?_
            rotate_left
            · intro w hSw; (try dsimp only at hSw); go_simp; (try with_reducible rfl)
            (try simp only [List.getElem_toArray, List.getElem_cons_succ, List.getElem_cons_zero, Act.put, List.setIfInBounds_toArray, List.set_cons_zero, List.set_cons_succ])
            refine wpAnyH_take (i := 1) (v := ?_) rfl (by kernel_rfl) (by kernel_rfl) (by kernel_rfl) (fun _ _ _ h => h) (Or.inl ⟨by rfl, ?_⟩) (by assumption) ?_
            rotate_left
            · intro w hSw; (try dsimp only at hSw); go_simp; (try with_reducible rfl)
            (try simp only [List.getElem_toArray, List.getElem_cons_succ, List.getElem_cons_zero, Act.put, List.setIfInBounds_toArray, List.set_cons_zero, List.set_cons_succ])
            refine' wpAnyH_take (i := 2) (v := _) rfl (by kernel_rfl) (by kernel_rfl) (by kernel_rfl) (fun _ _ _ h => h) (yieldsIf_load_mid (by rfl) _ _ rfl _ _ rfl _ _ ?hSA2 ?huA2 ?hdA2 ?hiA2) (by assumption) ?restA1
            case hSA2 => (intro w hSw; (try dsimp only at hSw); go_split_ands; assumption)
            case huA2 => assumption
            case hdA2 => rfl
            case hiA2 => first | assumption | (simp only [*]; done)
            (try simp only [List.getElem_toArray, List.getElem_cons_succ, List.getElem_cons_zero, Act.put, List.setIfInBounds_toArray, List.set_cons_zero, List.set_cons_succ])
            refine' wpAnyH_take (i := 3) (v := _) rfl (by kernel_rfl) (by kernel_rfl) (by kernel_rfl) (fun _ _ _ h => h) (yieldsIf_load_mid (by rfl) _ _ rfl _ _ rfl _ _ ?hSA3 ?huA3 ?hdA3 ?hiA3) (by assumption) ?restA2
            case hSA3 => (intro w hSw; (try dsimp only at hSw); go_split_ands; assumption)
            case huA3 => assumption
            case hdA3 => rfl
            case hiA3 => first | assumption | (simp only [*]; done)
            (try simp only [List.getElem_toArray, List.getElem_cons_succ, List.getElem_cons_zero, Act.put, List.setIfInBounds_toArray, List.set_cons_zero, List.set_cons_succ])
            refine wpAnyH_take (i := 4) (v := ?_) rfl (by kernel_rfl) (by kernel_rfl) (by kernel_rfl) (fun _ _ _ h => h) (Or.inl ⟨by rfl, ?_⟩) (by assumption) ?_
            rotate_left
            · intro w hSw; (try dsimp only at hSw); go_simp; (try with_reducible rfl)
            (try simp only [List.getElem_toArray, List.getElem_cons_succ, List.getElem_cons_zero, Act.put, List.setIfInBounds_toArray, List.set_cons_zero, List.set_cons_succ])
            refine wpAnyH_take (i := 5) (v := ?_) rfl (by kernel_rfl) (by kernel_rfl) (by kernel_rfl) (fun _ _ _ h => h) (Or.inl ⟨by rfl, ?_⟩) (by assumption) ?_
            rotate_left
            · intro w hSw; (try dsimp only at hSw); go_simp; (try with_reducible rfl)
            (try simp only [List.getElem_toArray, List.getElem_cons_succ, List.getElem_cons_zero, Act.put, List.setIfInBounds_toArray, List.set_cons_zero, List.set_cons_succ])
            refine wpAnyH_take (i := 6) (v := ?_) rfl (by kernel_rfl) (by kernel_rfl) (by kernel_rfl) (fun _ _ _ h => h) (Or.inl ⟨by rfl, ?_⟩) (by assumption) ?_
            rotate_left
            · intro w hSw; (try dsimp only at hSw); go_simp; (try with_reducible rfl)
            (try simp only [List.getElem_toArray, List.getElem_cons_succ, List.getElem_cons_zero, Act.put, List.setIfInBounds_toArray, List.set_cons_zero, List.set_cons_succ])
            refine wpAnyH_take (i := 7) (v := ?_) rfl (by kernel_rfl) (by kernel_rfl) (by kernel_rfl) (fun _ _ _ h => h) (Or.inl ⟨by rfl, ?_⟩) (by assumption) ?_
            rotate_left
            · intro w hSw; (try dsimp only at hSw); go_simp; (try with_reducible rfl)
            (try simp only [List.getElem_toArray, List.getElem_cons_succ, List.getElem_cons_zero, Act.put, List.setIfInBounds_toArray, List.set_cons_zero, List.set_cons_succ])
            refine wpAnyH_take (i := 8) (v := ?_) rfl (by kernel_rfl) (by kernel_rfl) (by kernel_rfl) (fun _ _ _ h => h) (Or.inl ⟨by rfl, ?_⟩) (by assumption) ?_
            rotate_left
            · intro w hSw; (try dsimp only at hSw); go_simp; (try with_reducible rfl)
            (try simp only [List.getElem_toArray, List.getElem_cons_succ, List.getElem_cons_zero, Act.put, List.setIfInBounds_toArray, List.set_cons_zero, List.set_cons_succ])
            refine wpAnyH_take (i := 9) (v := ?_) rfl (by kernel_rfl) (by kernel_rfl) (by kernel_rfl) (fun _ _ _ h => h) (Or.inl ⟨by rfl, ?_⟩) (by assumption) ?_
            rotate_left
            · intro w hSw; (try dsimp only at hSw); go_simp; (try with_reducible rfl)
            (try simp only [List.getElem_toArray, List.getElem_cons_succ, List.getElem_cons_zero, Act.put, List.setIfInBounds_toArray, List.set_cons_zero, List.set_cons_succ])
            refine wpAnyH_take (i := 10) (v := ?_) rfl (by kernel_rfl) (by kernel_rfl) (by kernel_rfl) (fun _ _ _ h => h) (Or.inl ⟨by rfl, ?_⟩) (by assumption) ?_
            rotate_left
            · intro w hSw; (try dsimp only at hSw); go_simp; (try with_reducible rfl)
            (try simp only [List.getElem_toArray, List.getElem_cons_succ, List.getElem_cons_zero, Act.put, List.setIfInBounds_toArray, List.set_cons_zero, List.set_cons_succ])
            refine wpAnyH_take (i := 11) (v := ?_) rfl (by kernel_rfl) (by kernel_rfl) (by kernel_rfl) (fun _ _ _ h => h) (Or.inl ⟨by rfl, ?_⟩) (by assumption) ?_
            rotate_left
            · intro w hSw; (try dsimp only at hSw); go_simp; (try with_reducible rfl)
            (try simp only [List.getElem_toArray, List.getElem_cons_succ, List.getElem_cons_zero, Act.put, List.setIfInBounds_toArray, List.set_cons_zero, List.set_cons_succ])
            refine wpAnyH_ready (rs := [12]) (by kernel_rfl) (by simp) ?_
            refine AllReadyH.cons rfl (fun K hK => ?_) ?_
            rotate_left
            · exact AllReadyH.nil
            go_simp
            refine Hmade.out.mono ?_; rintro e8 w8 ⟨pp, rfl, hpp, hpw, hb8⟩; have Hk1 := Lib.hid (below_on (on_drew (Below.refl w6.heap.size w6)) hb8); have Hpp := Lib.hid hpp; clear hb8 hpp
            (try go_wp2_with fail)
            refine hK.out _ _ ?_ (fun hHeld => ?_)
            · (try dsimp only); (first | assumption | exact HKS.out _ (on_drew (Below.refl _ _)) | exact HKS.out _ Hk1.out | exact HKS.out _ Hk2.out)
            clear hK K
            (try simp only [List.getElem_toArray, List.getElem_cons_succ, List.getElem_cons_zero, Act.put, List.setIfInBounds_toArray, List.set_cons_zero, List.set_cons_succ])
            refine wpAnyH_ready (rs := [13]) (by kernel_rfl) (by simp) ?_
            refine AllReadyH.cons rfl (fun K hK => ?_) ?_
            rotate_left
            · exact AllReadyH.nil
            go_simp
            refine (Hwith.out w8 pp Hk1.out Hpp.out (Nat.le_trans hw6 hpw)).mono ?_; rintro e9 w9 ⟨hcase, hb9⟩; have Hk2 := Lib.hid (below_on Hk1.out hb9); obtain ⟨r, p', hr, rfl, ht9⟩ : ∃ r p', withOf n L (some (setNd v mm k)) = some r ∧ e9 = .returned (.pointer (some ⟨p', 0, none⟩)) ∧ TreeAt w9 (fun b => (F b ∨ w.heap.size ≤ b) ∨ w8.heap.size ≤ b) (d' + 1 + (d' + 1)) p' r := (by rcases hcase with ⟨h, _⟩ | ⟨r, p', hr, h2, ht3⟩; (have hi := withOf_isSome L n (setNd v mm k); rw [show withOf n L (some (setNd v mm k)) = none from h] at hi; cases hi); exact ⟨r, p', hr, h2, ht3⟩); have Hr9 := Lib.hid (And.intro hr ht9); clear hcase hb9 hr ht9
            (try go_wp2_with fail)
            refine hK.out _ _ ?_ (fun hHeld => ?_)
            · (try dsimp only); (first | assumption | exact HKS.out _ (on_drew (Below.refl _ _)) | exact HKS.out _ Hk1.out | exact HKS.out _ Hk2.out)
            clear hK K
            (try simp only [List.getElem_toArray, List.getElem_cons_succ, List.getElem_cons_zero, Act.put, List.setIfInBounds_toArray, List.set_cons_zero, List.set_cons_succ])
            refine wpAnyH_take (i := 14) (v := ?_) rfl (by kernel_rfl) (by kernel_rfl) (by kernel_rfl) (fun _ _ _ h => h) (Or.inl ⟨by rfl, ?_⟩) (by assumption) ?_
            rotate_left
            · intro w hSw; (try dsimp only at hSw); go_simp; (try with_reducible rfl)
            (try simp only [List.getElem_toArray, List.getElem_cons_succ, List.getElem_cons_zero, Act.put, List.setIfInBounds_toArray, List.set_cons_zero, List.set_cons_succ])
            refine wpAnyH_take (i := 15) (v := ?_) rfl (by kernel_rfl) (by kernel_rfl) (by kernel_rfl) (fun _ _ _ h => h) (Or.inl ⟨by rfl, ?_⟩) (by assumption) ?_
            rotate_left
            · intro w hSw; (try dsimp only at hSw); go_simp; (try with_reducible rfl)
            (try simp only [List.getElem_toArray, List.getElem_cons_succ, List.getElem_cons_zero, Act.put, List.setIfInBounds_toArray, List.set_cons_zero, List.set_cons_succ])
            refine wpAnyH_done (by kernel_rfl) ?_ _
            refine NoPanic.normal ?_
            clear hHeld
            go_wp2_with fail
            go_ret2
            exact ⟨.inr ⟨by rw [Hpe.out], k, r, p', Hsk.out, by rw [← HL.out]; exact Hr9.out.1, rfl, TreeAt.mono (fun b hb _ => by rcases hb with hb | hb; exact hb; exact .inr (Nat.le_trans (Nat.le_trans hw6 Hk1.out.size) hb)) _ _ _ Hr9.out.2⟩, below_on St6.out.low Hk2.out⟩
          · skip
            go_wp2_with fail
            refine wp_region_noPanic ?_
            refine wp_region_held_drew (S := (fun w' => w'.rangeAt BV 0 v.cells ∧ w'.rangeAt BM 0 (mcells mm) ∧ w'.cell? ⟨q, 39, none⟩ = some (.slice an kl cn) ∧ w'.cell? ⟨q, 40, none⟩ = some (.slice ak kl ck))) (by kernel_rfl) ?_ (fun hHeld => ?_)
            · (try dsimp only); (first | assumption | exact HKS.out _ (on_drew (Below.refl _ _)) | exact HKS.out _ Hk1.out | exact HKS.out _ Hk2.out)
            refine wpAnyH_take (i := 0) (v := ?_) rfl (by kernel_rfl) (by kernel_rfl) (by kernel_rfl) (fun _ _ _ h => h) (Or.inl ⟨by rfl, ?_⟩) (by assumption) ?_
            rotate_left
            · intro w hSw; (try dsimp only at hSw); go_simp; (try with_reducible rfl)
            (try simp only [List.getElem_toArray, List.getElem_cons_succ, List.getElem_cons_zero, Act.put, List.setIfInBounds_toArray, List.set_cons_zero, List.set_cons_succ])
            refine wpAnyH_take (i := 1) (v := ?_) rfl (by kernel_rfl) (by kernel_rfl) (by kernel_rfl) (fun _ _ _ h => h) (Or.inl ⟨by rfl, ?_⟩) (by assumption) ?_
            rotate_left
            · intro w hSw; (try dsimp only at hSw); go_simp; (try with_reducible rfl)
            (try simp only [List.getElem_toArray, List.getElem_cons_succ, List.getElem_cons_zero, Act.put, List.setIfInBounds_toArray, List.set_cons_zero, List.set_cons_succ])
            refine' wpAnyH_take (i := 2) (v := _) rfl (by kernel_rfl) (by kernel_rfl) (by kernel_rfl) (fun _ _ _ h => h) (yieldsIf_load_mid (by rfl) _ _ rfl _ _ rfl _ _ ?hSB2 ?huB2 ?hdB2 ?hiB2) (by assumption) ?restB1
            case hSB2 => (intro w hSw; (try dsimp only at hSw); go_split_ands; assumption)
            case huB2 => assumption
            case hdB2 => rfl
            case hiB2 => first | assumption | (simp only [*]; done)
            (try simp only [List.getElem_toArray, List.getElem_cons_succ, List.getElem_cons_zero, Act.put, List.setIfInBounds_toArray, List.set_cons_zero, List.set_cons_succ])
            refine' wpAnyH_take (i := 3) (v := _) rfl (by kernel_rfl) (by kernel_rfl) (by kernel_rfl) (fun _ _ _ h => h) (yieldsIf_load_mid (by rfl) _ _ rfl _ _ rfl _ _ ?hSB3 ?huB3 ?hdB3 ?hiB3) (by assumption) ?restB2
            case hSB3 => (intro w hSw; (try dsimp only at hSw); go_split_ands; assumption)
            case huB3 => assumption
            case hdB3 => rfl
            case hiB3 => first | assumption | (simp only [*]; done)
            (try simp only [List.getElem_toArray, List.getElem_cons_succ, List.getElem_cons_zero, Act.put, List.setIfInBounds_toArray, List.set_cons_zero, List.set_cons_succ])
            refine wpAnyH_take (i := 4) (v := ?_) rfl (by kernel_rfl) (by kernel_rfl) (by kernel_rfl) (fun _ _ _ h => h) (Or.inl ⟨by rfl, ?_⟩) (by assumption) ?_
            rotate_left
            · intro w hSw; (try dsimp only at hSw); go_simp; (try with_reducible rfl)
            (try simp only [List.getElem_toArray, List.getElem_cons_succ, List.getElem_cons_zero, Act.put, List.setIfInBounds_toArray, List.set_cons_zero, List.set_cons_succ])
            refine wpAnyH_take (i := 5) (v := ?_) rfl (by kernel_rfl) (by kernel_rfl) (by kernel_rfl) (fun _ _ _ h => h) (Or.inl ⟨by rfl, ?_⟩) (by assumption) ?_
            rotate_left
            · intro w hSw; (try dsimp only at hSw); go_simp; (try with_reducible rfl)
            (try simp only [List.getElem_toArray, List.getElem_cons_succ, List.getElem_cons_zero, Act.put, List.setIfInBounds_toArray, List.set_cons_zero, List.set_cons_succ])
            refine wpAnyH_take (i := 6) (v := ?_) rfl (by kernel_rfl) (by kernel_rfl) (by kernel_rfl) (fun _ _ _ h => h) (Or.inl ⟨by rfl, ?_⟩) (by assumption) ?_
            rotate_left
            · intro w hSw; (try dsimp only at hSw); go_simp; (try with_reducible rfl)
            (try simp only [List.getElem_toArray, List.getElem_cons_succ, List.getElem_cons_zero, Act.put, List.setIfInBounds_toArray, List.set_cons_zero, List.set_cons_succ])
            refine wpAnyH_take (i := 7) (v := ?_) rfl (by kernel_rfl) (by kernel_rfl) (by kernel_rfl) (fun _ _ _ h => h) (Or.inl ⟨by rfl, ?_⟩) (by assumption) ?_
            rotate_left
            · intro w hSw; (try dsimp only at hSw); go_simp; (try with_reducible rfl)
            (try simp only [List.getElem_toArray, List.getElem_cons_succ, List.getElem_cons_zero, Act.put, List.setIfInBounds_toArray, List.set_cons_zero, List.set_cons_succ])
            refine wpAnyH_take (i := 8) (v := ?_) rfl (by kernel_rfl) (by kernel_rfl) (by kernel_rfl) (fun _ _ _ h => h) (Or.inl ⟨by rfl, ?_⟩) (by assumption) ?_
            rotate_left
            · intro w hSw; (try dsimp only at hSw); go_simp; (try with_reducible rfl)
            (try simp only [List.getElem_toArray, List.getElem_cons_succ, List.getElem_cons_zero, Act.put, List.setIfInBounds_toArray, List.set_cons_zero, List.set_cons_succ])
            refine wpAnyH_take (i := 9) (v := ?_) rfl (by kernel_rfl) (by kernel_rfl) (by kernel_rfl) (fun _ _ _ h => h) (Or.inl ⟨by rfl, ?_⟩) (by assumption) ?_
            rotate_left
            · intro w hSw; (try dsimp only at hSw); go_simp; (try with_reducible rfl)
            (try simp only [List.getElem_toArray, List.getElem_cons_succ, List.getElem_cons_zero, Act.put, List.setIfInBounds_toArray, List.set_cons_zero, List.set_cons_succ])
            refine wpAnyH_take (i := 10) (v := ?_) rfl (by kernel_rfl) (by kernel_rfl) (by kernel_rfl) (fun _ _ _ h => h) (Or.inl ⟨by rfl, ?_⟩) (by assumption) ?_
            rotate_left
            · intro w hSw; (try dsimp only at hSw); go_simp; (try with_reducible rfl)
            (try simp only [List.getElem_toArray, List.getElem_cons_succ, List.getElem_cons_zero, Act.put, List.setIfInBounds_toArray, List.set_cons_zero, List.set_cons_succ])
            refine wpAnyH_take (i := 11) (v := ?_) rfl (by kernel_rfl) (by kernel_rfl) (by kernel_rfl) (fun _ _ _ h => h) (Or.inl ⟨by rfl, ?_⟩) (by assumption) ?_
            rotate_left
            · intro w hSw; (try dsimp only at hSw); go_simp; (try with_reducible rfl)
            (try simp only [List.getElem_toArray, List.getElem_cons_succ, List.getElem_cons_zero, Act.put, List.setIfInBounds_toArray, List.set_cons_zero, List.set_cons_succ])
            refine wpAnyH_ready (rs := [12]) (by kernel_rfl) (by simp) ?_
            refine AllReadyH.cons rfl (fun K hK => ?_) ?_
            rotate_left
            · exact AllReadyH.nil
            go_simp
            refine Hmade.out.mono ?_; rintro e8 w8 ⟨pp, rfl, hpp, hpw, hb8⟩; have Hk1 := Lib.hid (below_on (on_drew (Below.refl w6.heap.size w6)) hb8); have Hpp := Lib.hid hpp; clear hb8 hpp
            (try go_wp2_with fail)
            refine hK.out _ _ ?_ (fun hHeld => ?_)
            · (try dsimp only); (first | assumption | exact HKS.out _ (on_drew (Below.refl _ _)) | exact HKS.out _ Hk1.out | exact HKS.out _ Hk2.out)
            clear hK K
            (try simp only [List.getElem_toArray, List.getElem_cons_succ, List.getElem_cons_zero, Act.put, List.setIfInBounds_toArray, List.set_cons_zero, List.set_cons_succ])
            refine wpAnyH_ready (rs := [13]) (by kernel_rfl) (by simp) ?_
            refine AllReadyH.cons rfl (fun K hK => ?_) ?_
            rotate_left
            · exact AllReadyH.nil
            go_simp
            refine (Hwith.out w8 pp Hk1.out Hpp.out (Nat.le_trans hw6 hpw)).mono ?_; rintro e9 w9 ⟨hcase, hb9⟩; have Hk2 := Lib.hid (below_on Hk1.out hb9); obtain ⟨r, p', hr, rfl, ht9⟩ : ∃ r p', withOf n L (some (setNd v mm k)) = some r ∧ e9 = .returned (.pointer (some ⟨p', 0, none⟩)) ∧ TreeAt w9 (fun b => (F b ∨ w.heap.size ≤ b) ∨ w8.heap.size ≤ b) (d' + 1 + (d' + 1)) p' r := (by rcases hcase with ⟨h, _⟩ | ⟨r, p', hr, h2, ht3⟩; (have hi := withOf_isSome L n (setNd v mm k); rw [show withOf n L (some (setNd v mm k)) = none from h] at hi; cases hi); exact ⟨r, p', hr, h2, ht3⟩); have Hr9 := Lib.hid (And.intro hr ht9); clear hcase hb9 hr ht9
            (try go_wp2_with fail)
            refine hK.out _ _ ?_ (fun hHeld => ?_)
            · (try dsimp only); (first | assumption | exact HKS.out _ (on_drew (Below.refl _ _)) | exact HKS.out _ Hk1.out | exact HKS.out _ Hk2.out)
            clear hK K
            (try simp only [List.getElem_toArray, List.getElem_cons_succ, List.getElem_cons_zero, Act.put, List.setIfInBounds_toArray, List.set_cons_zero, List.set_cons_succ])
            refine wpAnyH_take (i := 14) (v := ?_) rfl (by kernel_rfl) (by kernel_rfl) (by kernel_rfl) (fun _ _ _ h => h) (Or.inl ⟨by rfl, ?_⟩) (by assumption) ?_
            rotate_left
            · intro w hSw; (try dsimp only at hSw); go_simp; (try with_reducible rfl)
            (try simp only [List.getElem_toArray, List.getElem_cons_succ, List.getElem_cons_zero, Act.put, List.setIfInBounds_toArray, List.set_cons_zero, List.set_cons_succ])
            refine wpAnyH_take (i := 15) (v := ?_) rfl (by kernel_rfl) (by kernel_rfl) (by kernel_rfl) (fun _ _ _ h => h) (Or.inl ⟨by rfl, ?_⟩) (by assumption) ?_
            rotate_left
            · intro w hSw; (try dsimp only at hSw); go_simp; (try with_reducible rfl)
            (try simp only [List.getElem_toArray, List.getElem_cons_succ, List.getElem_cons_zero, Act.put, List.setIfInBounds_toArray, List.set_cons_zero, List.set_cons_succ])
            refine wpAnyH_done (by kernel_rfl) ?_ _
            refine NoPanic.normal ?_
            clear hHeld
            go_wp2_with fail
            go_ret2
            exact ⟨.inr ⟨by rw [Hpe.out], k, r, p', Hsk.out, by rw [← HL.out]; exact Hr9.out.1, rfl, TreeAt.mono (fun b hb _ => by rcases hb with hb | hb; exact hb; exact .inr (Nat.le_trans (Nat.le_trans hw6 Hk1.out.size) hb)) _ _ _ Hr9.out.2⟩, below_on St6.out.low Hk2.out⟩
end Go.Proofs.Ythnbinlllmkabaa
